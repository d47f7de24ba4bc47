/- Texts laid together: Over. -/
import Derived.Test.YtkipjbmckpmmfaaDoorV9
import Derived.Test.YtkipjbmckpmmfaaDoorV7
import Derived.WideShapes
section
/- heddlemem.Over: a link ahead of a list. -/
open Go Go.RowKit
namespace Go.Proofs.YtkipjbmckpmmfaaDoor

theorem LinksIs.app {base base' : Nat} {v lv : Value} {l d : List Lk} {w : World} (h : LinksIs base v l w) (hs : LinksIs base' lv d w) (hl : l.length + d.length ≤ 1000) (hB : base ≤ w.heap.size) :
    ∃ v' w', (Builtin.append_ #[38, 38] 38 #[v, lv]).run Tryd.prog w = .ok v' w' ∧ LinksIs base v' (l ++ d) w' ∧ w.grownBy w' v.ownBlock := by
  obtain ⟨i0, hi, hz0, hz1, hz2⟩ := info_parts Tryd.infoLink
  rcases hs.shape with ⟨rfl, rfl⟩ | ⟨g, c, rfl, hbg, hgw, hgc, hgm⟩
  · refine ⟨v, w, ?_, by simpa using h, ⟨rfl, rfl, rfl, Nat.le_refl _, fun _ _ _ => rfl⟩⟩
    have ht := Tryd.underlying38
    rcases h.shape with ⟨rfl, rfl⟩ | ⟨g, cap, rfl, _, _, hnc, _⟩
    · simp [Builtin.append_, run_underlying ht, sizeOf, typeInfo, hi, Builtin.lenOf, Builtin.firstCells]
    · simp [Builtin.append_, run_underlying ht, sizeOf, typeInfo, hi, Builtin.lenOf, Builtin.firstCells, hnc, storeCells]
  · have hcells : ∀ j u, (linksV d)[j]? = some u → w.cell? ((⟨g, 0, none⟩ : Addr).add j) = some u := by
      obtain ⟨h1, ⟨h2, _⟩ | ⟨g', cap, cur, hv, hbg, hcell, hn, hc, hcs, htake⟩⟩ := hs
      · cases h2
      · cases hv
        intro j u hu
        have hlt : j < (linksV d).length := by
          rcases Nat.lt_or_ge j (linksV d).length with h | h
          · exact h
          · rw [List.getElem?_eq_none h] at hu; cases hu
        rw [WideShapes.add_plain, Nat.zero_add]
        have e : (cur.toList.take (d.length * 3))[j]? = some u := by rw [htake]; exact hu
        rw [linksV_length] at hlt
        rw [List.getElem?_take_of_lt hlt] at e
        simp only [World.cell?, hcell]
        simpa using e
    obtain ⟨v', w', hr, h2, h3, _⟩ := run_append_own_at (P := Tryd.prog) w base 38 38 78 i0 _ 3 32 Tryd.underlying38 hi hz0 hz1 hz2 rfl (by decide) v l.length (linksV l) h ⟨g, 0, none⟩ d.length c (linksV d) (linksV_length d) hcells (linksV_one _) (by unfold maxLen; omega) (by omega) hB
    refine ⟨v', w', hr, ?_, h3⟩
    unfold LinksIs
    rw [linksV_append, List.length_append]
    exact h2

set_option maxHeartbeats 4000000 in
set_option maxRecDepth 100000 in
theorem mOver_any (layer : ByteArray) (at_ code : Int) (lv : Value) (l : List Lk) (base : Nat) (w : World) (hlk : LinksIs base lv l w) (hl : l.length ≤ 100) :
    Calls Tryd.prog 55 #[.string layer, .int .i64 at_, .int .i64 code, lv] w fun e w' => ∃ v, e = .returned v ∧ LinksIs w.heap.size v (⟨layer, at_, code⟩ :: l) w' ∧ Below w.heap.size w w' := by
  have L1 := LinksIs.lit (base := w.heap.size) (w := w) ⟨layer, at_, code⟩ (Nat.le_refl _)
  obtain ⟨v2, w2, hrun2, h2, hg2⟩ := (LinksIs.nil w.heap.size (w.alloc (.cells #[.string layer, .int .i64 at_, .int .i64 code] 78 (0, 0)))).app L1 (by simp) (by simp)
  have hb2 : Below w.heap.size w w2 := ((Below.refl _ w).alloc (Nat.le_refl _) _).grown hg2 (by simp) (fun k hk => by cases hk)
  have hlk2 := hlk.below hb2 (Nat.le_refl _)
  obtain ⟨v3, w3, hrun3, h3, hg3⟩ := h2.app hlk2 (by simp; omega) hb2.size
  have hb3 := Lib.hid (below_links hb2 h2 ⟨Nat.le_refl _, hb2.size⟩ hg3)
  have R2 := Lib.hid hrun2
  have R3 := Lib.hid hrun3
  have H3 := Lib.hid h3
  clear hrun2 hrun3 h3 hg3 hg2 hb2 hlk2 h2 L1 hlk
  go_enter Tryd.func55, Tryd.ntmps55
  go_wp2_with (at_builtin; refine stop ?_)
  refine Stopped.of ?_
  refine wp_app_eq rfl (.tmp 10) (.tmp 15) _ _ rfl _ _ v2 w2 rfl rfl R2.out ?_
  go_wp2_with (at_builtin; refine stop ?_)
  refine Stopped.of ?_
  refine wp_app_eq rfl (.tmp 17) (.tmp 18) _ _ rfl _ _ v3 w3 rfl rfl R3.out ?_
  go_wp2
  go_ret
  exact ⟨_, rfl, by simpa using H3.out, hb3.out⟩
end Go.Proofs.YtkipjbmckpmmfaaDoor
end
