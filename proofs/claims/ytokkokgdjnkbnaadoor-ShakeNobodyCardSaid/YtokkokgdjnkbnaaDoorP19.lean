/- Texts laid together: Over. -/
import Derived.Test.YtokkokgdjnkbnaaDoorP10
import Derived.Test.YtokkokgdjnkbnaaDoorP8
import Derived.WideShapes
section
/- heddlemem.Over: a link ahead of a list. -/
open Go Go.RowKit
namespace Go.Proofs.YtokkokgdjnkbnaaDoor

theorem LinksIs.app {base base' : Nat} {v lv : Value} {l d : List Lk} {w : World} (h : LinksIs base v l w) (hs : LinksIs base' lv d w) (hl : l.length + d.length ≤ 1000) (hB : base ≤ w.heap.size) :
    ∃ v' w', (Builtin.append_ #[38, 38] 38 #[v, lv]).run Tryd.prog w = .ok v' w' ∧ LinksIs base v' (l ++ d) w' ∧ w.grownBy w' v.ownBlock := by
  obtain ⟨i0, hi, hz0, hz1, hz2⟩ := info_parts Tryd.infoLink
  rcases hs.shape with ⟨rfl, rfl⟩ | ⟨g, c, rfl, hbg, hgw, hgc, hgm⟩
  · refine ⟨v, w, ?_, by simpa using h, ⟨rfl, rfl, rfl, Nat.le_refl _, fun _ _ _ => rfl⟩⟩
    have ht := Tryd.underlying38
    rcases h.shape with ⟨rfl, rfl⟩ | ⟨g, cap, rfl, _, _, hnc, _⟩
    · simp [Builtin.append_, run_underlying ht, sizeOf, typeInfo, hi, Builtin.lenOf, Builtin.firstCells]
    · simp [Builtin.append_, run_underlying ht, sizeOf, typeInfo, hi, Builtin.lenOf, Builtin.firstCells, hnc, storeCells]
  · have hcells : ∀ j u, (linksV d)[j]? = some u → w.cell? ((⟨g, 0, none⟩ : Addr).add j) = some u := by
      obtain ⟨h1, ⟨h2, _⟩ | ⟨g', cap, cur, hv, hbg, hcell, hn, hc, hcs, htake⟩⟩ := hs
      · cases h2
      · cases hv
        intro j u hu
        have hlt : j < (linksV d).length := by
          rcases Nat.lt_or_ge j (linksV d).length with h | h
          · exact h
          · rw [List.getElem?_eq_none h] at hu; cases hu
        rw [WideShapes.add_plain, Nat.zero_add]
        have e : (cur.toList.take (d.length * 3))[j]? = some u := by rw [htake]; exact hu
        rw [linksV_length] at hlt
        rw [List.getElem?_take_of_lt hlt] at e
        simp only [World.cell?, hcell]
        simpa using e
    obtain ⟨v', w', hr, h2, h3, _⟩ := run_append_own_at (P := Tryd.prog) w base 38 38 74 i0 _ 3 32 Tryd.underlying38 hi hz0 hz1 hz2 rfl (by decide) v l.length (linksV l) h ⟨g, 0, none⟩ d.length c (linksV d) (linksV_length d) hcells (linksV_one _) (by unfold maxLen; omega) (by omega) hB
    refine ⟨v', w', hr, ?_, h3⟩
    unfold LinksIs
    rw [linksV_append, List.length_append]
    exact h2

end Go.Proofs.YtokkokgdjnkbnaaDoor
end
