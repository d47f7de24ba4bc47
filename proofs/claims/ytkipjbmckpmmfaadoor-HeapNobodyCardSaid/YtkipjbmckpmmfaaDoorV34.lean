/- Texts laid together: HpO, HpP, HpW, HpU, TrC, HpQ, GrA, HpX, HpY, HpZ. -/
import Derived.Test.YtkipjbmckpmmfaaDoorV33
import Derived.BigRegion
import Derived.Test.YtkipjbmckpmmfaaDoorV32
import Derived.Test.YtkipjbmckpmmfaaDoorV25
import Derived.Test.YtkipjbmckpmmfaaDoorV30
import Derived.Test.YtkipjbmckpmmfaaDoorV21
import Derived.Test.YtkipjbmckpmmfaaDoorV26
import Derived.Test.YtkipjbmckpmmfaaDoorV16
import Derived.Test.YtkipjbmckpmmfaaDoorV7
section
/- Package heap: Collect. -/
open Go Go.RowKit
namespace Go.Proofs.YtkipjbmckpmmfaaDoor
set_option linter.unusedVariables false
set_option linter.unusedSimpArgs false

set_option maxHeartbeats 8000000 in
set_option maxRecDepth 100000 in
theorem clip_any {base : Nat} {tv : Value} {l : List Value} {w : World} (h : RowV base 34 tv l w) :
    Calls Tryd.prog 32 #[tv] w fun e w' => ∃ v, e = .returned v ∧ RowX base 34 v l w ∧ v.ownBlock = tv.ownBlock ∧ w = w' := by
  have HH := Lib.hid h
  rcases h with ⟨h1, ⟨rfl, hn⟩ | ⟨g, cap, cur, rfl, hbg, hcell, hn, hc, hcs, htake⟩⟩
  · have : l = [] := List.eq_nil_of_length_eq_zero hn
    subst this
    go_enter Tryd.func32, Tryd.ntmps32
    go_wp2
    go_ret
    exact ⟨_, rfl, .inl (RowV.nil _ _ _), rfl, rfl⟩
  · have hni : (l.length : Int) ≤ (cap : Int) := by omega
    have hn0 : 0 ≤ (l.length : Int) := by omega
    have HX := Lib.hid (show RowX base 34 (.slice (some ⟨g, 0, none⟩) l.length l.length) l w from .inr ⟨g, cur, rfl, hbg, hcell, by omega, by simpa using htake⟩)
    clear h1 hcell hcs htake
    go_enter Tryd.func32, Tryd.ntmps32
    go_wp2
    go_ret
    exact ⟨_, rfl, HX.out, rfl, rfl⟩
theorem Tryd.infoWord : (Tryd.prog.info? 35).map (fun i => (i.zero, i.size, i.bytes)) = some (some (.int .u64 0), 1, 8) := by kernel_rfl
theorem wordsW_app {base : Nat} {S : Nat → Prop} {v dv : Value} {l d : List Nat} {w : World} (h : RowV base 35 v (wordsV l) w) (hd : AtV S dv (wordsV d) w) (hl : l.length + d.length ≤ 17592186044416) (hB : base ≤ w.heap.size) :
    ∃ a' n' c' w', n' = (l ++ d).length ∧ (Builtin.append_ #[55, 55] 55 #[v, dv]).run Tryd.prog w = .ok (.slice a' n' c') w' ∧ RowV base 35 (.slice a' n' c') (wordsV (l ++ d)) w' ∧ w.grownBy w' v.ownBlock ∧ ((Value.slice a' n' c').ownBlock = v.ownBlock ∨ (Value.slice a' n' c').ownBlock = some w.heap.size) := by
  obtain ⟨a', c', w', h1, h2, h3, h4⟩ := RowV.app Tryd.underlying55 Tryd.infoWord rfl h hd (wordsV_one _) (by simp only [wordsV_len]; unfold maxLen; omega) (by simp only [wordsV_len]; omega) hB
  rw [← wordsV_app] at h2
  exact ⟨a', _, c', w', by simp [wordsV_len], h1, h2, h3, h4⟩
theorem wordW_one_at {w : World} (x : Nat) : AtV (fun b => b = w.heap.size) (.slice (some ⟨w.heap.size, 0, none⟩) 1 1) (wordsV [x]) (w.alloc (.cells #[.int .u64 x] 35 (0, 0))) :=
  (RowV.lit (base := 0) (w := w) 35 (wordsV [x]) (Nat.zero_le _) (by simp [wordsV, maxLen])).at_.mono fun b _ hb => (Option.some.inj hb).symm
theorem rootsC_app (h : Hs) (l : List Nat) (w : Nat) (c : Cp) : (rootsC h (l ++ [w]) c).1 = (rootsC h l c).1 ++ [(wordC h w (rootsC h l c).2).1] ∧ (rootsC h (l ++ [w]) c).2 = (wordC h w (rootsC h l c).2).2 := by
  induction l generalizing c with
  | nil => exact ⟨rfl, rfl⟩
  | cons x r ih =>
    simp only [List.cons_append, rootsC]
    obtain ⟨h1, h2⟩ := ih (wordC h x c).2
    rw [h1, h2]
    exact ⟨rfl, rfl⟩
theorem rootsC_len (h : Hs) (l : List Nat) (c : Cp) : (rootsC h l c).1.length = l.length := by
  induction l generalizing c with
  | nil => rfl
  | cons x r ih => simp only [rootsC, List.length_cons, ih]
theorem CpIs.below {g cg : Nat} {c : Cp} {G : Nat → Prop} {w w' : World} (h : CpIs g cg c G w) (hb : Below w.heap.size w w') : CpIs g cg c G w' := by
  obtain ⟨⟨tv, mb, h1, h2, h3, h4, h5, h6⟩, a, b, d, e⟩ := h
  exact ⟨⟨tv, mb, h1.below hb, h2.below hb, h3.frame (hb.block mb h3.lt), h4, h5, h6⟩, a, b, d, fun q hq => Nat.lt_of_lt_of_le (e q hq) hb.size⟩
theorem CpIs.keep {g cg : Nat} {c : Cp} {G S : Nat → Prop} {w w' : World} (h : CpIs g cg c G w) (k : Keep S w w') (hS : ∀ b, G b → ¬ S b) : CpIs g cg c G w' := by
  obtain ⟨⟨tv, mb, h1, h2, h3, h4, h5, h6⟩, a, b, d, e⟩ := h
  exact ⟨⟨tv, mb, h1.keep k (hS _ h4), h2.keep k (fun q hq => hS q (h6 q hq)), h3.frame (k.block mb h3.lt (hS _ h5)), h4, h5, h6⟩, a, b, d, fun q hq => Nat.lt_of_lt_of_le (e q hq) k.size⟩
theorem wordsV_set (l : List Nat) (k z : Nat) : wordsV (l.set k z) = (wordsV l).set k (.int .u64 (z : Nat)) := by simp [wordsV, wordV, List.map_set]
/-- what is copied, read and turned at one place -/
theorem CpIs.put {g cg : Nat} {c : Cp} {G : Nat → Prop} {w : World} (h : CpIs g cg c G w) {k : Nat} (hk : k < c.to_.length) :
    ∃ gt ct, w.cell? ⟨cg, 1, none⟩ = some (.slice (some ⟨gt, 0, none⟩) c.to_.length ct) ∧ G gt ∧ c.to_.length ≤ ct ∧ w.cell? ⟨gt, k, none⟩ = some (.int .u64 (c.to_.getD k 0 : Nat)) ∧ w.frozen? ⟨gt, k, none⟩ = false ∧
      ∀ z, z < 18446744073709551616 → CpIs g cg ⟨c.to_.set k z, c.ks⟩ G (w.setCell ⟨gt, k, none⟩ (.int .u64 (z : Nat))) := by
  obtain ⟨⟨tv, mb, h1, h2, h3, h4, h5, h6⟩, a, b, d, e⟩ := h
  obtain ⟨gt, ct, rfl, _, hlt, hle, _⟩ : ∃ gt ct, tv = .slice (some ⟨gt, 0, none⟩) (wordsV c.to_).length ct ∧ 0 ≤ gt ∧ gt < w.heap.size ∧ (wordsV c.to_).length ≤ ct ∧ ct ≤ maxLen := by
    rcases h2.shape with ⟨_, e⟩ | e
    · have := congrArg List.length e
      rw [wordsV_len] at this
      simp only [List.length_nil] at this
      omega
    · exact e
  have c1 := h1.cell 1
  simp only [List.getElem?_cons_zero, List.getElem?_cons_succ] at c1
  have n1 := h2.ne_cells h1 (by decide)
  have n1' : cg ≠ gt := fun e => n1 (by rw [e]; rfl)
  obtain ⟨_, _, cur, hcur⟩ := h2.block (g := gt) rfl
  have hcc : Cells w gt 34 cur.toList := by unfold Cells; simpa using hcur
  rw [wordsV_len] at c1 hle
  refine ⟨gt, ct, c1, h6 gt rfl, hle, ?_, hcc.frozen k, fun z hz => ?_⟩
  · rw [h2.cell k (by rw [wordsV_len]; exact hk), wordsV_get]
  · refine ⟨⟨.slice (some ⟨gt, 0, none⟩) (wordsV c.to_).length ct, mb, h1.far n1' _, ?_, h3.frame (Below.heap_setCell _ _ _ _ (fun e => h3.ne_cells hcur e.symm)), h4, h5, h6⟩, ?_, by simpa using b, d, fun q hq => by simpa [World.setCell] using e q hq⟩
    · rw [wordsV_set]
      exact h2.set_ k _ rfl
    · intro x hx
      rcases List.mem_or_eq_of_mem_set hx with hx | rfl
      · exact a x hx
      · exact hz
theorem flatO_snoc_len (pre : List (Nat × List Nat)) (x : Nat) (b : List Nat) : (flatO (pre ++ [(x, b)])).length = (flatO pre).length + 1 + b.length := by
  rw [flatO_app, flatO_cons]
  simp [flatO]
  omega
/-- Collect's answer -/
def ColR (half g : Nat) (F : Nat → Prop) (w : World) (r : List Nat × Hs) (e : Ending) (w' : World) : Prop := ∃ ov, e = .returned (.tuple #[ov, .nilIface]) ∧ RowV w.heap.size 35 ov (wordsV r.1) w' ∧ HpRes half g F w r.2 w'
set_option maxHeartbeats 16000000 in
set_option maxRecDepth 100000 in
theorem collect_any {half : Nat} {h : Hs} {g : Nat} {F S : Nat → Prop} (roots : List Nat) (lv : Value) (w : World) (hp : HpIs half h g F w) (hlv : AtV S lv (wordsV roots) w) (hS : ∀ b, S b → b < w.heap.size) (hws : ∀ q ∈ roots, q < 18446744073709551616) (hl : h.l.length ≤ half) (hrl : roots.length ≤ 1099511627776) :
    Calls Tryd.prog 15 #[.pointer (some ⟨g, 0, none⟩), lv] w (ColR half g F w (collectC h roots)) := by
  have hmm := @run_makeMap Tryd.prog
  have HP := Lib.hid hp
  have HM := Lib.hid (made_of hp)
  have HLV := Lib.hid hlv
  have HS := Lib.hid hS
  have HWS := Lib.hid hws
  have HL := Lib.hid (show h.l.length ≤ 524288 by have := hp.half_; omega)
  have HRL := Lib.hid hrl
  obtain ⟨la, lc, rfl⟩ := hlv.form
  rw [wordsV_len] at *
  clear hp hlv hS hws hl hrl
  go_enter Tryd.func15, Tryd.ntmps15
  go_wp2_with fail
  refine HM.out.mono ?_
  rintro e w1 ⟨rfl, rfl⟩
  have HFN := Lib.hid HP.out.nf
  have BC := Lib.hid (((Below.refl w.heap.size w).alloc (Nat.le_refl _) (.map #[] 0)).alloc (by simp) (.cells #[.pointer (some ⟨g, 0, none⟩), .slice none 0 0, .map (some w.heap.size)] 83 (0, 0)))
  have C0 := Lib.hid (show CpIs g (w.heap.size + 1) ⟨[], []⟩ (fun b => w.heap.size ≤ b ∧ b < w.heap.size + 2) ((w.alloc (.map #[] 0)).alloc (.cells #[.pointer (some ⟨g, 0, none⟩), .slice none 0 0, .map (some w.heap.size)] 83 (0, 0))) from
    ⟨⟨.slice none 0 0, w.heap.size, by simpa using Cells.new (w.alloc (.map #[] 0)) 83 [.pointer (some ⟨g, 0, none⟩), .slice none 0 0, .map (some w.heap.size)], RowV.nil _ _ _, (MapW.made w).alloc _, by simp, by simp, fun b hb => by cases hb⟩, (fun x hx => by cases hx), by decide, by decide, fun b hb => by simp; omega⟩)
  go_wp2_with fail
  generalize (w.alloc (.map #[] 0)).alloc (.cells #[.pointer (some ⟨g, 0, none⟩), .slice none 0 0, .map (some w.heap.size)] 83) = W1 at *
  go_loopw [7, 9, 25] (fun v xv i wr => ∃ (kk : Nat) (G : Nat → Prop) (os : List (Nat × List Nat)), kk ≤ roots.length ∧ i = .int .i64 kk ∧ RowV w.heap.size 35 v (wordsV (rootsC h (roots.take kk) ⟨[], []⟩).1) wr ∧ CpIs g (w.heap.size + 1) (rootsC h (roots.take kk) ⟨[], []⟩).2 G wr ∧ CpOk h os (rootsC h (roots.take kk) ⟨[], []⟩).2 ∧ Below w.heap.size w wr ∧ (∀ b, G b → w.heap.size ≤ b) ∧ (∀ b, v.ownBlock = some b → ¬ G b)) (fun _ _ i _ => roots.length - (intOf i).toNat)
  case atStart => exact ⟨0, _, [], Nat.zero_le _, rfl, RowV.nil _ _ _, C0.out, CpOk.empty h, BC.out, (fun b hb => hb.1), (fun b hb => by cases hb)⟩
  case round =>
    obtain ⟨kk, G, os, hkk, rfl, hrow, hcp, hok, hbr, hg, hvg⟩ := hrel
    obtain ⟨va, vn, vc, rfl⟩ : ∃ a n c, u7 = .slice a n c := by obtain ⟨a, c, e⟩ := hrow.form; exact ⟨a, _, c, e⟩
    have HROW := Lib.hid hrow
    have HCP := Lib.hid hcp
    have HOKC := Lib.hid hok
    have HBR := Lib.hid hbr
    have HGG := Lib.hid hg
    have HVG := Lib.hid hvg
    have HPR := Lib.hid (HP.out.below hbr)
    clear hrow hcp hok hbr hg hvg
    by_cases hk : kk < roots.length
    · have hki : (kk : Int) < (roots.length : Int) := by omega
      have hk0 : (0 : Int) ≤ (kk : Int) := by omega
      have hkw1 : IntKind.i64.wrap ((kk : Int) + 1) = (kk : Int) + 1 := IntWalk.i64_in _ (by have := HRL.out; omega)
      obtain ⟨g2, o2, rfl, hg2, hcs⟩ := AtV.cell (n := roots.length) HLV.out (by intro e; have := congrArg List.length e; rw [wordsV_len, List.length_nil] at this; omega)
      have e0 := hcs kk (by rw [wordsV_len]; exact hk)
      rw [wordsV_get _ _ (by rw [wordsV_len]; exact hk)] at e0
      have hgx : roots.getD kk 0 = roots[kk] := by simp [List.getD, hk]
      rw [hgx] at e0
      have e1 := (HBR.out.cell (World.block_lt_of_cell? _ _ e0)).trans e0
      have hxl := HWS.out roots[kk] (List.getElem_mem _)
      have hll := HL.out
      have HCALL := Lib.hid (wordC_any HPR.out HCP.out (fun b h1 h2 => by have := HGG.out b h1; have := (HFN.out b h2).1; omega) roots[kk] hxl (by have := HOKC.out.len hll; omega) (by have := HOKC.out.ks_le; omega) HOKC.out.look)
      obtain ⟨ext, hok2, hx2⟩ := wordC_ok HOKC.out HP.out.word hll roots[kk] hxl
      have HOK2 := Lib.hid hok2
      obtain ⟨hr1, hr2⟩ := rootsC_app h (roots.take kk) roots[kk] ⟨[], []⟩
      rw [← List.take_succ_eq_append_getElem hk] at hr1 hr2
      have HR1 := Lib.hid hr1
      have HR2 := Lib.hid hr2
      have HLQ := Lib.hid (show (rootsC h (roots.take kk) ⟨[], []⟩).1.length + 1 ≤ 17592186044416 from by rw [rootsC_len, List.length_take]; have := HRL.out; omega)
      clear hcs hgx e0 hxl hll hok2 hx2 hr1 hr2
      generalize rootsC h (roots.take kk) ⟨[], []⟩ = Q at *
      obtain ⟨q1, q2⟩ := Q
      dsimp only at HROW HCP HOKC HCALL HOK2 HR1 HR2 HLQ ⊢
      generalize wordC h roots[kk] q2 = R at *
      obtain ⟨X, c2⟩ := R
      dsimp only at HCALL HOK2 HR1 HR2
      generalize roots[kk] = x at *
      go_wp2_with fail
      refine HCALL.out.mono ?_
      rintro e w5 ⟨rfl, G2, hcp2, hk2, hg2b⟩
      have row5 := HROW.out.keep hk2 (fun b hb => HVG.out b hb)
      have BL5 := Lib.hid ((Below.refl w5.heap.size w5).alloc (Nat.le_refl _) (.cells #[.int .u64 X] 35 (0, 0)))
      have B5 := Lib.hid (below_keep HBR.out hk2 HBR.out.size HGG.out)
      obtain ⟨a7, n7, c7, w7, hn7, hr7, hrow7, hg7, hob7⟩ := wordsW_app (S := fun b => b = w5.heap.size) (row5.alloc (.cells #[.int .u64 X] 35 (0, 0))) (wordW_one_at (w := w5) X) (by have := HLQ.out; simp; omega) (by have := B5.out.size; rw [World.size_alloc]; omega)
      have HR7 := Lib.hid hr7
      have HROW7 := Lib.hid hrow7
      have hv2 : ∀ b, (Value.slice va vn vc).ownBlock = some b → ¬ G2 b := fun b hb e => by
        rcases hg2b b e with e | e
        · exact HVG.out b hb e
        · have := (HROW.out.block hb).2.1; omega
      have HCP7 := Lib.hid ((hcp2.below BL5.out).keep (S := fun b => (Value.slice va vn vc).ownBlock = some b) ((Keep.refl _ _).grown hg7 (fun k hk _ => hk)) (fun b hb e => hv2 b e hb))
      have B7 := Lib.hid ((B5.out.alloc B5.out.size (.cells #[.int .u64 X] 35 (0, 0))).grown hg7 (by have := B5.out.size; rw [World.size_alloc]; omega) (fun k hk => (HROW.out.block hk).1))
      have HG7 := Lib.hid (show ∀ b, G2 b → w.heap.size ≤ b from fun b hb => by
        rcases hg2b b hb with e | e
        · exact HGG.out b e
        · have := HBR.out.size; omega)
      have HV7 := Lib.hid (show ∀ b, (Value.slice a7 n7 c7).ownBlock = some b → ¬ G2 b from fun b hb e => by
        rcases hob7 with e1 | e1
        · rw [e1] at hb; exact hv2 b hb e
        · rw [e1] at hb; cases hb; have := hcp2.nf _ e; rw [World.size_alloc] at this; omega)
      clear hcp2 hk2 hg2b row5 hn7 hr7 hrow7 hg7 hob7 hv2 e1 HCALL
      go_wp2_with (at_builtin; refine stop ?_)
      refine Stopped.of ?_
      refine wp_app_eq rfl (.tmp 29) (.tmp 33) _ _ rfl _ _ (.slice a7 n7 c7) w7 rfl rfl HR7.out ?_
      go_wp2
      go_roundw
      case rel =>
        refine ⟨kk + 1, G2, os ++ ext, by omega, by go_num, ?_, ?_, ?_, B7.out, HG7.out, HV7.out⟩
        · rw [HR1.out]; exact HROW7.out
        · rw [HR2.out]; exact HCP7.out
        · rw [HR2.out]; exact HOK2.out
      case measure => simp [intOf]; omega
    · have hki : ¬ (kk : Int) < (roots.length : Int) := by omega
      rw [List.take_of_length_le (show roots.length ≤ kk by omega)] at HROW HCP HOKC
      have HRS := Lib.hid (show collectC h roots = ((rootsC h roots ⟨[], []⟩).1, ⟨(scanC h (h.l.length + 1) 0 (rootsC h roots ⟨[], []⟩).2).to_, h.at_⟩) from rfl)
      generalize rootsC h roots ⟨[], []⟩ = Q at *
      obtain ⟨q1, q0⟩ := Q
      dsimp only at HROW HCP HOKC HRS
      go_wp2_with fail
      go_loopw [10, 11, 12, 13, 14] (fun a kv nv k x wi => ∃ (pre post : List (Nat × List Nat)) (c : Cp) (G2 : Nat → Prop) (f : Nat), a = .int .i64 ((flatO pre).length : Nat) ∧ CpOk h (pre ++ post) c ∧ CpIs g (w.heap.size + 1) c G2 wi ∧ Below w.heap.size w wi ∧ (∀ b, G2 b → w.heap.size ≤ b) ∧ RowV w.heap.size 35 (.slice va vn vc) (wordsV q1) wi ∧ (∀ b, (Value.slice va vn vc).ownBlock = some b → ¬ G2 b) ∧ scanC h f (flatO pre).length c = scanC h (h.l.length + 1) 0 q0 ∧ h.l.length + 1 ≤ f + pre.length) (fun a _ _ _ _ _ => 274877906945 - (intOf a).toNat)
      case atStart => exact ⟨[], os, q0, G, h.l.length + 1, rfl, HOKC.out, HCP.out, HBR.out, HGG.out, HROW.out, HVG.out, rfl, Nat.le_refl _⟩
      case round =>
        clear HROW HCP HOKC HBR HGG HVG HPR
        obtain ⟨pre, post, c, G2, f, rfl, hok, hcp, hbr, hg, hrow, hvg, hsc, hf⟩ := hrel
        have HROW := Lib.hid hrow
        have HCP := Lib.hid hcp
        have HOKC := Lib.hid hok
        have HBR := Lib.hid hbr
        have HGG := Lib.hid hg
        have HVG := Lib.hid hvg
        have HPR := Lib.hid (HP.out.below hbr)
        have HSC := Lib.hid hsc
        have HF := Lib.hid hf
        have hlen := hok.len HL.out
        have HLEN := Lib.hid hlen
        clear hrow hok hbr hg hvg hsc hf
        by_cases ha : (flatO pre).length < c.to_.length
        · obtain ⟨x, bd, post, rfl⟩ : ∃ x bd p2, post = (x, bd) :: p2 := by
            cases post with
            | nil => have := HOKC.out.to_; rw [this] at ha; simp at ha
            | cons o p2 => exact ⟨o.1, o.2, p2, rfl⟩
          obtain ⟨hd1, _, hd2, hd3⟩ := HOKC.out.head
          dsimp only at hd1 hd2 hd3
          have hx64 := (HOKC.out.each (x, bd) (by simp)).h64
          dsimp only at hx64
          obtain ⟨gt, ct, c1, _, hct, cA, _, _⟩ := hcp.put ha
          rw [hd1] at cA
          have HSTEP := Lib.hid (show stepC h (flatO pre).length c = if x % 256 ≤ 2 then bodyC h ((flatO pre).length + 1) bd.length c else c by unfold stepC; rw [hd1, hd2])
          have HSTEP2 := Lib.hid (show ∀ f', scanC h (f' + 1) (flatO pre).length c = scanC h f' ((flatO pre).length + 1 + bd.length) (if x % 256 ≤ 2 then bodyC h ((flatO pre).length + 1) bd.length c else c) from fun f' => by
            rw [← HSTEP.out]
            show (if (flatO pre).length < c.to_.length then _ else _) = _
            rw [if_pos ha, hd1, hd2])
          generalize hA : (flatO pre).length = A at *
          have HA := Lib.hid hA
          have hX := and255 x hx64
          have hkk256 : x % 256 < 256 := by omega
          obtain ⟨K, hK⟩ : ∃ K, x % 256 = K := ⟨_, rfl⟩
          have HK := Lib.hid hK
          rw [hK] at hX hkk256
          have HN := Lib.hid hd2
          obtain ⟨n, hn⟩ : ∃ n, bd.length = n := ⟨_, rfl⟩
          have HBN := Lib.hid hn
          rw [hn] at hd2 hd3
          rw [hn, hK] at HSTEP2
          have hni : (x : Int) / 256 = (n : Int) := by omega
          have hw9 : IntKind.i64.wrap ((1 : Int) + (n : Int)) = ((1 + n : Nat) : Int) := by rw [show ((1 : Int) + (n : Int)) = ((1 + n : Nat) : Int) by omega]; exact IntWalk.i64_in _ (by omega)
          have hw10 : IntKind.i64.wrap ((A : Int) + ((1 + n : Nat) : Int)) = ((A + 1 + n : Nat) : Int) := by rw [show ((A : Int) + ((1 + n : Nat) : Int)) = ((A + 1 + n : Nat) : Int) by omega]; exact IntWalk.i64_in _ (by omega)
          have HW11 := Lib.hid (show RowKit.wrap64 ((A : Int) + (1 + (n : Int))) = ((A + 1 + n : Nat) : Int) from by unfold RowKit.wrap64; omega)
          have HAM := Lib.hid (show A + 1 + n ≤ 274877906944 by omega)
          have hai : (A : Int) < (c.to_.length : Int) := by omega
          have ha0 : (0 : Int) ≤ (A : Int) := by omega
          have hw1 : IntKind.i64.wrap ((A : Int) + 1) = ((A + 1 : Nat) : Int) := by rw [show ((A : Int) + 1) = ((A + 1 : Nat) : Int) by omega]; exact IntWalk.i64_in _ (by omega)
          have hw7 : IntKind.i64.wrap (n : Int) = (n : Int) := IntWalk.i64_in _ (by omega)
          have hw8 : IntKind.i64.wrap (K : Int) = (K : Int) := IntWalk.i64_in _ (by omega)
          have hwan : IntKind.i64.wrap ((A : Int) + (n : Int)) = ((A + n : Nat) : Int) := by rw [show ((A : Int) + (n : Int)) = ((A + n : Nat) : Int) by omega]; exact IntWalk.i64_in _ (by omega)
          have HC := Lib.hid (show ∃ z : Nat, z = 0 from ⟨0, rfl⟩)
          clear hcp hd1 hA hK hn hlen hd2
          go_wp2_with fail
          go_region
          go_wp2
          go_loopw [13, 14] (fun kv xv wi => ∃ (b1 b2 : List Nat) (post : List (Nat × List Nat)) (c2 : Cp) (G2 : Nat → Prop), kv = .int .i64 ((A + 1 + b1.length : Nat) : Int) ∧ b1.length + b2.length = n ∧ CpOk h (pre ++ (x, b1 ++ b2) :: post) c2 ∧ CpIs g (w.heap.size + 1) c2 G2 wi ∧ Below w.heap.size w wi ∧ (∀ b, G2 b → w.heap.size ≤ b) ∧ RowV w.heap.size 35 (.slice va vn vc) (wordsV q1) wi ∧ (∀ b, (Value.slice va vn vc).ownBlock = some b → ¬ G2 b) ∧ (K ≤ 2 → bodyC h (A + 1 + b1.length) b2.length c2 = bodyC h (A + 1) n c) ∧ (¬ K ≤ 2 → c2 = c)) (fun k _ _ => 274877906945 - (intOf k).toNat)
          case atStart => exact ⟨[], bd, post, c, G2, rfl, by rw [← HBN.out]; simp, HOKC.out, HCP.out.drewN 1, HBR.out.drew, HGG.out, HROW.out.drewN 1, HVG.out, fun _ => by rw [HBN.out]; rfl, fun _ => rfl⟩
          case round =>
            have HCT := Lib.hid hct
            have C1 := Lib.hid c1
            clear HROW HCP HOKC HBR HGG HVG HPR HLEN hct c1 cA
            obtain ⟨b1, b2, post, c2, G2, rfl, hbn, hok, hcp, hbr, hg, hrow, hvg, hb1, hb2⟩ := hrel
            have HROW := Lib.hid hrow
            have HCP := Lib.hid hcp
            have HOKC := Lib.hid hok
            have HBR := Lib.hid hbr
            have HGG := Lib.hid hg
            have HVG := Lib.hid hvg
            have HPR := Lib.hid (HP.out.below hbr)
            have hlen2 := hok.len HL.out
            have HB1 := Lib.hid hb1
            have HB2 := Lib.hid hb2
            clear hrow hok hbr hg hvg hb1 hb2
            by_cases hgo : A + 1 + b1.length ≤ A + n ∧ K ≤ 2
            · obtain ⟨y, b3, rfl⟩ : ∃ y b3, b2 = y :: b3 := by
                cases b2 with
                | nil => simp only [List.length_nil] at hbn; omega
                | cons y b3 => exact ⟨y, b3, rfl⟩
              obtain ⟨hy, hkl⟩ := HOKC.out.at_ (k := A + 1 + b1.length) (by rw [HA.out])
              have hy64 : y < 18446744073709551616 := (HOKC.out.each (x, b1 ++ y :: b3) (by simp)).b64 y (by simp)
              obtain ⟨gt2, ct2, d1, _, hct2, dA, _, _⟩ := hcp.put hkl
              rw [hy] at dA
              have hll := HL.out
              have HCALL := Lib.hid (wordC_any HPR.out HCP.out (fun b h1 h2 => by have := HGG.out b h1; have := (HFN.out b h2).1; omega) y hy64 (by omega) (by have := HOKC.out.ks_le; omega) HOKC.out.look)
              obtain ⟨ext, hok2, hz⟩ := wordC_ok HOKC.out HP.out.word hll y hy64
              rw [List.append_assoc, List.cons_append] at hok2
              obtain ⟨_, hkl3⟩ := hok2.at_ (k := A + 1 + b1.length) (by rw [HA.out])
              have HOK3 := Lib.hid (hok2.set_ hz (k := A + 1 + b1.length) (by rw [HA.out]))
              have HBS := Lib.hid (show bodyC h (A + 1 + b1.length) (y :: b3).length c2 = bodyC h (A + 1 + b1.length + 1) b3.length ⟨(wordC h y c2).2.to_.set (A + 1 + b1.length) (wordC h y c2).1, (wordC h y c2).2.ks⟩ by
                rw [List.length_cons, bodyC, hy])
              rw [HBS.out] at HB1
              have hlen3 := hok2.len hll
              have HZ := Lib.hid hz
              have hgo1 := hgo.1
              have hgo2 := hgo.2
              clear hok2 hy hz HBS hcp hgo
              generalize wordC h y c2 = R at *
              obtain ⟨Z, c3⟩ := R
              dsimp only at HCALL HOK3 HB1 HZ hkl3 hlen3
              rw [List.length_cons] at hbn
              have HBN3 := Lib.hid hbn
              generalize hk1 : A + 1 + b1.length = k1 at *
              have HK1 := Lib.hid hk1
              have hg1 : (k1 : Int) ≤ ((A + n : Nat) : Int) := by omega
              have hg2 : (K : Int) ≤ 2 := by omega
              have hk0 : (0 : Int) ≤ (k1 : Int) := by omega
              have hki : (k1 : Int) < (c2.to_.length : Int) := by omega
              have hki3 : (k1 : Int) < (c3.to_.length : Int) := by omega
              have hkw : IntKind.i64.wrap ((k1 : Int) + 1) = ((k1 + 1 : Nat) : Int) := by rw [show ((k1 : Int) + 1) = ((k1 + 1 : Nat) : Int) by omega]; exact IntWalk.i64_in _ (by omega)
              have HKM := Lib.hid (show k1 < 274877906944 by omega)
              clear hk1 hbn hgo1 hgo2 hkk256 hni hd3 ha hai hlen2 hlen3
              go_wp2_with fail
              refine HCALL.out.mono ?_
              rintro e w5 ⟨rfl, G3, hcp3, hk3, hg3⟩
              obtain ⟨gt3, ct3, e1, hG3, hct3, eA, ef, hput⟩ := hcp3.put hkl3
              have HPUT := Lib.hid (hput Z HZ.out)
              have HG3 := Lib.hid (show ∀ b, G3 b → w.heap.size ≤ b from fun b hb => by
                rcases hg3 b hb with e | e
                · exact HGG.out b e
                · have := HBR.out.size; omega)
              have HV3 := Lib.hid (show ∀ b, (Value.slice va vn vc).ownBlock = some b → ¬ G3 b from fun b hb e => by
                rcases hg3 b e with e | e
                · exact HVG.out b hb e
                · have := (HROW.out.block hb).2.1; omega)
              have B3 := Lib.hid ((below_keep HBR.out hk3 HBR.out.size HGG.out).setCell (p := ⟨gt3, k1, none⟩) (HG3.out gt3 hG3) (.int .u64 (Z : Nat)))
              have ROW3 := Lib.hid ((HROW.out.keep hk3 (fun b hb => HVG.out b hb)).frame (w' := w5.setCell ⟨gt3, k1, none⟩ (.int .u64 (Z : Nat))) (fun b hb => Below.heap_setCell _ _ _ _ (fun e => HV3.out b hb (by have e : b = gt3 := e; rw [e]; exact hG3))))
              clear hcp3 hk3 hg3 hput hG3 HCALL
              go_wp2
              go_roundw
              case rel =>
                refine ⟨b1 ++ [Z], b3, post ++ ext, ⟨c3.to_.set k1 Z, c3.ks⟩, G3, ?_, ?_, ?_, HPUT.out, B3.out, HG3.out, ROW3.out, HV3.out, ?_, ?_⟩
                · rw [List.length_append, List.length_singleton, ← Nat.add_assoc, HK1.out, show ((k1 + 1 : Nat) : Int) = (k1 : Int) + 1 from by omega]
                · rw [List.length_append, List.length_singleton]; have := HBN3.out; omega
                · rw [List.append_assoc]; exact HOK3.out
                · intro hk; rw [List.length_append, List.length_singleton, ← Nat.add_assoc, HK1.out]; exact HB1.out hk
                · intro hk; exact absurd (show K ≤ 2 by omega) hk
              case measure => have := HKM.out; simp [intOf]; omega
            · have key : c2 = if K ≤ 2 then bodyC h (A + 1) n c else c := by
                by_cases hk : K ≤ 2
                · rw [if_pos hk, ← HB1.out hk]
                  have : b2 = [] := List.eq_nil_of_length_eq_zero (by omega)
                  subst this
                  rfl
                · rw [if_neg hk]; exact HB2.out hk
              have hks := HOKC.out.ks_le
              rw [← HOKC.out.cnt, List.length_append, List.length_cons] at hks
              obtain ⟨f', rfl⟩ : ∃ f', f = f' + 1 := ⟨f - 1, by have := HF.out; omega⟩
              have HSC2 := Lib.hid (show scanC h f' (A + 1 + n) c2 = scanC h (h.l.length + 1) 0 q0 by rw [key, ← HSTEP2.out]; exact HSC.out)
              have HF2 := Lib.hid (show h.l.length + 1 ≤ f' + (pre ++ [(x, b1 ++ b2)]).length by rw [List.length_append, List.length_singleton]; have := HF.out; omega)
              have HL2 := Lib.hid (show (flatO (pre ++ [(x, b1 ++ b2)])).length = A + 1 + n by rw [flatO_snoc_len, HA.out, List.length_append]; omega)
              have HO2 := Lib.hid (show CpOk h ((pre ++ [(x, b1 ++ b2)]) ++ post) c2 by rw [List.append_assoc]; exact HOKC.out)
              clear key hks hcp
              by_cases hg : A + 1 + b1.length ≤ A + n
              · have hg1 : ((A + 1 + b1.length : Nat) : Int) ≤ ((A + n : Nat) : Int) := by omega
                have hg2 : ¬ (K : Int) ≤ 2 := by omega
                have hg3 : decide ((K : Int) ≤ 2) = false := by simp; omega
                clear hgo hbn hkk256 hni hd3 ha hai hlen2 hg
                go_wp2
                go_roundw
                case rel =>
                  refine ⟨pre ++ [(x, b1 ++ b2)], post, c2, G2, f', by rw [HL2.out, HW11.out], HO2.out, HCP.out, HBR.out, HGG.out, HROW.out, HVG.out, by rw [HL2.out]; exact HSC2.out, HF2.out⟩
                case measure => have := HAM.out; rw [HW11.out]; simp [intOf]; omega
              · have hg1 : ¬ ((A + 1 + b1.length : Nat) : Int) ≤ ((A + n : Nat) : Int) := by omega
                have hg3 : decide (((A + 1 + b1.length : Nat) : Int) ≤ ((A + n : Nat) : Int)) = false := by simp; omega
                clear hgo hbn hkk256 hni hd3 ha hai hlen2 hg
                go_wp2
                go_roundw
                case rel =>
                  refine ⟨pre ++ [(x, b1 ++ b2)], post, c2, G2, f', by rw [HL2.out, HW11.out], HO2.out, HCP.out, HBR.out, HGG.out, HROW.out, HVG.out, by rw [HL2.out]; exact HSC2.out, HF2.out⟩
                case measure => have := HAM.out; rw [HW11.out]; simp [intOf]; omega
        · obtain ⟨ta, tc, c1⟩ : ∃ ta tc, wr.cell? ⟨w.heap.size + 1, 1, none⟩ = some (.slice ta c.to_.length tc) := by
            obtain ⟨⟨tv, mb, h1, h2, h3, h4, h5, h6⟩, _⟩ := hcp
            obtain ⟨ta, tc, e⟩ := h2.form
            have c1 := h1.cell 1
            simp only [List.getElem?_cons_zero, List.getElem?_cons_succ] at c1
            rw [e, wordsV_len] at c1
            exact ⟨ta, tc, c1⟩
          have hai : ¬ ((flatO pre).length : Int) < (c.to_.length : Int) := by omega
          have HCP := Lib.hid hcp
          have HEND := Lib.hid (show scanC h f (flatO pre).length c = c from by cases f with
            | zero => rfl
            | succ f => unfold scanC; rw [if_neg ha])
          obtain ⟨tv, mb, p1, p2, p3, p4, p5, p6⟩ := hcp.ex
          have pc := p1.cell 1
          simp only [List.getElem?_cons_zero, List.getElem?_cons_succ] at pc
          rw [c1] at pc
          have pc := (Option.some.inj pc).symm
          subst pc
          have HCLIP := Lib.hid (clip_any p2)
          have HP2 := Lib.hid p2
          have HP6 := Lib.hid p6
          clear hcp p1 p2 p3 p4 p5 p6
          obtain ⟨⟨lv, av, hmb, h1, h2, h3, h4, h5, h6, h7, h8⟩, -, -, -, hal, hnf⟩ := HPR.out
          have D1 := Lib.hid h1
          have D3 := Lib.hid h3
          have D4 := Lib.hid h4
          have D5 := Lib.hid h5
          have D6 := Lib.hid h6
          have D8 := Lib.hid h8
          have DAL := Lib.hid hal
          have DNF := Lib.hid hnf
          have fz1 := h1.frozen 1
          have cg0 := h1.cell 0
          have cg1 := h1.cell 1
          simp only [List.getElem?_cons_zero, List.getElem?_cons_succ] at cg0 cg1
          clear h1 h2 h3 h4 h5 h6 h7 h8 hal hnf
          go_wp2_with fail
          refine HCLIP.out.mono ?_
          rintro e w2 ⟨cv, rfl, hx, hob, rfl⟩
          obtain ⟨xa, xc, rfl⟩ := hx.form
          have XR := Lib.hid hx
          have XO := Lib.hid hob
          clear hx hob
          go_wp2
          go_ret2
          rw [HRS.out, ← HSC.out, HEND.out]
          generalize hcvd : Value.slice xa (wordsV c.to_).length xc = cv at *
          have ncg : ∀ b, cv.ownBlock = some b → b ≠ g := fun b hb e => XR.out.ne_cells D1.out (by decide) (by rw [hb, e])
          have CF := D1.out.set_ 1 cv
          have XF := XR.out.frame (w' := wr.setCell ⟨g, 1, none⟩ cv) (fun b hb => Below.heap_setCell _ _ _ _ (ncg b hb))
          have SF := D3.out.frame (w' := wr.setCell ⟨g, 1, none⟩ cv) (fun b hb => Below.heap_setCell _ _ _ _ (fun e => D3.out.ne_cells D1.out (by decide) (by rw [hb, e])))
          have MF := D4.out.frame (w' := wr.setCell ⟨g, 1, none⟩ cv) (Below.heap_setCell _ _ _ _ (fun e => D4.out.ne_cells D1.out e.symm))
          have hgw : g < w.heap.size := (HFN.out g D5.out).1
          refine ⟨.slice va vn vc, rfl, HROW.out.frame (fun b hb => Below.heap_setCell _ _ _ _ (fun e => by
            have e : b = g := e
            have := (HROW.out.block hb).1
            omega)), fun b => F b ∨ cv.ownBlock = some b, ⟨⟨cv, av, hmb, CF, XF, SF, MF, .inl D5.out, .inl D6.out, fun b hb => .inr hb, fun b hb => .inl (D8.out b hb)⟩, HP.out.half_, HCP.out.word, HCP.out.len, DAL.out, ?_⟩, ?_, ?_⟩
          · rintro b (hb | hb)
            · refine ⟨by have := (DNF.out b hb).1; simpa [World.setCell] using this, ?_⟩
              by_cases e : b = g
              · rw [e]; exact NF.cells CF (by decide)
              · intro cs f' e2
                rw [Below.heap_setCell _ _ _ _ (show b ≠ (⟨g, 1, none⟩ : Addr).block from e)] at e2
                exact (DNF.out b hb).2 cs f' e2
            · exact ⟨(XF.block hb).2.1, RowX.nf XF (by decide) hb⟩
          · exact (Keep.of_below HBR.out (Nat.le_refl _) F).setCell (fun _ => D5.out) cv
          · rintro b (hb | hb)
            · exact .inl hb
            · exact .inr (HGG.out b (HP6.out b (by rw [← XO.out]; exact hb)))
end Go.Proofs.YtkipjbmckpmmfaaDoor
end
section
/- heddlelaw03: alive. -/
open Go Go.RowKit
namespace Go.Proofs.YtkipjbmckpmmfaaDoor
set_option linter.unusedVariables false
set_option linter.unusedSimpArgs false

def oneL : Tm := .mk 1 1 ⟨#[]⟩ 0 [] []
def lisT : Tm := .mk 7 0 ⟨#[]⟩ 0 [] [oneL, .mk 6 0 ⟨#[]⟩ 0 [] []]
theorem lisT_at {w : World} {b : Nat} (h : Cells w b 27 [.int .i64 1, .int .i64 1, .string ⟨#[]⟩, .int .u32 0, .slice none 0 0, .slice none 0 0, .int .i64 6, .int .i64 0, .string ⟨#[]⟩, .int .u32 0, .slice none 0 0, .slice none 0 0]) :
    TmAt (fun q => q = b) lisT [.int .i64 7, .int .i64 0, .string ⟨#[]⟩, .int .u32 0, .slice none 0 0, .slice (some ⟨b, 0, none⟩) 2 2] w := by
  have hn : NumsAt (fun q => q = b) (.slice none 0 0) [] w := ⟨none, 0, rfl, ⟨by decide, by decide⟩, by decide, fun i hi => absurd hi (by simp)⟩
  have hc : ∀ j, w.cell? ⟨b, j, none⟩ = ([.int .i64 1, .int .i64 1, .string ⟨#[]⟩, .int .u32 0, .slice none 0 0, .slice none 0 0, .int .i64 6, .int .i64 0, .string ⟨#[]⟩, .int .u32 0, .slice none 0 0, .slice none 0 0] : List Value)[j]? := fun j => h.cell j
  have l1 : TmAt (fun q => q = b) oneL [.int .i64 1, .int .i64 1, .string ⟨#[]⟩, .int .u32 0, .slice none 0 0, .slice none 0 0] w := by
    unfold oneL; rw [TmAt]
    exact ⟨by constructor <;> decide, _, none, 0, rfl, hn, by decide, by decide, by rw [ArgsAt]; trivial⟩
  have l2 : TmAt (fun q => q = b) (.mk 6 0 ⟨#[]⟩ 0 [] []) [.int .i64 6, .int .i64 0, .string ⟨#[]⟩, .int .u32 0, .slice none 0 0, .slice none 0 0] w := by
    rw [TmAt]
    exact ⟨by constructor <;> decide, _, none, 0, rfl, hn, by decide, by decide, by rw [ArgsAt]; trivial⟩
  unfold lisT; rw [TmAt]
  refine ⟨by constructor <;> decide, _, some ⟨b, 0, none⟩, 2, rfl, hn, by decide, by decide, ?_⟩
  rw [ArgsAt]
  refine ⟨b, 0, _, rfl, rfl, fun j hj => ?_, l1, ?_⟩
  · rw [hc]
    match j, hj with
    | 0, _ => rfl
    | 1, _ => rfl
    | 2, _ => rfl
    | 3, _ => rfl
    | 4, _ => rfl
    | 5, _ => rfl
  · rw [ArgsAt]
    refine ⟨b, 6, _, rfl, rfl, fun j hj => ?_, l2, by rw [ArgsAt]; trivial⟩
    rw [hc]
    match j, hj with
    | 0, _ => rfl
    | 1, _ => rfl
    | 2, _ => rfl
    | 3, _ => rfl
    | 4, _ => rfl
    | 5, _ => rfl
theorem lisT_lay : layTop 10 lisT zeroH = (0, [], ⟨[513, 5, 3], []⟩) := by kernel_rfl
theorem lisT_tup : tupTop 10 [0, 0] ⟨[513, 5, 3], []⟩ = (12, [], ⟨[513, 5, 3, 514, 0, 0], []⟩) := by rfl
theorem lisT_term : termTop ⟨[513, 5, 3, 514, 0, 0], []⟩ 12 = (.mk 5 0 ⟨#[]⟩ 0 [] [lisT, lisT], []) := by kernel_rfl
set_option maxHeartbeats 16000000 in
set_option maxRecDepth 100000 in
theorem alive03_any (w : World) (hG : Gt w) : Calls Tryd.prog 6 #[] w fun e w' => e = .returned (.bool true) ∧ Below w.heap.size w w' := by
  have HN := Lib.hid (newH_good 20 w (by decide) (by decide))
  go_enter Tryd.func6, Tryd.ntmps6
  go_wp2_with fail
  refine HN.out.mono ?_
  rintro e w1 ⟨g, rfl, hp1, hb1⟩
  have hp1 : HpIs 10 zeroH g (fun b => w.heap.size ≤ b ∧ b < w1.heap.size) w1 := hp1
  have HP1 := Lib.hid hp1
  have HB1 := Lib.hid hb1
  have HFR := Lib.hid (show Calls Tryd.prog 17 #[.pointer (some ⟨g, 0, none⟩)] w1 fun e w' => e = .returned (.int .i64 10) ∧ ∃ n, w' = w1.drewN n from free_live hp1)
  clear hp1 hb1
  go_wp2_with fail
  refine HFR.out.mono ?_
  rintro e w2 ⟨rfl, n, rfl⟩
  have HP2 := Lib.hid (HP1.out.drewN n)
  have HB2 := Lib.hid (show Below w.heap.size w (w1.drewN n) from ⟨HB1.out.os, HB1.out.tape, HB1.out.output, HB1.out.size, HB1.out.block⟩)
  have HSZ := Lib.hid (show (w1.drewN n).heap.size = w1.heap.size from rfl)
  generalize w1.drewN n = W2 at *
  have C4 := Lib.hid (Cells.new (W2.alloc (.cells #[.int .i64 1, .int .i64 1, .string ⟨#[]⟩, .int .u32 0, .slice none 0 0, .slice none 0 0] 27 (0, 0))) 27 [.int .i64 1, .int .i64 1, .string ⟨#[]⟩, .int .u32 0, .slice none 0 0, .slice none 0 0, .int .i64 6, .int .i64 0, .string ⟨#[]⟩, .int .u32 0, .slice none 0 0, .slice none 0 0])
  have B4 := Lib.hid (((Below.refl W2.heap.size W2).alloc (Nat.le_refl _) (.cells #[.int .i64 1, .int .i64 1, .string ⟨#[]⟩, .int .u32 0, .slice none 0 0, .slice none 0 0] 27 (0, 0))).alloc (by simp) (.cells #[.int .i64 1, .int .i64 1, .string ⟨#[]⟩, .int .u32 0, .slice none 0 0, .slice none 0 0, .int .i64 6, .int .i64 0, .string ⟨#[]⟩, .int .u32 0, .slice none 0 0, .slice none 0 0] 27 (0, 0)))
  go_wp2_with fail
  have HSZ4 := Lib.hid (show ((W2.alloc (.cells #[.int .i64 1, .int .i64 1, .string ⟨#[]⟩, .int .u32 0, .slice none 0 0, .slice none 0 0] 27 (0, 0))).alloc (.cells #[.int .i64 1, .int .i64 1, .string ⟨#[]⟩, .int .u32 0, .slice none 0 0, .slice none 0 0, .int .i64 6, .int .i64 0, .string ⟨#[]⟩, .int .u32 0, .slice none 0 0, .slice none 0 0] 27 (0, 0))).heap.size = W2.heap.size + 2 by simp)
  rw [World.size_alloc] at C4
  have C4' := Lib.hid (show Cells ((W2.alloc (.cells #[.int .i64 1, .int .i64 1, .string ⟨#[]⟩, .int .u32 0, .slice none 0 0, .slice none 0 0] 27 (0, 0))).alloc (.cells #[.int .i64 1, .int .i64 1, .string ⟨#[]⟩, .int .u32 0, .slice none 0 0, .slice none 0 0, .int .i64 6, .int .i64 0, .string ⟨#[]⟩, .int .u32 0, .slice none 0 0, .slice none 0 0] 27 (0, 0))) _ _ _ from C4.out)
  clear C4
  generalize (W2.alloc (.cells #[.int .i64 1, .int .i64 1, .string ⟨#[]⟩, .int .u32 0, .slice none 0 0, .slice none 0 0] 27 (0, 0))).alloc (.cells #[.int .i64 1, .int .i64 1, .string ⟨#[]⟩, .int .u32 0, .slice none 0 0, .slice none 0 0, .int .i64 6, .int .i64 0, .string ⟨#[]⟩, .int .u32 0, .slice none 0 0, .slice none 0 0] 27 (0, 0)) = W4 at *
  have HP4 := Lib.hid (HP2.out.below B4.out)
  have HB4 := Lib.hid (show Below w.heap.size w W4 from HB2.out.trans (B4.out.mono HB2.out.size))
  have HLAY := layTop_any (fun q => q = W2.heap.size + 1) lisT _ W4 HP4.out (lisT_at C4'.out) (fun b hb => by subst hb; have h1 := HSZ4.out; have h2 := HSZ.out; exact ⟨by omega, fun e => by have := e.2; omega⟩) (hG.below HB4.out) (by decide) (by decide)
  rw [lisT_lay] at HLAY
  refine HLAY.mono ?_
  rintro e w5 ⟨ev, rfl, her, F5, hp5, hk5, hf5⟩
  obtain rfl : ev = .nilIface := by
    rcases her.form with ⟨_, e⟩ | ⟨e, _⟩
    · exact e
    · exact absurd rfl e
  have HP5 := Lib.hid hp5
  have HB5 := Lib.hid (below_keep HB4.out hk5 HB4.out.size (fun b hb => hb.1))
  have HF5 := Lib.hid (show ∀ b, F5 b → w.heap.size ≤ b from fun b hb => by
    rcases hf5 b hb with e | e
    · exact e.1
    · have := HB4.out.size; omega)
  clear hp5 hk5 hf5 her HLAY HP4 C4' HP1
  go_wp2_with fail
  have B6 := Lib.hid ((Below.refl w5.heap.size w5).alloc (Nat.le_refl _) (.cells #[.int .u64 0, .int .u64 0] 35 (0, 0)))
  have A6 := Lib.hid (show AtV (fun b => b = w5.heap.size) (.slice (some ⟨w5.heap.size, 0, none⟩) 2 2) (wordsV [0, 0]) (w5.alloc (.cells #[.int .u64 0, .int .u64 0] 35 (0, 0))) from (RowV.lit (base := 0) (w := w5) 35 (wordsV [0, 0]) (Nat.zero_le _) (by simp [wordsV, maxLen])).at_.mono fun b _ hb => (Option.some.inj hb).symm)
  have HSZ6 := Lib.hid (show (w5.alloc (.cells #[.int .u64 0, .int .u64 0] 35 (0, 0))).heap.size = w5.heap.size + 1 by simp)
  generalize w5.alloc (.cells #[.int .u64 0, .int .u64 0] 35 (0, 0)) = W6 at *
  have HP6 := Lib.hid (HP5.out.below B6.out)
  have HB6 := Lib.hid (show Below w.heap.size w W6 from HB5.out.trans (B6.out.mono HB5.out.size))
  have HTUP := tuple_any [0, 0] _ W6 HP6.out A6.out (fun b hb => by subst hb; have h1 := HSZ6.out; exact ⟨by omega, fun e => by have := (HP5.out.nf _ e).1; omega⟩) (by decide) (by decide)
  rw [lisT_tup] at HTUP
  refine HTUP.mono ?_
  rintro e w7 ⟨ev, rfl, her, F7, hp7, hk7, hf7⟩
  obtain rfl : ev = .nilIface := by
    rcases her.form with ⟨_, e⟩ | ⟨e, _⟩
    · exact e
    · exact absurd rfl e
  have HP7 := Lib.hid hp7
  have HB7 := Lib.hid (below_keep HB6.out hk7 HB6.out.size (fun b hb => HF5.out b hb))
  have HF7 := Lib.hid (show ∀ b, F7 b → w.heap.size ≤ b from fun b hb => by
    rcases hf7 b hb with e | e
    · exact HF5.out b e
    · have := HB6.out.size; omega)
  clear hp7 hk7 hf7 her HTUP HP6 A6 HP5 HP2
  have HTM := Lib.hid (termTop_any (h := ⟨[513, 5, 3, 514, 0, 0], []⟩) (fun s hs => by cases hs) 12 w7 HP7.out (by decide))
  rw [lisT_term] at HTM
  go_wp2_with fail
  refine HTM.out.mono ?_
  rintro e w8 ⟨vs, ev, rfl, her, htm, hb8⟩
  obtain rfl : ev = .nilIface := by
    rcases her.form with ⟨_, e⟩ | ⟨e, _⟩
    · exact e
    · exact absurd rfl e
  have htm := htm rfl
  have HTM8 := Lib.hid htm
  have HNF7 := Lib.hid HP7.out.nf
  rw [TmAt] at htm
  obtain ⟨_, nv, a, cap, rfl, hnv, hcap, _, hargs⟩ := htm
  obtain ⟨na, nc, rfl, _, _⟩ := hnv.slice
  have HP8 := Lib.hid (HP7.out.below hb8)
  have HB8 := Lib.hid (HB7.out.trans (hb8.mono HB7.out.size))
  clear her htm hnv hcap hargs hb8 HTM HP7
  go_wp2_with fail
  have C9 := Lib.hid ((Cells.new w8 27 [.int .i64 5, .int .i64 0, .string ⟨#[]⟩, .int .u32 0, .slice na 0 nc, .slice a 2 cap]).alloc (.cells #[.int .u64 12] 35 (0, 0)))
  have B9 := Lib.hid (((Below.refl w8.heap.size w8).alloc (Nat.le_refl _) (.cells #[.int .i64 5, .int .i64 0, .string ⟨#[]⟩, .int .u32 0, .slice na 0 nc, .slice a 2 cap] 27 (0, 0))).alloc (by simp) (.cells #[.int .u64 12] 35 (0, 0)))
  have A9 := Lib.hid (wordW_one_at (w := w8.alloc (.cells #[.int .i64 5, .int .i64 0, .string ⟨#[]⟩, .int .u32 0, .slice na 0 nc, .slice a 2 cap] 27 (0, 0))) 12)
  rw [World.size_alloc] at A9
  have HSZ9 := Lib.hid (show ((w8.alloc (.cells #[.int .i64 5, .int .i64 0, .string ⟨#[]⟩, .int .u32 0, .slice na 0 nc, .slice a 2 cap] 27 (0, 0))).alloc (.cells #[.int .u64 12] 35 (0, 0))).heap.size = w8.heap.size + 2 by simp)
  have A9' := Lib.hid (show AtV (fun b => b = w8.heap.size + 1) (.slice (some ⟨w8.heap.size + 1, 0, none⟩) 1 1) (wordsV [12]) ((w8.alloc (.cells #[.int .i64 5, .int .i64 0, .string ⟨#[]⟩, .int .u32 0, .slice na 0 nc, .slice a 2 cap] 27 (0, 0))).alloc (.cells #[.int .u64 12] 35 (0, 0))) from A9.out)
  have C9' := Lib.hid (show Cells ((w8.alloc (.cells #[.int .i64 5, .int .i64 0, .string ⟨#[]⟩, .int .u32 0, .slice na 0 nc, .slice a 2 cap] 27 (0, 0))).alloc (.cells #[.int .u64 12] 35 (0, 0))) w8.heap.size 27 [.int .i64 5, .int .i64 0, .string ⟨#[]⟩, .int .u32 0, .slice na 0 nc, .slice a 2 cap] from C9.out)
  clear A9 C9
  generalize (w8.alloc (.cells #[.int .i64 5, .int .i64 0, .string ⟨#[]⟩, .int .u32 0, .slice na 0 nc, .slice a 2 cap] 27 (0, 0))).alloc (.cells #[.int .u64 12] 35 (0, 0)) = W9 at *
  have HP9 := Lib.hid (HP8.out.below B9.out)
  have HTM9 := Lib.hid (HTM8.out.below B9.out)
  have HB9 := Lib.hid (show Below w.heap.size w W9 from HB8.out.trans (B9.out.mono HB8.out.size))
  have HCOL := collect_any [12] _ W9 HP9.out A9'.out (fun b hb => by subst hb; have h1 := HSZ9.out; omega) (by decide) (by decide) (by decide)
  rw [alive_collect] at HCOL
  refine HCOL.mono ?_
  rintro e w10 ⟨ov, rfl, hov, F10, hp10, hk10, hf10⟩
  obtain ⟨oa, oc, rfl⟩ := hov.form
  have HUS := Lib.hid (used_live hp10)
  have HB10 := Lib.hid (below_keep HB9.out hk10 HB9.out.size (fun b hb => HF7.out b hb))
  have C10 := Lib.hid (C9'.out.keep hk10 (fun e => by have := (HP8.out.nf _ e).1; omega))
  have T10 := Lib.hid (HTM9.out.keep hk10 (fun b _ hS hF => by have := (HNF7.out b hF).1; omega))
  rw [wordsV_len]
  clear hov hp10 hk10 hf10 HCOL HP9 A9' C9' HTM9 HTM8
  have T10' := T10.out
  rw [TmAt] at T10'
  obtain ⟨_, _, _, _, e, _, _, _, hargs⟩ := T10'
  obtain rfl : a = _ := by injection e with _ e; injection e with _ e; injection e with _ e; injection e with _ e; injection e with _ e; injection e with e _; injection e
  obtain ⟨ga, og, vs2, rfl, _, hcs, ht2⟩ := ArgsAt.get hargs 1 (by decide)
  have ht2 : TmAt _ lisT vs2 _ := ht2
  unfold lisT at ht2
  rw [TmAt] at ht2
  obtain ⟨_, nv2, a2, cap2, rfl, _⟩ := ht2
  have k0 : w10.cell? ⟨ga, og + 6, none⟩ = some (.int .i64 7) := hcs 0 (by decide)
  clear hcs hargs
  have c0 := C10.out.cell 0
  have c5 := C10.out.cell 5
  simp only [List.getElem?_cons_zero, List.getElem?_cons_succ] at c0 c5
  go_wp2_with fail
  refine HUS.out.mono ?_
  rintro e w11 ⟨rfl, rfl⟩
  go_wp2
  go_ret
  exact ⟨rfl, HB10.out⟩
end Go.Proofs.YtkipjbmckpmmfaaDoor
end
section
/- The document's Words: how many words a term takes. Printed by wip/hpw.py. -/
open Go Go.RowKit
namespace Go.Proofs.YtkipjbmckpmmfaaDoor
set_option linter.unusedVariables false
set_option linter.unusedSimpArgs false

set_option maxHeartbeats 16000000 in
set_option maxRecDepth 100000 in
theorem words_ind : ∀ (N : Nat) (S : Nat → Prop) (t : Tm) (vs : List Value) (w : World), SizeOf.sizeOf t ≤ N → TmAt S t vs w → okT t → sizeT t ≤ 4096 →
    Calls Tryd.prog 9 #[.agg vs.toArray] w fun e w' => e = .returned (.int .i64 (takesT t : Nat)) ∧ Below w.heap.size w w' := by
  intro N
  induction N with
  | zero => intro S t vs w h; cases t; simp at h
  | succ N ih =>
    intro S t vs w hN ht hok hsz
    have HIH := Lib.hid ih
    have HNN := Lib.hid hN
    have HT := Lib.hid ht
    obtain ⟨hp, nv, a, cap, rfl, hnn, ⟨hc, hcm⟩, hcap, ha⟩ := ht.parts
    have HA := Lib.hid ha
    obtain ⟨na, nc, rfl, hnc, _⟩ := hnn.slice
    obtain ⟨hpt, hal⟩ : partS t 0 = [] ∧ okTL t.args := by cases t; rw [okT] at hok; exact hok
    have hsa : 1 + sizeTL t.args = sizeT t := by cases t; rw [sizeT]; rfl
    have hta : takesTL t.args + 3 * t.args.length ≤ 9 * sizeTL t.args := takesTL_le _
    have HAL := Lib.hid hal
    have hlen : t.args.length ≤ 4096 := by have := length_le_sizeTL t.args; omega
    have HTT := Lib.hid (show takesT t = if t.kind = 4 then 4 else if t.kind = 3 then 6 else baseT t + takesTL t.args by cases t; rw [takesT]; rfl)
    have B0 := Lib.hid ((Below.refl _ w).alloc (Nat.le_refl _) (.cells #[.int .i64 t.kind, .int .i64 t.int, .string t.text, .int .u32 t.cr, .slice na t.nums.length nc, .slice a t.args.length cap] 27 (0, 0)))
    have M0 := Lib.hid (Cells.new w 27 [.int .i64 t.kind, .int .i64 t.int, .string t.text, .int .u32 t.cr, .slice na t.nums.length nc, .slice a t.args.length cap])
    have HPT := Lib.hid hpt
    clear ih hN ht hnn hp ha hcm hok hpt hal
    by_cases k4 : t.kind = 4
    · have HR := Lib.hid (show takesT t = 4 by rw [HTT.out, if_pos k4])
      rw [k4] at M0 B0 ⊢
      have m0 := M0.out.cell 0
      simp only [List.getElem?_cons_zero, List.getElem?_cons_succ] at m0
      go_enter Tryd.func9, Tryd.ntmps9
      go_wp2
      go_ret
      exact ⟨by rw [HR.out]; rfl, B0.out⟩
    by_cases k3 : t.kind = 3
    · have HR := Lib.hid (show takesT t = 6 by rw [HTT.out, if_neg k4, if_pos k3])
      rw [k3] at M0 B0 ⊢
      have m0 := M0.out.cell 0
      simp only [List.getElem?_cons_zero, List.getElem?_cons_succ] at m0
      go_enter Tryd.func9, Tryd.ntmps9
      go_wp2
      go_ret
      exact ⟨by rw [HR.out]; rfl, B0.out⟩
    by_cases k7 : t.kind = 7
    · have HR := Lib.hid (show takesT t = 3 * (t.args.length - 1) + takesTL t.args by rw [HTT.out, if_neg k4, if_neg k3]; unfold baseT; rw [if_pos k7])
      have hl2 : 2 ≤ t.args.length := partS_list2 HPT.out k7
      have hw0 : IntKind.i64.wrap ((t.args.length : Int) - 1) = (t.args.length : Int) - 1 := IntWalk.i64_in _ (by omega)
      rw [k7] at M0 B0 ⊢
      have m0 := M0.out.cell 0
      have m5 := M0.out.cell 5
      simp only [List.getElem?_cons_zero, List.getElem?_cons_succ] at m0 m5
      go_enter Tryd.func9, Tryd.ntmps9
      go_wp2
      clear m0 m5
      generalize World.alloc w _ = W1 at *
      go_loopw [3, 4] (fun n i wr => ∃ kk : Nat, kk ≤ t.args.length ∧ i = .int .i64 kk ∧ n = .int .i64 ((3 * (t.args.length - 1) + takesTL (t.args.take kk) : Nat)) ∧ Below W1.heap.size W1 wr) (fun _ i _ => t.args.length - (intOf i).toNat)
      case atStart => exact ⟨0, Nat.zero_le _, rfl, by simp [takesTL]; omega, Below.refl _ _⟩
      case round =>
        obtain ⟨kk, hkk, rfl, rfl, hbr⟩ := hrel
        have HBR := Lib.hid hbr
        have m5 := (M0.out.below hbr).cell 5
        simp only [List.getElem?_cons_zero, List.getElem?_cons_succ] at m5
        clear hbr
        by_cases hk : kk < t.args.length
        · have hki : (kk : Int) < (t.args.length : Int) := by omega
          have hk0 : (0 : Int) ≤ (kk : Int) := by omega
          have hkw1 : IntKind.i64.wrap ((kk : Int) + 1) = (kk : Int) + 1 := IntWalk.i64_in _ (by omega)
          obtain ⟨g2, o2, vs2, hae, _, hcs, ht2⟩ := (HA.out.below (B0.out.trans (HBR.out.mono B0.out.size))).get kk hk
          subst hae
          have HT2 := Lib.hid ht2
          obtain ⟨_, nv2, a2, cap2, hv2, hnn2, _⟩ := ht2.parts
          obtain ⟨nb2, nd2, hnv2, _, _⟩ := hnn2.slice
          subst hv2
          subst hnv2
          have e0 := hcs 0 (by decide)
          have e1 := hcs 1 (by decide)
          have e2 := hcs 2 (by decide)
          have e3 := hcs 3 (by decide)
          have e4 := hcs 4 (by decide)
          have e5 := hcs 5 (by decide)
          simp only [List.getElem?_cons_zero, List.getElem?_cons_succ, ← Nat.add_assoc, Nat.add_zero] at e0 e1 e2 e3 e4 e5
          have HCALL := Lib.hid (HIH.out S t.args[kk] _ _ (by have := Tm.arg_lt hk; have := HNN.out; omega) HT2.out (okTL_at HAL.out kk hk) (by have := sizeTL_at kk hk; omega))
          have hnext := takesTL_take t.args kk hk
          have hmn := takesTL_mono t.args (kk + 1)
          have hwr : IntKind.i64.wrap (((3 * (t.args.length - 1) + takesTL (t.args.take kk) : Nat) : Int) + (takesT t.args[kk] : Nat)) = ((3 * (t.args.length - 1) + takesTL (t.args.take (kk + 1)) : Nat) : Int) := by
            rw [show (((3 * (t.args.length - 1) + takesTL (t.args.take kk) : Nat) : Int) + (takesT t.args[kk] : Nat)) = ((3 * (t.args.length - 1) + takesTL (t.args.take (kk + 1)) : Nat) : Int) by rw [hnext]; omega]
            exact IntWalk.i64_in _ (by omega)
          generalize hn0 : 3 * (t.args.length - 1) + takesTL (t.args.take kk) = n0 at *
          generalize hn1 : 3 * (t.args.length - 1) + takesTL (t.args.take (kk + 1)) = n1 at *
          generalize takesT t.args[kk] = tk at *
          clear hcs ht2 hnn2 hnext hmn
          go_wp2_with fail
          refine HCALL.out.mono ?_
          rintro e W5 ⟨rfl, hb5⟩
          have HB5 := Lib.hid (HBR.out.trans (hb5.mono HBR.out.size))
          clear hb5 e0 e1 e2 e3 e4 e5 m5 HCALL
          go_wp2
          go_roundw
          case rel => exact ⟨kk + 1, by omega, by go_num, by rw [hn1], HB5.out⟩
          case measure => simp [intOf]; omega
        · have hki : ¬ (kk : Int) < (t.args.length : Int) := by omega
          have hfull : t.args.take kk = t.args := List.take_of_length_le (by omega)
          rw [hfull] at *
          generalize hn0 : 3 * (t.args.length - 1) + takesTL t.args = n0 at *
          go_wp2
          go_ret
          exact ⟨by first | (rw [HR.out]; rfl) | rw [HR.out], B0.out.trans (HBR.out.mono B0.out.size)⟩
    by_cases k5 : t.kind = 5
    · have HR := Lib.hid (show takesT t = 1 + t.args.length + takesTL t.args by rw [HTT.out, if_neg k4, if_neg k3]; unfold baseT; rw [if_neg k7, if_pos k5])
      rw [k5] at M0 B0 ⊢
      have m0 := M0.out.cell 0
      have m5 := M0.out.cell 5
      simp only [List.getElem?_cons_zero, List.getElem?_cons_succ] at m0 m5
      go_enter Tryd.func9, Tryd.ntmps9
      go_wp2
      clear m0 m5
      generalize World.alloc w _ = W1 at *
      go_loopw [3, 4] (fun n i wr => ∃ kk : Nat, kk ≤ t.args.length ∧ i = .int .i64 kk ∧ n = .int .i64 ((1 + t.args.length + takesTL (t.args.take kk) : Nat)) ∧ Below W1.heap.size W1 wr) (fun _ i _ => t.args.length - (intOf i).toNat)
      case atStart => exact ⟨0, Nat.zero_le _, rfl, by simp [takesTL], Below.refl _ _⟩
      case round =>
        obtain ⟨kk, hkk, rfl, rfl, hbr⟩ := hrel
        have HBR := Lib.hid hbr
        have m5 := (M0.out.below hbr).cell 5
        simp only [List.getElem?_cons_zero, List.getElem?_cons_succ] at m5
        clear hbr
        by_cases hk : kk < t.args.length
        · have hki : (kk : Int) < (t.args.length : Int) := by omega
          have hk0 : (0 : Int) ≤ (kk : Int) := by omega
          have hkw1 : IntKind.i64.wrap ((kk : Int) + 1) = (kk : Int) + 1 := IntWalk.i64_in _ (by omega)
          obtain ⟨g2, o2, vs2, hae, _, hcs, ht2⟩ := (HA.out.below (B0.out.trans (HBR.out.mono B0.out.size))).get kk hk
          subst hae
          have HT2 := Lib.hid ht2
          obtain ⟨_, nv2, a2, cap2, hv2, hnn2, _⟩ := ht2.parts
          obtain ⟨nb2, nd2, hnv2, _, _⟩ := hnn2.slice
          subst hv2
          subst hnv2
          have e0 := hcs 0 (by decide)
          have e1 := hcs 1 (by decide)
          have e2 := hcs 2 (by decide)
          have e3 := hcs 3 (by decide)
          have e4 := hcs 4 (by decide)
          have e5 := hcs 5 (by decide)
          simp only [List.getElem?_cons_zero, List.getElem?_cons_succ, ← Nat.add_assoc, Nat.add_zero] at e0 e1 e2 e3 e4 e5
          have HCALL := Lib.hid (HIH.out S t.args[kk] _ _ (by have := Tm.arg_lt hk; have := HNN.out; omega) HT2.out (okTL_at HAL.out kk hk) (by have := sizeTL_at kk hk; omega))
          have hnext := takesTL_take t.args kk hk
          have hmn := takesTL_mono t.args (kk + 1)
          have hwr : IntKind.i64.wrap (((1 + t.args.length + takesTL (t.args.take kk) : Nat) : Int) + (takesT t.args[kk] : Nat)) = ((1 + t.args.length + takesTL (t.args.take (kk + 1)) : Nat) : Int) := by
            rw [show (((1 + t.args.length + takesTL (t.args.take kk) : Nat) : Int) + (takesT t.args[kk] : Nat)) = ((1 + t.args.length + takesTL (t.args.take (kk + 1)) : Nat) : Int) by rw [hnext]; omega]
            exact IntWalk.i64_in _ (by omega)
          generalize hn0 : 1 + t.args.length + takesTL (t.args.take kk) = n0 at *
          generalize hn1 : 1 + t.args.length + takesTL (t.args.take (kk + 1)) = n1 at *
          generalize takesT t.args[kk] = tk at *
          clear hcs ht2 hnn2 hnext hmn
          go_wp2_with fail
          refine HCALL.out.mono ?_
          rintro e W5 ⟨rfl, hb5⟩
          have HB5 := Lib.hid (HBR.out.trans (hb5.mono HBR.out.size))
          clear hb5 e0 e1 e2 e3 e4 e5 m5 HCALL
          go_wp2
          go_roundw
          case rel => exact ⟨kk + 1, by omega, by go_num, by rw [hn1], HB5.out⟩
          case measure => simp [intOf]; omega
        · have hki : ¬ (kk : Int) < (t.args.length : Int) := by omega
          have hfull : t.args.take kk = t.args := List.take_of_length_le (by omega)
          rw [hfull] at *
          generalize hn0 : 1 + t.args.length + takesTL t.args = n0 at *
          go_wp2
          go_ret
          exact ⟨by first | (rw [HR.out]; rfl) | rw [HR.out], B0.out.trans (HBR.out.mono B0.out.size)⟩
    have HR := Lib.hid (show takesT t = 0 + takesTL t.args by rw [HTT.out, if_neg k4, if_neg k3]; unfold baseT; rw [if_neg k7, if_neg k5])
    have b3 : (t.kind == 3) = false := by simp [k3]
    have b4 : (t.kind == 4) = false := by simp [k4]
    have b5 : (t.kind == 5) = false := by simp [k5]
    have b7 : (t.kind == 7) = false := by simp [k7]
    have m0 := M0.out.cell 0
    have m5 := M0.out.cell 5
    simp only [List.getElem?_cons_zero, List.getElem?_cons_succ] at m0 m5
    go_enter Tryd.func9, Tryd.ntmps9
    go_wp2
    clear m0 m5
    generalize World.alloc w _ = W1 at *
    go_loopw [3, 4] (fun n i wr => ∃ kk : Nat, kk ≤ t.args.length ∧ i = .int .i64 kk ∧ n = .int .i64 ((0 + takesTL (t.args.take kk) : Nat)) ∧ Below W1.heap.size W1 wr) (fun _ i _ => t.args.length - (intOf i).toNat)
    case atStart => exact ⟨0, Nat.zero_le _, rfl, by simp [takesTL], Below.refl _ _⟩
    case round =>
      obtain ⟨kk, hkk, rfl, rfl, hbr⟩ := hrel
      have HBR := Lib.hid hbr
      have m5 := (M0.out.below hbr).cell 5
      simp only [List.getElem?_cons_zero, List.getElem?_cons_succ] at m5
      clear hbr
      by_cases hk : kk < t.args.length
      · have hki : (kk : Int) < (t.args.length : Int) := by omega
        have hk0 : (0 : Int) ≤ (kk : Int) := by omega
        have hkw1 : IntKind.i64.wrap ((kk : Int) + 1) = (kk : Int) + 1 := IntWalk.i64_in _ (by omega)
        obtain ⟨g2, o2, vs2, hae, _, hcs, ht2⟩ := (HA.out.below (B0.out.trans (HBR.out.mono B0.out.size))).get kk hk
        subst hae
        have HT2 := Lib.hid ht2
        obtain ⟨_, nv2, a2, cap2, hv2, hnn2, _⟩ := ht2.parts
        obtain ⟨nb2, nd2, hnv2, _, _⟩ := hnn2.slice
        subst hv2
        subst hnv2
        have e0 := hcs 0 (by decide)
        have e1 := hcs 1 (by decide)
        have e2 := hcs 2 (by decide)
        have e3 := hcs 3 (by decide)
        have e4 := hcs 4 (by decide)
        have e5 := hcs 5 (by decide)
        simp only [List.getElem?_cons_zero, List.getElem?_cons_succ, ← Nat.add_assoc, Nat.add_zero] at e0 e1 e2 e3 e4 e5
        have HCALL := Lib.hid (HIH.out S t.args[kk] _ _ (by have := Tm.arg_lt hk; have := HNN.out; omega) HT2.out (okTL_at HAL.out kk hk) (by have := sizeTL_at kk hk; omega))
        have hnext := takesTL_take t.args kk hk
        have hmn := takesTL_mono t.args (kk + 1)
        have hwr : IntKind.i64.wrap (((0 + takesTL (t.args.take kk) : Nat) : Int) + (takesT t.args[kk] : Nat)) = ((0 + takesTL (t.args.take (kk + 1)) : Nat) : Int) := by
          rw [show (((0 + takesTL (t.args.take kk) : Nat) : Int) + (takesT t.args[kk] : Nat)) = ((0 + takesTL (t.args.take (kk + 1)) : Nat) : Int) by rw [hnext]; omega]
          exact IntWalk.i64_in _ (by omega)
        generalize hn0 : 0 + takesTL (t.args.take kk) = n0 at *
        generalize hn1 : 0 + takesTL (t.args.take (kk + 1)) = n1 at *
        generalize takesT t.args[kk] = tk at *
        clear hcs ht2 hnn2 hnext hmn
        go_wp2_with fail
        refine HCALL.out.mono ?_
        rintro e W5 ⟨rfl, hb5⟩
        have HB5 := Lib.hid (HBR.out.trans (hb5.mono HBR.out.size))
        clear hb5 e0 e1 e2 e3 e4 e5 m5 HCALL
        go_wp2
        go_roundw
        case rel => exact ⟨kk + 1, by omega, by go_num, by rw [hn1], HB5.out⟩
        case measure => simp [intOf]; omega
      · have hki : ¬ (kk : Int) < (t.args.length : Int) := by omega
        have hfull : t.args.take kk = t.args := List.take_of_length_le (by omega)
        rw [hfull] at *
        generalize hn0 : 0 + takesTL t.args = n0 at *
        go_wp2
        go_ret
        exact ⟨by first | (rw [HR.out]; rfl) | rw [HR.out], B0.out.trans (HBR.out.mono B0.out.size)⟩
end Go.Proofs.YtkipjbmckpmmfaaDoor
end
section
/- Package heap: the strings that Lay keeps are the term's. Plain. -/
open Go Go.RowKit
namespace Go.Proofs.YtkipjbmckpmmfaaDoor
set_option linter.unusedVariables false
mutual
/-- each text is one that memory holds -/
def shT : Tm → Prop
  | .mk _ _ s _ _ al => s.size ≤ 140737488351232 ∧ shL al
def shL : List Tm → Prop
  | [] => True
  | t :: r => shT t ∧ shL r
end
mutual
theorem TmAt.sh {S : Nat → Prop} {w : World} : ∀ {t : Tm} {vs : List Value}, TmAt S t vs w → shT t
  | .mk k i s c ns al, vs, h => by
    rw [TmAt] at h
    obtain ⟨hp, nv, a, cap, h1, h2, h3, h4, h5⟩ := h
    rw [shT]
    exact ⟨hp.sz, ArgsAt.sh h5⟩
theorem ArgsAt.sh {S : Nat → Prop} {w : World} : ∀ {l : List Tm} {a : Option Addr}, ArgsAt S l a w → shL l
  | [], _, _ => by rw [shL]; trivial
  | t :: r, a, h => by
    rw [ArgsAt] at h
    obtain ⟨g, o, vs, h1, h2, h3, h4, h5⟩ := h
    rw [shL]
    exact ⟨TmAt.sh h4, ArgsAt.sh h5⟩
end
def shH (h : Hs) : Prop := ∀ s ∈ h.at_, s.size ≤ 140737488351232
theorem shH.named {h : Hs} (hh : shH h) {s : ByteArray} (hs : s.size ≤ 140737488351232) : shH (h.named s) := by
  intro x hx
  unfold Hs.named aH at hx
  dsimp only at hx
  split at hx
  · exact hh x hx
  · rcases List.mem_append.1 hx with hx | hx
    · exact hh x hx
    · rw [List.mem_singleton.1 hx]; exact hs
theorem shH.put {h : Hs} (hh : shH h) (k : Nat) (ws : List Nat) : shH (putH k ws h).2 := hh
mutual
theorem layS_sh : ∀ (t : Tm) (h : Hs), shT t → shH h → shH (layS t h).2
  | .mk k i s c ns al, h, ht, hh => by
    rw [shT] at ht
    rw [layS]
    split
    · exact hh
    split
    · exact hh.named ht.1
    split
    · exact hh
    split
    · exact (hh.named ht.1).put _ _
    split
    · exact (hh.named ht.1).put _ _
    split
    · exact (layL_sh al h ht.2 hh).put _ _
    · exact layC_sh al h ht.2 hh
theorem layL_sh : ∀ (l : List Tm) (h : Hs), shL l → shH h → shH (layL l h).2
  | [], h, _, hh => by rw [layL]; exact hh
  | t :: r, h, ht, hh => by
    rw [shL] at ht
    rw [layL]
    exact layL_sh r _ ht.2 (layS_sh t h ht.1 hh)
theorem layC_sh : ∀ (l : List Tm) (h : Hs), shL l → shH h → shH (layC l h).2
  | [], h, _, hh => by rw [layC]; exact hh
  | t :: r, h, ht, hh => by
    rw [shL] at ht
    rw [layC]
    split
    · exact layS_sh t h ht.1 hh
    · exact (layS_sh t _ ht.1 (layC_sh r h ht.2 hh)).put _ _
end
end Go.Proofs.YtkipjbmckpmmfaaDoor
end
section
/- The reference of layer 2: parts, Check. Printed by wip/trc.py. -/
open Go Go.RowKit
namespace Go.Proofs.YtkipjbmckpmmfaaDoor
set_option linter.unusedSimpArgs false
set_option linter.unusedVariables false

def RetLT (w : World) (l : List Lk) (e : Ending) (w' : World) : Prop := ∃ v, e = .returned v ∧ LinksIs w.heap.size v l w' ∧ Below w.heap.size w w'
theorem no02_any (at_ code : Int) (w : World) :
    Calls Tryd.prog 39 #[.int .i64 at_, .int .i64 code] w (RetLT w [⟨termL, at_, code⟩]) := by
  go_enter Tryd.func39, Tryd.ntmps39
  go_wp2_with (go_at_call 13; refine (one_any _ _ _ _).mono ?_; rintro e w' ⟨rfl, rfl⟩)
  go_ret
  exact ⟨_, rfl, LinksIs.lit ⟨termL, at_, code⟩ (Nat.le_refl _), (Below.refl _ _).alloc (Nat.le_refl _) _⟩
theorem over02_any (at_ : Int) (lv : Value) (k : Lk) (l : List Lk) (base : Nat) (w : World) (hlk : LinksIs base lv (k :: l) w) (hl : l.length ≤ 50) :
    Calls Tryd.prog 42 #[.int .i64 at_, lv] w (RetLT w (⟨termL, at_, k.code⟩ :: k :: l)) := by
  have HO := Lib.hid (mOver_any termL at_ k.code lv (k :: l) base w hlk (by simp; omega))
  obtain ⟨_, hn⟩ | ⟨g, c, rfl, hbg, hgw, hgc, hgm⟩ := hlk.shape
  · cases hn
  have c2 := hlk.cells 0 (by simp) 2 (by omega)
  simp only [lkV, List.getElem_cons_zero, List.getElem?_cons_zero, List.getElem?_cons_succ, Nat.zero_mul, Nat.zero_add] at c2
  have hlen : (0 : Int) < ((k :: l).length : Int) := by simp
  clear hlk
  go_enter Tryd.func42, Tryd.ntmps42
  go_wp2_with fail
  refine HO.out.mono ?_
  rintro e w1 ⟨v, rfl, h1, hb1⟩
  go_wp2
  go_ret
  exact ⟨_, rfl, h1, hb1⟩
theorem someL {base : Nat} {v : Value} {k : Lk} {l : List Lk} {w : World} (h : LinksIs base v (k :: l) w) : ∃ g n c, v = .slice (some ⟨g, 0, none⟩) n c := by
  rcases h.shape with ⟨_, hn⟩ | ⟨g, c, rfl, _⟩
  · cases hn
  · exact ⟨g, _, c, rfl⟩
/-- what part leaves behind -/
def RetPt (g : Nat) (w : World) (R : List Lk × Nat × Nat) (e : Ending) (w' : World) : Prop :=
  ∃ (n' dm' : Int) (bv : Value), e = .returned (.tuple #[]) ∧ Cells w' g 70 [.int .i64 n', .int .i64 dm', bv] ∧ LinksIs (g + 1) bv R.1 w' ∧ (R.1 = [] → bv = .slice none 0 0 ∧ n' = (R.2.1 : Int) ∧ dm' = (R.2.2 : Int)) ∧ Keep (Blk1 g) w w'
/-- a link laid into a walker -/
theorem bad_laid {g : Nat} {w wX w9 : World} {n1 d1 : Int} {lv : Value} {L : List Lk} (hC : Cells wX g 70 [.int .i64 n1, .int .i64 d1, .slice none 0 0]) (hK : Keep (Blk1 g) w wX) (hb : Below wX.heap.size wX w9) (hl : LinksIs wX.heap.size lv L w9) :
    Cells (w9.setCell ⟨g, 2, none⟩ lv) g 70 [.int .i64 n1, .int .i64 d1, lv] ∧ LinksIs (g + 1) lv L (w9.setCell ⟨g, 2, none⟩ lv) ∧ Keep (Blk1 g) w (w9.setCell ⟨g, 2, none⟩ lv) ∧ w9.cell? ⟨g, 2, none⟩ = some (.slice none 0 0) ∧ w9.frozen? ⟨g, 2, none⟩ = false := by
  have h1 := hC.below hb
  refine ⟨h1.set_ 2 lv, ?_, keepSet (hK.trans (keepB (S := Blk1 g) hb) (fun _ _ h => h)) 2 lv, h1.cell 2, h1.frozen 2⟩
  exact (hl.base hC.lt).frame fun k hk => Below.heap_setCell _ _ _ _ (by have := (hl.block hk).1; have := hC.lt; show k ≠ g; omega)

set_option maxHeartbeats 16000000 in
set_option maxRecDepth 100000 in
theorem part_ind (S : Nat → Prop) (g : Nat) (hg : ¬ S g) : ∀ (N : Nat) (t : Tm) (vs : List Value) (n dm d : Nat) (w : World), SizeOf.sizeOf t ≤ N → TmAt S t vs w → Cells w g 70 [.int .i64 n, .int .i64 dm, .slice none 0 0] → n ≤ 4096 → dm ≤ 256 → d ≤ 257 →
    Calls Tryd.prog 27 #[.pointer (some ⟨g, 0, none⟩), .agg vs.toArray, .int .i64 d] w (RetPt g w (walkS t n dm d)) := by
  intro N
  induction N with
  | zero => intro t vs n dm d w h; cases t; simp at h
  | succ N ih =>
    intro t vs n dm d w hN ht hC hn hdm hd
    have HIH := Lib.hid ih
    have HNN := Lib.hid hN
    have HW := Lib.hid (walkS_eq t n dm d)
    have HNO := Lib.hid (fun code W => no02_any n code W)
    have HT := Lib.hid ht
    obtain ⟨hp, nv, a, cap, rfl, hnn, hc, hcap, ha⟩ := ht.parts
    obtain ⟨na, nc, rfl, _, _⟩ := hnn.slice
    have HSZ := Lib.hid hp.sz
    have HB := Lib.hid ((Below.refl _ w).alloc (Nat.le_refl _) (.cells #[.int .i64 t.kind, .int .i64 t.int, .string t.text, .int .u32 t.cr, .slice na t.nums.length nc, .slice a t.args.length cap] 27 (0, 0)))
    have HA := Lib.hid ha
    have HBD := Lib.hid (And.intro hn (And.intro hdm hd))
    have K1 := Lib.hid (hC.alloc (.cells #[.int .i64 t.kind, .int .i64 t.int, .string t.text, .int .u32 t.cr, .slice na t.nums.length nc, .slice a t.args.length cap] 27 (0, 0)))
    have M1 := Lib.hid (Cells.new w 27 [.int .i64 t.kind, .int .i64 t.int, .string t.text, .int .u32 t.cr, .slice na t.nums.length nc, .slice a t.args.length cap])
    have hlt := hC.lt
    have hne : w.heap.size ≠ g := Nat.ne_of_gt hlt
    have HNE := Lib.hid hne
    have hcl : t.args.length ≤ 140737488351232 := by omega
    have HCL := Lib.hid hcl
    have hnq := fun (w : World) (a : Option Addr) (n c : Nat) => run_neq_slice_nil_any (P := Tryd.prog) w 38 78 a n c 0 0 Tryd.underlying38
    have hqq := fun (w : World) (a : Option Addr) (n c : Nat) => Lib.run_eql_slice_nil (P := Tryd.prog) w 38 78 a n c 0 0 Tryd.underlying38
    have hn0 : (n : Int) ≤ 4096 := by omega
    have hn0' : (0 : Int) ≤ (n : Int) := by omega
    have hd0 : (d : Int) ≤ 257 := by omega
    have hd0' : (0 : Int) ≤ (d : Int) := by omega
    clear ih hN ht hC hnn hc hcap ha hp hlt hne hn hdm hd
    go_enter Tryd.func27, Tryd.ntmps27
    go_upto_region 1 with (fail)
    generalize hW1 : World.alloc w _ = W1 at *
    clear hW1
    have c0 := K1.out.cell 0
    have c2 := K1.out.cell 2
    have f0 := K1.out.frozen 0
    have P1 := Lib.hid (show Cells _ g 70 [.int .i64 ((n : Int) + 1), .int .i64 dm, .slice none 0 0] from K1.out.set_ 0 (.int .i64 ((n : Int) + 1)))
    have c1 := P1.out.cell 1
    have f1 := P1.out.frozen 1
    have P2 := Lib.hid (show Cells _ g 70 [.int .i64 ((n : Int) + 1), .int .i64 (max (dm : Int) (d : Int)), .slice none 0 0] from P1.out.set_ 1 (.int .i64 (max (dm : Int) (d : Int))))
    have M3 := Lib.hid ((M1.out.far (p := ⟨g, 0, none⟩) HNE.out (.int .i64 ((n : Int) + 1))).far (p := ⟨g, 1, none⟩) HNE.out (.int .i64 (max (dm : Int) (d : Int))))
    have KP := Lib.hid (keepSet (keepSet (keepB (S := Blk1 g) HB.out) 0 (.int .i64 ((n : Int) + 1))) 1 (.int .i64 (max (dm : Int) (d : Int))))
    simp only [List.getElem?_cons_zero, List.getElem?_cons_succ] at c0 c1 c2
    go_upto_region 5 with (fail)
    clear c0 c1 c2 f0 f1 P1 K1 M1
    generalize hW3 : World.setCell _ ⟨g, 1, none⟩ _ = W3 at *
    clear hW3
    have m0 := M3.out.cell 0
    have m1 := M3.out.cell 1
    have m2 := M3.out.cell 2
    have m3 := M3.out.cell 3
    have m4 := M3.out.cell 4
    have m5 := M3.out.cell 5
    simp only [List.getElem?_cons_zero, List.getElem?_cons_succ] at m0 m1 m2 m3 m4 m5
    by_cases h1 : n = 4096
    · have q1 : (4096 : Int) ≤ (n : Int) := by omega
      have HR := Lib.hid (show walkS t n dm d = ([⟨termL, n, 5⟩], n, dm) by rw [HW.out, if_pos h1])
      clear h1 m0 m1 m2 m3 m4 m5
      go_wp2_with fail
      refine (HNO.out _ _).mono ?_
      rintro e w9 ⟨lv, rfl, hl, hb9⟩
      obtain ⟨hC10, hL10, hK10, c2, f2⟩ := bad_laid P2.out KP.out hb9 hl
      obtain ⟨sg, sn, sc, rfl⟩ := someL hl
      have HC10 := Lib.hid hC10
      have HL10 := Lib.hid hL10
      have HK10 := Lib.hid hK10
      have M9 := Lib.hid ((M3.out.below hb9).far (p := ⟨g, 2, none⟩) HNE.out (.slice (some ⟨sg, 0, none⟩) sn sc))
      have m5 := M9.out.cell 5
      have b2 := hC10.cell 2
      simp only [List.getElem?_cons_zero, List.getElem?_cons_succ] at m5 b2
      clear hb9 hl hC10 hL10 hK10
      go_wp2_with fail
      refine wp_loop_rounds 1 ?_
      rw [rounds_succ]
      rcases Nat.eq_zero_or_pos t.args.length with h0 | h0
      · have h0i : ¬ (0 : Int) < (t.args.length : Int) := by omega
        clear h0
        go_wp2
        go_end0
        rw [HR.out]
        exact ⟨_, _, _, rfl, HC10.out, HL10.out, (fun h => by cases h), HK10.out⟩
      · have h0i : (0 : Int) < (t.args.length : Int) := by omega
        clear h0
        go_wp2
        go_end0
        rw [HR.out]
        exact ⟨_, _, _, rfl, HC10.out, HL10.out, (fun h => by cases h), HK10.out⟩
    have q1 : ¬ (4096 : Int) ≤ (n : Int) := by have := HBD.out.1; omega
    by_cases h2 : 256 < d
    · have h2i : (256 : Int) < (d : Int) := by omega
      have HR := Lib.hid (show walkS t n dm d = ([⟨termL, n, 9⟩], n, dm) by rw [HW.out, if_neg h1, if_pos h2])
      clear h1 h2 m0 m1 m2 m3 m4 m5
      go_wp2_with fail
      refine (HNO.out _ _).mono ?_
      rintro e w9 ⟨lv, rfl, hl, hb9⟩
      obtain ⟨hC10, hL10, hK10, c2, f2⟩ := bad_laid P2.out KP.out hb9 hl
      obtain ⟨sg, sn, sc, rfl⟩ := someL hl
      have HC10 := Lib.hid hC10
      have HL10 := Lib.hid hL10
      have HK10 := Lib.hid hK10
      have M9 := Lib.hid ((M3.out.below hb9).far (p := ⟨g, 2, none⟩) HNE.out (.slice (some ⟨sg, 0, none⟩) sn sc))
      have m5 := M9.out.cell 5
      have b2 := hC10.cell 2
      simp only [List.getElem?_cons_zero, List.getElem?_cons_succ] at m5 b2
      clear hb9 hl hC10 hL10 hK10
      go_wp2_with fail
      refine wp_loop_rounds 1 ?_
      rw [rounds_succ]
      rcases Nat.eq_zero_or_pos t.args.length with h0 | h0
      · have h0i : ¬ (0 : Int) < (t.args.length : Int) := by omega
        clear h0
        go_wp2
        go_end0
        rw [HR.out]
        exact ⟨_, _, _, rfl, HC10.out, HL10.out, (fun h => by cases h), HK10.out⟩
      · have h0i : (0 : Int) < (t.args.length : Int) := by omega
        clear h0
        go_wp2
        go_end0
        rw [HR.out]
        exact ⟨_, _, _, rfl, HC10.out, HL10.out, (fun h => by cases h), HK10.out⟩
    have h2i : ¬ (256 : Int) < (d : Int) := by omega
    have HW2 := Lib.hid (show walkS t n dm d = if partS t n ≠ [] then (partS t n, n, dm) else walkLS t.args (n + 1) (max dm d) (d + 1) by rw [HW.out, if_neg h1, if_neg h2])
    have HN1 := Lib.hid h1
    have HD2 := Lib.hid h2
    have HF := Lib.hid (fun W h => formR_any S t [.int .i64 t.kind, .int .i64 t.int, .string t.text, .int .u32 t.cr, .slice na t.nums.length nc, .slice a t.args.length cap] W h)
    have HT3 := HT.out.keep KP.out (fun b _ hS e => hg (by rw [← (show b = g from e)]; exact hS))
    clear h1 h2
    go_wp2_with fail
    refine (HF.out W3 HT3).mono ?_
    rintro e w4 ⟨rfl, hb4⟩
    have P4 := Lib.hid (P2.out.below hb4)
    have M4 := Lib.hid (M3.out.below hb4)
    have KP4 := Lib.hid (KP.out.trans (keepB (S := Blk1 g) hb4) (fun _ _ h => h))
    clear hb4 HT3 HF m0 m1 m2 m3 m4 m5 P2 M3 KP
    have m0 := M4.out.cell 0
    have m1 := M4.out.cell 1
    have m2 := M4.out.cell 2
    have m5 := M4.out.cell 5
    simp only [List.getElem?_cons_zero, List.getElem?_cons_succ] at m0 m1 m2 m5
    cases hf : formS t with
    | false =>
      have hps : partS t n = [⟨termL, n, 40⟩] := by unfold partS; rw [if_pos hf]
      have HR := Lib.hid (show walkS t n dm d = ([⟨termL, n, 40⟩], n, dm) by rw [HW2.out, if_pos (by simp [hps]), hps])
      clear hf hps m0 m1 m2 m5
      go_wp2_with fail
      refine (HNO.out _ _).mono ?_
      rintro e w9 ⟨lv, rfl, hl, hb9⟩
      obtain ⟨hC10, hL10, hK10, c2, f2⟩ := bad_laid P4.out KP4.out hb9 hl
      obtain ⟨sg, sn, sc, rfl⟩ := someL hl
      have HC10 := Lib.hid hC10
      have HL10 := Lib.hid hL10
      have HK10 := Lib.hid hK10
      have M9 := Lib.hid ((M4.out.below hb9).far (p := ⟨g, 2, none⟩) HNE.out (.slice (some ⟨sg, 0, none⟩) sn sc))
      have m5 := M9.out.cell 5
      have b2 := hC10.cell 2
      simp only [List.getElem?_cons_zero, List.getElem?_cons_succ] at m5 b2
      clear hb9 hl hC10 hL10 hK10
      go_wp2_with fail
      refine wp_loop_rounds 1 ?_
      rw [rounds_succ]
      rcases Nat.eq_zero_or_pos t.args.length with h0 | h0
      · have h0i : ¬ (0 : Int) < (t.args.length : Int) := by omega
        clear h0
        go_wp2
        go_end0
        rw [HR.out]
        exact ⟨_, _, _, rfl, HC10.out, HL10.out, (fun h => by cases h), HK10.out⟩
      · have h0i : (0 : Int) < (t.args.length : Int) := by omega
        clear h0
        go_wp2
        go_end0
        rw [HR.out]
        exact ⟨_, _, _, rfl, HC10.out, HL10.out, (fun h => by cases h), HK10.out⟩
    | true =>
      by_cases k1 : t.kind = 1
      · have qk1 : (t.kind == 1) = true := beq_iff_eq.2 k1
        have qk2 : (t.kind == 2) = false := beq_eq_false_iff_ne.2 (by omega)
        have qk3 : (t.kind == 3) = false := beq_eq_false_iff_ne.2 (by omega)
        have qk4 : (t.kind == 4) = false := beq_eq_false_iff_ne.2 (by omega)
        by_cases r1 : t.int < -576460752303423488
        · have hps : partS t n = [⟨termL, n, 2⟩] := by unfold partS; rw [if_neg (by simp [hf]), if_pos k1, if_pos (.inl r1)]
          have HR := Lib.hid (show walkS t n dm d = ([⟨termL, n, 2⟩], n, dm) by rw [HW2.out, if_pos (by simp [hps]), hps])
          clear hf hps k1
          go_wp2_with fail
          refine (HNO.out _ _).mono ?_
          rintro e w9 ⟨lv, rfl, hl, hb9⟩
          obtain ⟨hC10, hL10, hK10, c2, f2⟩ := bad_laid P4.out KP4.out hb9 hl
          obtain ⟨sg, sn, sc, rfl⟩ := someL hl
          have HC10 := Lib.hid hC10
          have HL10 := Lib.hid hL10
          have HK10 := Lib.hid hK10
          have M9 := Lib.hid ((M4.out.below hb9).far (p := ⟨g, 2, none⟩) HNE.out (.slice (some ⟨sg, 0, none⟩) sn sc))
          have m5 := M9.out.cell 5
          have b2 := hC10.cell 2
          simp only [List.getElem?_cons_zero, List.getElem?_cons_succ] at m5 b2
          clear hb9 hl hC10 hL10 hK10
          go_wp2_with fail
          refine wp_loop_rounds 1 ?_
          rw [rounds_succ]
          rcases Nat.eq_zero_or_pos t.args.length with h0 | h0
          · have h0i : ¬ (0 : Int) < (t.args.length : Int) := by omega
            clear h0
            go_wp2
            go_end0
            rw [HR.out]
            exact ⟨_, _, _, rfl, HC10.out, HL10.out, (fun h => by cases h), HK10.out⟩
          · have h0i : (0 : Int) < (t.args.length : Int) := by omega
            clear h0
            go_wp2
            go_end0
            rw [HR.out]
            exact ⟨_, _, _, rfl, HC10.out, HL10.out, (fun h => by cases h), HK10.out⟩
        by_cases r2 : 576460752303423487 < t.int
        · have hps : partS t n = [⟨termL, n, 2⟩] := by unfold partS; rw [if_neg (by simp [hf]), if_pos k1, if_pos (.inr r2)]
          have HR := Lib.hid (show walkS t n dm d = ([⟨termL, n, 2⟩], n, dm) by rw [HW2.out, if_pos (by simp [hps]), hps])
          clear hf hps k1
          go_wp2_with fail
          refine (HNO.out _ _).mono ?_
          rintro e w9 ⟨lv, rfl, hl, hb9⟩
          obtain ⟨hC10, hL10, hK10, c2, f2⟩ := bad_laid P4.out KP4.out hb9 hl
          obtain ⟨sg, sn, sc, rfl⟩ := someL hl
          have HC10 := Lib.hid hC10
          have HL10 := Lib.hid hL10
          have HK10 := Lib.hid hK10
          have M9 := Lib.hid ((M4.out.below hb9).far (p := ⟨g, 2, none⟩) HNE.out (.slice (some ⟨sg, 0, none⟩) sn sc))
          have m5 := M9.out.cell 5
          have b2 := hC10.cell 2
          simp only [List.getElem?_cons_zero, List.getElem?_cons_succ] at m5 b2
          clear hb9 hl hC10 hL10 hK10
          go_wp2_with fail
          refine wp_loop_rounds 1 ?_
          rw [rounds_succ]
          rcases Nat.eq_zero_or_pos t.args.length with h0 | h0
          · have h0i : ¬ (0 : Int) < (t.args.length : Int) := by omega
            clear h0
            go_wp2
            go_end0
            rw [HR.out]
            exact ⟨_, _, _, rfl, HC10.out, HL10.out, (fun h => by cases h), HK10.out⟩
          · have h0i : (0 : Int) < (t.args.length : Int) := by omega
            clear h0
            go_wp2
            go_end0
            rw [HR.out]
            exact ⟨_, _, _, rfl, HC10.out, HL10.out, (fun h => by cases h), HK10.out⟩
        have hps : partS t n = [] := by unfold partS; rw [if_neg (by simp [hf]), if_pos k1, if_neg (by omega)]
        have HRL := Lib.hid (show walkS t n dm d = walkLS t.args (n + 1) (max dm d) (d + 1) by rw [HW2.out, if_neg (by simp [hps])])
        clear hf hps k1
        have P9 := Lib.hid (show Cells _ g 70 [.int .i64 ((n + 1 : Nat) : Int), .int .i64 ((max dm d : Nat) : Int), .slice none 0 0] from by
          have := P4.out
          rwa [show ((n + 1 : Nat) : Int) = (n : Int) + 1 by omega, show ((max dm d : Nat) : Int) = max (dm : Int) (d : Int) by omega])
        have MK := Lib.hid M4.out
        have KK := Lib.hid KP4.out
        go_wp2_with fail
        generalize hWX : w4 = WX at *
        clear hWX
        clear m0 m1 m2 m5 P4 M4 KP4
        go_loopw [12] (fun i wr => ∃ (kk : Nat), kk ≤ t.args.length ∧ i = .int .i64 kk ∧ Keep (Blk1 g) WX wr ∧ ((∃ n' dm' : Nat, walkLS (t.args.drop kk) n' dm' (d + 1) = walkLS t.args (n + 1) (max dm d) (d + 1) ∧ n' ≤ 4096 ∧ dm' ≤ 256 ∧ Cells wr g 70 [.int .i64 n', .int .i64 dm', .slice none 0 0]) ∨
          (∃ (n' dm' : Int) (sg sn sc : Nat), (walkLS t.args (n + 1) (max dm d) (d + 1)).1 ≠ [] ∧ Cells wr g 70 [.int .i64 n', .int .i64 dm', .slice (some ⟨sg, 0, none⟩) sn sc] ∧ LinksIs (g + 1) (.slice (some ⟨sg, 0, none⟩) sn sc) (walkLS t.args (n + 1) (max dm d) (d + 1)).1 wr))) (fun i _ => t.args.length - (intOf i).toNat)
        case atStart => exact ⟨0, Nat.zero_le _, rfl, Keep.refl _ _, .inl ⟨n + 1, max dm d, rfl, by have := HN1.out; have := HBD.out; omega, by have := HD2.out; have := HBD.out; omega, P9.out⟩⟩
        case round =>
          obtain ⟨kk, hkk, rfl, hKr, hst⟩ := hrel
          have HKR := Lib.hid hKr
          have HKW := Lib.hid (KK.out.trans hKr (fun _ _ h => h))
          have MR := Lib.hid (MK.out.keep hKr (fun e => HNE.out e))
          have m5 := MR.out.cell 5
          simp only [List.getElem?_cons_zero, List.getElem?_cons_succ] at m5
          have HST := Lib.hid hst
          clear hKr hst P9
          by_cases hk : kk < t.args.length
          · have hki : (kk : Int) < (t.args.length : Int) := by omega
            have hk0 : (0 : Int) ≤ (kk : Int) := by omega
            rcases HST.out with ⟨n', dm', hR, hn', hdm', hCr⟩ | ⟨n', dm', sg, sn, sc, hne2, hCr, hLr⟩
            · have HRR := Lib.hid hR
              have HB' := Lib.hid (And.intro hn' hdm')
              have b2 := hCr.cell 2
              simp only [List.getElem?_cons_zero, List.getElem?_cons_succ] at b2
              obtain ⟨g2, o2, vs2, hae, _, hcs, ht2⟩ := (HA.out.keep HKW.out (fun b _ hS e => hg (by rw [← (show b = g from e)]; exact hS))).get kk hk
              subst hae
              have HT2 := Lib.hid ht2
              obtain ⟨_, nv2, a2, cap2, hv2, hnn2, _⟩ := ht2.parts
              obtain ⟨na2, nc2, hnv2, _, _⟩ := hnn2.slice
              subst hv2
              subst hnv2
              have e0 := hcs 0 (by decide)
              have e1 := hcs 1 (by decide)
              have e2 := hcs 2 (by decide)
              have e3 := hcs 3 (by decide)
              have e4 := hcs 4 (by decide)
              have e5 := hcs 5 (by decide)
              simp only [List.getElem?_cons_zero, List.getElem?_cons_succ, ← Nat.add_assoc, Nat.add_zero] at e0 e1 e2 e3 e4 e5
              have HD := Lib.hid (walkLS_drop hk n' dm' (d + 1))
              have HCALL := Lib.hid (HIH.out t.args[kk] _ n' dm' (d + 1) _ (by have := Tm.arg_lt hk; have := HNN.out; omega) HT2.out hCr HB'.out.1 HB'.out.2 (by have := HD2.out; omega))
              rw [show ((d + 1 : Nat) : Int) = (d : Int) + 1 by omega] at HCALL
              clear hcs ht2 hnn2 hCr hR hn' hdm' HST
              go_wp2_with fail
              refine HCALL.out.mono ?_
              rintro e w5 ⟨n5, dm5, bv5, rfl, hC5, hL5, hok5, hk5⟩
              have HK5 := Lib.hid (HKR.out.trans hk5 (fun _ _ h => h))
              have HC5 := Lib.hid hC5
              have HL5 := Lib.hid hL5
              have HOK5 := Lib.hid hok5
              have HLE := Lib.hid (walkS_le t.args[kk] n' dm' (d + 1) HB'.out.1 (by have := HD2.out; omega) HB'.out.2)
              clear hk5 hC5 hok5 e0 e1 e2 e3 e4 e5 HCALL b2 m5
              generalize walkS t.args[kk] n' dm' (d + 1) = R1 at *
              obtain ⟨r1, n1, dm1⟩ := R1
              cases r1 with
              | cons q r =>
                obtain ⟨sg, sn, sc, rfl⟩ := someL hL5
                have HR2 := Lib.hid (show walkLS t.args (n + 1) (max dm d) (d + 1) = (q :: r, n1, dm1) by rw [← HRR.out, HD.out, if_pos (by simp)])
                clear hL5
                go_wp2
                go_roundw
                case rel => exact ⟨kk + 1, by omega, by go_num, HK5.out, .inr ⟨n5, dm5, sg, sn, sc, by rw [HR2.out]; simp, HC5.out, by rw [HR2.out]; exact HL5.out⟩⟩
                case measure => simp [intOf]; omega
              | nil =>
                obtain ⟨rfl, rfl, rfl⟩ := HOK5.out rfl
                have HR2 := Lib.hid (show walkLS (t.args.drop (kk + 1)) n1 dm1 (d + 1) = walkLS t.args (n + 1) (max dm d) (d + 1) by rw [← HRR.out, HD.out, if_neg (by simp)])
                clear hL5
                go_wp2
                go_roundw
                case rel => exact ⟨kk + 1, by omega, by go_num, HK5.out, .inl ⟨n1, dm1, HR2.out, HLE.out.1, HLE.out.2, HC5.out⟩⟩
                case measure => simp [intOf]; omega
            · have b2 := hCr.cell 2
              simp only [List.getElem?_cons_zero, List.getElem?_cons_succ] at b2
              have HCR := Lib.hid hCr
              have HLR := Lib.hid hLr
              have HNE2 := Lib.hid hne2
              clear hCr hLr hne2 HST
              go_wp2
              go_end0
              rw [HRL.out]
              exact ⟨_, _, _, rfl, HCR.out, HLR.out, (fun h => absurd h HNE2.out), HKW.out⟩
          · have hki : ¬ (kk : Int) < (t.args.length : Int) := by omega
            have hdr : t.args.drop kk = [] := List.drop_eq_nil_of_le (by omega)
            clear hkk
            go_wp2
            go_end0
            rw [HRL.out]
            rcases HST.out with ⟨n', dm', hR, hn', hdm', hCr⟩ | ⟨n', dm', sg, sn, sc, hne2, hCr, hLr⟩
            · rw [hdr, walkLS] at hR
              rw [← hR]
              exact ⟨_, _, _, rfl, hCr, LinksIs.nil _ _, (fun _ => ⟨rfl, rfl, rfl⟩), HKW.out⟩
            · exact ⟨_, _, _, rfl, hCr, hLr, (fun h => absurd h hne2), HKW.out⟩
      by_cases k2 : t.kind = 2
      · have qk1 : (t.kind == 1) = false := beq_eq_false_iff_ne.2 k1
        have qk2 : (t.kind == 2) = true := beq_iff_eq.2 k2
        have HPS := Lib.hid (show partS t n = overL n (quoteS t.text).2 by unfold partS; rw [if_neg (by simp [hf]), if_neg k1, if_pos k2])
        clear m1 hf k1 k2
        have HQ := Lib.hid (quoteR_nil t.text w4 HSZ.out)
        go_wp2_with fail
        refine HQ.out.mono ?_
        rintro e w5 ⟨lv5, rfl, hl5, hb5, hnil5⟩
        have P5 := Lib.hid (P4.out.below hb5)
        have M5 := Lib.hid (M4.out.below hb5)
        have KP5 := Lib.hid (KP4.out.trans (keepB (S := Blk1 g) hb5) (fun _ _ h => h))
        have HL5 := Lib.hid hl5
        have m5 := M5.out.cell 5
        simp only [List.getElem?_cons_zero, List.getElem?_cons_succ] at m5
        clear hb5
        cases hl : (quoteS t.text).2 with
        | nil =>
          obtain rfl := hnil5 hl
          have hps : partS t n = [] := HPS.out.trans (by rw [hl]; rfl)
          have HRL := Lib.hid (show walkS t n dm d = walkLS t.args (n + 1) (max dm d) (d + 1) by rw [HW2.out, if_neg (by simp [hps])])
          clear hps hl hl5 hnil5
          have P9 := Lib.hid (show Cells _ g 70 [.int .i64 ((n + 1 : Nat) : Int), .int .i64 ((max dm d : Nat) : Int), .slice none 0 0] from by
            have := P5.out
            rwa [show ((n + 1 : Nat) : Int) = (n : Int) + 1 by omega, show ((max dm d : Nat) : Int) = max (dm : Int) (d : Int) by omega])
          have MK := Lib.hid M5.out
          have KK := Lib.hid KP5.out
          go_wp2_with fail
          generalize hWX : w5 = WX at *
          clear hWX
          clear m5 P5 M5 KP5
          go_loopw [12] (fun i wr => ∃ (kk : Nat), kk ≤ t.args.length ∧ i = .int .i64 kk ∧ Keep (Blk1 g) WX wr ∧ ((∃ n' dm' : Nat, walkLS (t.args.drop kk) n' dm' (d + 1) = walkLS t.args (n + 1) (max dm d) (d + 1) ∧ n' ≤ 4096 ∧ dm' ≤ 256 ∧ Cells wr g 70 [.int .i64 n', .int .i64 dm', .slice none 0 0]) ∨
            (∃ (n' dm' : Int) (sg sn sc : Nat), (walkLS t.args (n + 1) (max dm d) (d + 1)).1 ≠ [] ∧ Cells wr g 70 [.int .i64 n', .int .i64 dm', .slice (some ⟨sg, 0, none⟩) sn sc] ∧ LinksIs (g + 1) (.slice (some ⟨sg, 0, none⟩) sn sc) (walkLS t.args (n + 1) (max dm d) (d + 1)).1 wr))) (fun i _ => t.args.length - (intOf i).toNat)
          case atStart => exact ⟨0, Nat.zero_le _, rfl, Keep.refl _ _, .inl ⟨n + 1, max dm d, rfl, by have := HN1.out; have := HBD.out; omega, by have := HD2.out; have := HBD.out; omega, P9.out⟩⟩
          case round =>
            obtain ⟨kk, hkk, rfl, hKr, hst⟩ := hrel
            have HKR := Lib.hid hKr
            have HKW := Lib.hid (KK.out.trans hKr (fun _ _ h => h))
            have MR := Lib.hid (MK.out.keep hKr (fun e => HNE.out e))
            have m5 := MR.out.cell 5
            simp only [List.getElem?_cons_zero, List.getElem?_cons_succ] at m5
            have HST := Lib.hid hst
            clear hKr hst P9
            by_cases hk : kk < t.args.length
            · have hki : (kk : Int) < (t.args.length : Int) := by omega
              have hk0 : (0 : Int) ≤ (kk : Int) := by omega
              rcases HST.out with ⟨n', dm', hR, hn', hdm', hCr⟩ | ⟨n', dm', sg, sn, sc, hne2, hCr, hLr⟩
              · have HRR := Lib.hid hR
                have HB' := Lib.hid (And.intro hn' hdm')
                have b2 := hCr.cell 2
                simp only [List.getElem?_cons_zero, List.getElem?_cons_succ] at b2
                obtain ⟨g2, o2, vs2, hae, _, hcs, ht2⟩ := (HA.out.keep HKW.out (fun b _ hS e => hg (by rw [← (show b = g from e)]; exact hS))).get kk hk
                subst hae
                have HT2 := Lib.hid ht2
                obtain ⟨_, nv2, a2, cap2, hv2, hnn2, _⟩ := ht2.parts
                obtain ⟨na2, nc2, hnv2, _, _⟩ := hnn2.slice
                subst hv2
                subst hnv2
                have e0 := hcs 0 (by decide)
                have e1 := hcs 1 (by decide)
                have e2 := hcs 2 (by decide)
                have e3 := hcs 3 (by decide)
                have e4 := hcs 4 (by decide)
                have e5 := hcs 5 (by decide)
                simp only [List.getElem?_cons_zero, List.getElem?_cons_succ, ← Nat.add_assoc, Nat.add_zero] at e0 e1 e2 e3 e4 e5
                have HD := Lib.hid (walkLS_drop hk n' dm' (d + 1))
                have HCALL := Lib.hid (HIH.out t.args[kk] _ n' dm' (d + 1) _ (by have := Tm.arg_lt hk; have := HNN.out; omega) HT2.out hCr HB'.out.1 HB'.out.2 (by have := HD2.out; omega))
                rw [show ((d + 1 : Nat) : Int) = (d : Int) + 1 by omega] at HCALL
                clear hcs ht2 hnn2 hCr hR hn' hdm' HST
                go_wp2_with fail
                refine HCALL.out.mono ?_
                rintro e w5 ⟨n5, dm5, bv5, rfl, hC5, hL5, hok5, hk5⟩
                have HK5 := Lib.hid (HKR.out.trans hk5 (fun _ _ h => h))
                have HC5 := Lib.hid hC5
                have HL5 := Lib.hid hL5
                have HOK5 := Lib.hid hok5
                have HLE := Lib.hid (walkS_le t.args[kk] n' dm' (d + 1) HB'.out.1 (by have := HD2.out; omega) HB'.out.2)
                clear hk5 hC5 hok5 e0 e1 e2 e3 e4 e5 HCALL b2 m5
                generalize walkS t.args[kk] n' dm' (d + 1) = R1 at *
                obtain ⟨r1, n1, dm1⟩ := R1
                cases r1 with
                | cons q r =>
                  obtain ⟨sg, sn, sc, rfl⟩ := someL hL5
                  have HR2 := Lib.hid (show walkLS t.args (n + 1) (max dm d) (d + 1) = (q :: r, n1, dm1) by rw [← HRR.out, HD.out, if_pos (by simp)])
                  clear hL5
                  go_wp2
                  go_roundw
                  case rel => exact ⟨kk + 1, by omega, by go_num, HK5.out, .inr ⟨n5, dm5, sg, sn, sc, by rw [HR2.out]; simp, HC5.out, by rw [HR2.out]; exact HL5.out⟩⟩
                  case measure => simp [intOf]; omega
                | nil =>
                  obtain ⟨rfl, rfl, rfl⟩ := HOK5.out rfl
                  have HR2 := Lib.hid (show walkLS (t.args.drop (kk + 1)) n1 dm1 (d + 1) = walkLS t.args (n + 1) (max dm d) (d + 1) by rw [← HRR.out, HD.out, if_neg (by simp)])
                  clear hL5
                  go_wp2
                  go_roundw
                  case rel => exact ⟨kk + 1, by omega, by go_num, HK5.out, .inl ⟨n1, dm1, HR2.out, HLE.out.1, HLE.out.2, HC5.out⟩⟩
                  case measure => simp [intOf]; omega
              · have b2 := hCr.cell 2
                simp only [List.getElem?_cons_zero, List.getElem?_cons_succ] at b2
                have HCR := Lib.hid hCr
                have HLR := Lib.hid hLr
                have HNE2 := Lib.hid hne2
                clear hCr hLr hne2 HST
                go_wp2
                go_end0
                rw [HRL.out]
                exact ⟨_, _, _, rfl, HCR.out, HLR.out, (fun h => absurd h HNE2.out), HKW.out⟩
            · have hki : ¬ (kk : Int) < (t.args.length : Int) := by omega
              have hdr : t.args.drop kk = [] := List.drop_eq_nil_of_le (by omega)
              clear hkk
              go_wp2
              go_end0
              rw [HRL.out]
              rcases HST.out with ⟨n', dm', hR, hn', hdm', hCr⟩ | ⟨n', dm', sg, sn, sc, hne2, hCr, hLr⟩
              · rw [hdr, walkLS] at hR
                rw [← hR]
                exact ⟨_, _, _, rfl, hCr, LinksIs.nil _ _, (fun _ => ⟨rfl, rfl, rfl⟩), HKW.out⟩
              · exact ⟨_, _, _, rfl, hCr, hLr, (fun h => absurd h hne2), HKW.out⟩
        | cons q r =>
          rw [hl] at hl5 HL5
          have hps : partS t n = ⟨termL, n, q.code⟩ :: q :: r := HPS.out.trans (by rw [hl]; rfl)
          have HR := Lib.hid (show walkS t n dm d = (⟨termL, n, q.code⟩ :: q :: r, n, dm) by rw [HW2.out, if_pos (by simp [hps]), hps])
          have HLR := Lib.hid (show r.length ≤ 50 from by have h1 : ((quoteS t.text).2).length ≤ 1 := quoteS_len t.text; rw [hl] at h1; simp at h1; simp [h1])
          have HOV := Lib.hid (over02_any n lv5 q r _ w5 HL5.out HLR.out)
          obtain ⟨sg5, sn5, sc5, rfl⟩ := someL hl5
          clear hps hl hl5 hnil5 m5
          go_wp2_with fail
          refine HOV.out.mono ?_
          rintro e w9 ⟨lv, rfl, hl, hb9⟩
          obtain ⟨hC10, hL10, hK10, c2, f2⟩ := bad_laid P5.out KP5.out hb9 hl
          obtain ⟨sg, sn, sc, rfl⟩ := someL hl
          have HC10 := Lib.hid hC10
          have HL10 := Lib.hid hL10
          have HK10 := Lib.hid hK10
          have M9 := Lib.hid ((M5.out.below hb9).far (p := ⟨g, 2, none⟩) HNE.out (.slice (some ⟨sg, 0, none⟩) sn sc))
          have m5 := M9.out.cell 5
          have b2 := hC10.cell 2
          simp only [List.getElem?_cons_zero, List.getElem?_cons_succ] at m5 b2
          clear hb9 hl hC10 hL10 hK10
          go_wp2_with fail
          refine wp_loop_rounds 1 ?_
          rw [rounds_succ]
          rcases Nat.eq_zero_or_pos t.args.length with h0 | h0
          · have h0i : ¬ (0 : Int) < (t.args.length : Int) := by omega
            clear h0
            go_wp2
            go_end0
            rw [HR.out]
            exact ⟨_, _, _, rfl, HC10.out, HL10.out, (fun h => by cases h), HK10.out⟩
          · have h0i : (0 : Int) < (t.args.length : Int) := by omega
            clear h0
            go_wp2
            go_end0
            rw [HR.out]
            exact ⟨_, _, _, rfl, HC10.out, HL10.out, (fun h => by cases h), HK10.out⟩
      by_cases k34 : t.kind = 3 ∨ t.kind = 4
      · have qk1 : (t.kind == 1) = false := beq_eq_false_iff_ne.2 k1
        have qk2 : (t.kind == 2) = false := beq_eq_false_iff_ne.2 k2
        have HPS := Lib.hid (show partS t n = overL n (nodeS t.text).2.2 by unfold partS; rw [if_neg (by simp [hf]), if_neg k1, if_neg k2, if_pos k34])
        have HQ := Lib.hid (nodeR_nil t.text w4 HSZ.out)
        rw [nodeRS_eq] at HQ
        clear m1 hf k1 k2
        rcases k34 with k3 | k3
        · have qk3 : (t.kind == 3) = true := beq_iff_eq.2 k3
          clear k3
          go_wp2_with fail
          refine HQ.out.mono ?_
          rintro e w5 ⟨lv5, rfl, hl5, hb5, hnil5⟩
          have P5 := Lib.hid (P4.out.below hb5)
          have M5 := Lib.hid (M4.out.below hb5)
          have KP5 := Lib.hid (KP4.out.trans (keepB (S := Blk1 g) hb5) (fun _ _ h => h))
          have HL5 := Lib.hid hl5
          have m5 := M5.out.cell 5
          simp only [List.getElem?_cons_zero, List.getElem?_cons_succ] at m5
          clear hb5
          cases hl : (nodeS t.text).2.2 with
          | nil =>
            obtain rfl := hnil5 hl
            have hps : partS t n = [] := HPS.out.trans (by rw [hl]; rfl)
            have HRL := Lib.hid (show walkS t n dm d = walkLS t.args (n + 1) (max dm d) (d + 1) by rw [HW2.out, if_neg (by simp [hps])])
            clear hps hl hl5 hnil5
            have P9 := Lib.hid (show Cells _ g 70 [.int .i64 ((n + 1 : Nat) : Int), .int .i64 ((max dm d : Nat) : Int), .slice none 0 0] from by
              have := P5.out
              rwa [show ((n + 1 : Nat) : Int) = (n : Int) + 1 by omega, show ((max dm d : Nat) : Int) = max (dm : Int) (d : Int) by omega])
            have MK := Lib.hid M5.out
            have KK := Lib.hid KP5.out
            go_wp2_with fail
            generalize hWX : w5 = WX at *
            clear hWX
            clear m5 P5 M5 KP5
            go_loopw [12] (fun i wr => ∃ (kk : Nat), kk ≤ t.args.length ∧ i = .int .i64 kk ∧ Keep (Blk1 g) WX wr ∧ ((∃ n' dm' : Nat, walkLS (t.args.drop kk) n' dm' (d + 1) = walkLS t.args (n + 1) (max dm d) (d + 1) ∧ n' ≤ 4096 ∧ dm' ≤ 256 ∧ Cells wr g 70 [.int .i64 n', .int .i64 dm', .slice none 0 0]) ∨
              (∃ (n' dm' : Int) (sg sn sc : Nat), (walkLS t.args (n + 1) (max dm d) (d + 1)).1 ≠ [] ∧ Cells wr g 70 [.int .i64 n', .int .i64 dm', .slice (some ⟨sg, 0, none⟩) sn sc] ∧ LinksIs (g + 1) (.slice (some ⟨sg, 0, none⟩) sn sc) (walkLS t.args (n + 1) (max dm d) (d + 1)).1 wr))) (fun i _ => t.args.length - (intOf i).toNat)
            case atStart => exact ⟨0, Nat.zero_le _, rfl, Keep.refl _ _, .inl ⟨n + 1, max dm d, rfl, by have := HN1.out; have := HBD.out; omega, by have := HD2.out; have := HBD.out; omega, P9.out⟩⟩
            case round =>
              obtain ⟨kk, hkk, rfl, hKr, hst⟩ := hrel
              have HKR := Lib.hid hKr
              have HKW := Lib.hid (KK.out.trans hKr (fun _ _ h => h))
              have MR := Lib.hid (MK.out.keep hKr (fun e => HNE.out e))
              have m5 := MR.out.cell 5
              simp only [List.getElem?_cons_zero, List.getElem?_cons_succ] at m5
              have HST := Lib.hid hst
              clear hKr hst P9
              by_cases hk : kk < t.args.length
              · have hki : (kk : Int) < (t.args.length : Int) := by omega
                have hk0 : (0 : Int) ≤ (kk : Int) := by omega
                rcases HST.out with ⟨n', dm', hR, hn', hdm', hCr⟩ | ⟨n', dm', sg, sn, sc, hne2, hCr, hLr⟩
                · have HRR := Lib.hid hR
                  have HB' := Lib.hid (And.intro hn' hdm')
                  have b2 := hCr.cell 2
                  simp only [List.getElem?_cons_zero, List.getElem?_cons_succ] at b2
                  obtain ⟨g2, o2, vs2, hae, _, hcs, ht2⟩ := (HA.out.keep HKW.out (fun b _ hS e => hg (by rw [← (show b = g from e)]; exact hS))).get kk hk
                  subst hae
                  have HT2 := Lib.hid ht2
                  obtain ⟨_, nv2, a2, cap2, hv2, hnn2, _⟩ := ht2.parts
                  obtain ⟨na2, nc2, hnv2, _, _⟩ := hnn2.slice
                  subst hv2
                  subst hnv2
                  have e0 := hcs 0 (by decide)
                  have e1 := hcs 1 (by decide)
                  have e2 := hcs 2 (by decide)
                  have e3 := hcs 3 (by decide)
                  have e4 := hcs 4 (by decide)
                  have e5 := hcs 5 (by decide)
                  simp only [List.getElem?_cons_zero, List.getElem?_cons_succ, ← Nat.add_assoc, Nat.add_zero] at e0 e1 e2 e3 e4 e5
                  have HD := Lib.hid (walkLS_drop hk n' dm' (d + 1))
                  have HCALL := Lib.hid (HIH.out t.args[kk] _ n' dm' (d + 1) _ (by have := Tm.arg_lt hk; have := HNN.out; omega) HT2.out hCr HB'.out.1 HB'.out.2 (by have := HD2.out; omega))
                  rw [show ((d + 1 : Nat) : Int) = (d : Int) + 1 by omega] at HCALL
                  clear hcs ht2 hnn2 hCr hR hn' hdm' HST
                  go_wp2_with fail
                  refine HCALL.out.mono ?_
                  rintro e w5 ⟨n5, dm5, bv5, rfl, hC5, hL5, hok5, hk5⟩
                  have HK5 := Lib.hid (HKR.out.trans hk5 (fun _ _ h => h))
                  have HC5 := Lib.hid hC5
                  have HL5 := Lib.hid hL5
                  have HOK5 := Lib.hid hok5
                  have HLE := Lib.hid (walkS_le t.args[kk] n' dm' (d + 1) HB'.out.1 (by have := HD2.out; omega) HB'.out.2)
                  clear hk5 hC5 hok5 e0 e1 e2 e3 e4 e5 HCALL b2 m5
                  generalize walkS t.args[kk] n' dm' (d + 1) = R1 at *
                  obtain ⟨r1, n1, dm1⟩ := R1
                  cases r1 with
                  | cons q r =>
                    obtain ⟨sg, sn, sc, rfl⟩ := someL hL5
                    have HR2 := Lib.hid (show walkLS t.args (n + 1) (max dm d) (d + 1) = (q :: r, n1, dm1) by rw [← HRR.out, HD.out, if_pos (by simp)])
                    clear hL5
                    go_wp2
                    go_roundw
                    case rel => exact ⟨kk + 1, by omega, by go_num, HK5.out, .inr ⟨n5, dm5, sg, sn, sc, by rw [HR2.out]; simp, HC5.out, by rw [HR2.out]; exact HL5.out⟩⟩
                    case measure => simp [intOf]; omega
                  | nil =>
                    obtain ⟨rfl, rfl, rfl⟩ := HOK5.out rfl
                    have HR2 := Lib.hid (show walkLS (t.args.drop (kk + 1)) n1 dm1 (d + 1) = walkLS t.args (n + 1) (max dm d) (d + 1) by rw [← HRR.out, HD.out, if_neg (by simp)])
                    clear hL5
                    go_wp2
                    go_roundw
                    case rel => exact ⟨kk + 1, by omega, by go_num, HK5.out, .inl ⟨n1, dm1, HR2.out, HLE.out.1, HLE.out.2, HC5.out⟩⟩
                    case measure => simp [intOf]; omega
                · have b2 := hCr.cell 2
                  simp only [List.getElem?_cons_zero, List.getElem?_cons_succ] at b2
                  have HCR := Lib.hid hCr
                  have HLR := Lib.hid hLr
                  have HNE2 := Lib.hid hne2
                  clear hCr hLr hne2 HST
                  go_wp2
                  go_end0
                  rw [HRL.out]
                  exact ⟨_, _, _, rfl, HCR.out, HLR.out, (fun h => absurd h HNE2.out), HKW.out⟩
              · have hki : ¬ (kk : Int) < (t.args.length : Int) := by omega
                have hdr : t.args.drop kk = [] := List.drop_eq_nil_of_le (by omega)
                clear hkk
                go_wp2
                go_end0
                rw [HRL.out]
                rcases HST.out with ⟨n', dm', hR, hn', hdm', hCr⟩ | ⟨n', dm', sg, sn, sc, hne2, hCr, hLr⟩
                · rw [hdr, walkLS] at hR
                  rw [← hR]
                  exact ⟨_, _, _, rfl, hCr, LinksIs.nil _ _, (fun _ => ⟨rfl, rfl, rfl⟩), HKW.out⟩
                · exact ⟨_, _, _, rfl, hCr, hLr, (fun h => absurd h hne2), HKW.out⟩
          | cons q r =>
            rw [hl] at hl5 HL5
            have hps : partS t n = ⟨termL, n, q.code⟩ :: q :: r := HPS.out.trans (by rw [hl]; rfl)
            have HR := Lib.hid (show walkS t n dm d = (⟨termL, n, q.code⟩ :: q :: r, n, dm) by rw [HW2.out, if_pos (by simp [hps]), hps])
            have HLR := Lib.hid (show r.length ≤ 50 from by have h1 : ((nodeS t.text).2.2).length ≤ 1 := (by unfold nodeS; split <;> simp); rw [hl] at h1; simp at h1; simp [h1])
            have HOV := Lib.hid (over02_any n lv5 q r _ w5 HL5.out HLR.out)
            obtain ⟨sg5, sn5, sc5, rfl⟩ := someL hl5
            clear hps hl hl5 hnil5 m5
            go_wp2_with fail
            refine HOV.out.mono ?_
            rintro e w9 ⟨lv, rfl, hl, hb9⟩
            obtain ⟨hC10, hL10, hK10, c2, f2⟩ := bad_laid P5.out KP5.out hb9 hl
            obtain ⟨sg, sn, sc, rfl⟩ := someL hl
            have HC10 := Lib.hid hC10
            have HL10 := Lib.hid hL10
            have HK10 := Lib.hid hK10
            have M9 := Lib.hid ((M5.out.below hb9).far (p := ⟨g, 2, none⟩) HNE.out (.slice (some ⟨sg, 0, none⟩) sn sc))
            have m5 := M9.out.cell 5
            have b2 := hC10.cell 2
            simp only [List.getElem?_cons_zero, List.getElem?_cons_succ] at m5 b2
            clear hb9 hl hC10 hL10 hK10
            go_wp2_with fail
            refine wp_loop_rounds 1 ?_
            rw [rounds_succ]
            rcases Nat.eq_zero_or_pos t.args.length with h0 | h0
            · have h0i : ¬ (0 : Int) < (t.args.length : Int) := by omega
              clear h0
              go_wp2
              go_end0
              rw [HR.out]
              exact ⟨_, _, _, rfl, HC10.out, HL10.out, (fun h => by cases h), HK10.out⟩
            · have h0i : (0 : Int) < (t.args.length : Int) := by omega
              clear h0
              go_wp2
              go_end0
              rw [HR.out]
              exact ⟨_, _, _, rfl, HC10.out, HL10.out, (fun h => by cases h), HK10.out⟩
        · have qk3 : (t.kind == 3) = false := beq_eq_false_iff_ne.2 (by omega)
          have qk4 : (t.kind == 4) = true := beq_iff_eq.2 k3
          clear k3
          go_wp2_with fail
          refine HQ.out.mono ?_
          rintro e w5 ⟨lv5, rfl, hl5, hb5, hnil5⟩
          have P5 := Lib.hid (P4.out.below hb5)
          have M5 := Lib.hid (M4.out.below hb5)
          have KP5 := Lib.hid (KP4.out.trans (keepB (S := Blk1 g) hb5) (fun _ _ h => h))
          have HL5 := Lib.hid hl5
          have m5 := M5.out.cell 5
          simp only [List.getElem?_cons_zero, List.getElem?_cons_succ] at m5
          clear hb5
          cases hl : (nodeS t.text).2.2 with
          | nil =>
            obtain rfl := hnil5 hl
            have hps : partS t n = [] := HPS.out.trans (by rw [hl]; rfl)
            have HRL := Lib.hid (show walkS t n dm d = walkLS t.args (n + 1) (max dm d) (d + 1) by rw [HW2.out, if_neg (by simp [hps])])
            clear hps hl hl5 hnil5
            have P9 := Lib.hid (show Cells _ g 70 [.int .i64 ((n + 1 : Nat) : Int), .int .i64 ((max dm d : Nat) : Int), .slice none 0 0] from by
              have := P5.out
              rwa [show ((n + 1 : Nat) : Int) = (n : Int) + 1 by omega, show ((max dm d : Nat) : Int) = max (dm : Int) (d : Int) by omega])
            have MK := Lib.hid M5.out
            have KK := Lib.hid KP5.out
            go_wp2_with fail
            generalize hWX : w5 = WX at *
            clear hWX
            clear m5 P5 M5 KP5
            go_loopw [12] (fun i wr => ∃ (kk : Nat), kk ≤ t.args.length ∧ i = .int .i64 kk ∧ Keep (Blk1 g) WX wr ∧ ((∃ n' dm' : Nat, walkLS (t.args.drop kk) n' dm' (d + 1) = walkLS t.args (n + 1) (max dm d) (d + 1) ∧ n' ≤ 4096 ∧ dm' ≤ 256 ∧ Cells wr g 70 [.int .i64 n', .int .i64 dm', .slice none 0 0]) ∨
              (∃ (n' dm' : Int) (sg sn sc : Nat), (walkLS t.args (n + 1) (max dm d) (d + 1)).1 ≠ [] ∧ Cells wr g 70 [.int .i64 n', .int .i64 dm', .slice (some ⟨sg, 0, none⟩) sn sc] ∧ LinksIs (g + 1) (.slice (some ⟨sg, 0, none⟩) sn sc) (walkLS t.args (n + 1) (max dm d) (d + 1)).1 wr))) (fun i _ => t.args.length - (intOf i).toNat)
            case atStart => exact ⟨0, Nat.zero_le _, rfl, Keep.refl _ _, .inl ⟨n + 1, max dm d, rfl, by have := HN1.out; have := HBD.out; omega, by have := HD2.out; have := HBD.out; omega, P9.out⟩⟩
            case round =>
              obtain ⟨kk, hkk, rfl, hKr, hst⟩ := hrel
              have HKR := Lib.hid hKr
              have HKW := Lib.hid (KK.out.trans hKr (fun _ _ h => h))
              have MR := Lib.hid (MK.out.keep hKr (fun e => HNE.out e))
              have m5 := MR.out.cell 5
              simp only [List.getElem?_cons_zero, List.getElem?_cons_succ] at m5
              have HST := Lib.hid hst
              clear hKr hst P9
              by_cases hk : kk < t.args.length
              · have hki : (kk : Int) < (t.args.length : Int) := by omega
                have hk0 : (0 : Int) ≤ (kk : Int) := by omega
                rcases HST.out with ⟨n', dm', hR, hn', hdm', hCr⟩ | ⟨n', dm', sg, sn, sc, hne2, hCr, hLr⟩
                · have HRR := Lib.hid hR
                  have HB' := Lib.hid (And.intro hn' hdm')
                  have b2 := hCr.cell 2
                  simp only [List.getElem?_cons_zero, List.getElem?_cons_succ] at b2
                  obtain ⟨g2, o2, vs2, hae, _, hcs, ht2⟩ := (HA.out.keep HKW.out (fun b _ hS e => hg (by rw [← (show b = g from e)]; exact hS))).get kk hk
                  subst hae
                  have HT2 := Lib.hid ht2
                  obtain ⟨_, nv2, a2, cap2, hv2, hnn2, _⟩ := ht2.parts
                  obtain ⟨na2, nc2, hnv2, _, _⟩ := hnn2.slice
                  subst hv2
                  subst hnv2
                  have e0 := hcs 0 (by decide)
                  have e1 := hcs 1 (by decide)
                  have e2 := hcs 2 (by decide)
                  have e3 := hcs 3 (by decide)
                  have e4 := hcs 4 (by decide)
                  have e5 := hcs 5 (by decide)
                  simp only [List.getElem?_cons_zero, List.getElem?_cons_succ, ← Nat.add_assoc, Nat.add_zero] at e0 e1 e2 e3 e4 e5
                  have HD := Lib.hid (walkLS_drop hk n' dm' (d + 1))
                  have HCALL := Lib.hid (HIH.out t.args[kk] _ n' dm' (d + 1) _ (by have := Tm.arg_lt hk; have := HNN.out; omega) HT2.out hCr HB'.out.1 HB'.out.2 (by have := HD2.out; omega))
                  rw [show ((d + 1 : Nat) : Int) = (d : Int) + 1 by omega] at HCALL
                  clear hcs ht2 hnn2 hCr hR hn' hdm' HST
                  go_wp2_with fail
                  refine HCALL.out.mono ?_
                  rintro e w5 ⟨n5, dm5, bv5, rfl, hC5, hL5, hok5, hk5⟩
                  have HK5 := Lib.hid (HKR.out.trans hk5 (fun _ _ h => h))
                  have HC5 := Lib.hid hC5
                  have HL5 := Lib.hid hL5
                  have HOK5 := Lib.hid hok5
                  have HLE := Lib.hid (walkS_le t.args[kk] n' dm' (d + 1) HB'.out.1 (by have := HD2.out; omega) HB'.out.2)
                  clear hk5 hC5 hok5 e0 e1 e2 e3 e4 e5 HCALL b2 m5
                  generalize walkS t.args[kk] n' dm' (d + 1) = R1 at *
                  obtain ⟨r1, n1, dm1⟩ := R1
                  cases r1 with
                  | cons q r =>
                    obtain ⟨sg, sn, sc, rfl⟩ := someL hL5
                    have HR2 := Lib.hid (show walkLS t.args (n + 1) (max dm d) (d + 1) = (q :: r, n1, dm1) by rw [← HRR.out, HD.out, if_pos (by simp)])
                    clear hL5
                    go_wp2
                    go_roundw
                    case rel => exact ⟨kk + 1, by omega, by go_num, HK5.out, .inr ⟨n5, dm5, sg, sn, sc, by rw [HR2.out]; simp, HC5.out, by rw [HR2.out]; exact HL5.out⟩⟩
                    case measure => simp [intOf]; omega
                  | nil =>
                    obtain ⟨rfl, rfl, rfl⟩ := HOK5.out rfl
                    have HR2 := Lib.hid (show walkLS (t.args.drop (kk + 1)) n1 dm1 (d + 1) = walkLS t.args (n + 1) (max dm d) (d + 1) by rw [← HRR.out, HD.out, if_neg (by simp)])
                    clear hL5
                    go_wp2
                    go_roundw
                    case rel => exact ⟨kk + 1, by omega, by go_num, HK5.out, .inl ⟨n1, dm1, HR2.out, HLE.out.1, HLE.out.2, HC5.out⟩⟩
                    case measure => simp [intOf]; omega
                · have b2 := hCr.cell 2
                  simp only [List.getElem?_cons_zero, List.getElem?_cons_succ] at b2
                  have HCR := Lib.hid hCr
                  have HLR := Lib.hid hLr
                  have HNE2 := Lib.hid hne2
                  clear hCr hLr hne2 HST
                  go_wp2
                  go_end0
                  rw [HRL.out]
                  exact ⟨_, _, _, rfl, HCR.out, HLR.out, (fun h => absurd h HNE2.out), HKW.out⟩
              · have hki : ¬ (kk : Int) < (t.args.length : Int) := by omega
                have hdr : t.args.drop kk = [] := List.drop_eq_nil_of_le (by omega)
                clear hkk
                go_wp2
                go_end0
                rw [HRL.out]
                rcases HST.out with ⟨n', dm', hR, hn', hdm', hCr⟩ | ⟨n', dm', sg, sn, sc, hne2, hCr, hLr⟩
                · rw [hdr, walkLS] at hR
                  rw [← hR]
                  exact ⟨_, _, _, rfl, hCr, LinksIs.nil _ _, (fun _ => ⟨rfl, rfl, rfl⟩), HKW.out⟩
                · exact ⟨_, _, _, rfl, hCr, hLr, (fun h => absurd h hne2), HKW.out⟩
          | cons q r =>
            rw [hl] at hl5 HL5
            have hps : partS t n = ⟨termL, n, q.code⟩ :: q :: r := HPS.out.trans (by rw [hl]; rfl)
            have HR := Lib.hid (show walkS t n dm d = (⟨termL, n, q.code⟩ :: q :: r, n, dm) by rw [HW2.out, if_pos (by simp [hps]), hps])
            have HLR := Lib.hid (show r.length ≤ 50 from by have h1 : ((nodeS t.text).2.2).length ≤ 1 := (by unfold nodeS; split <;> simp); rw [hl] at h1; simp at h1; simp [h1])
            have HOV := Lib.hid (over02_any n lv5 q r _ w5 HL5.out HLR.out)
            obtain ⟨sg5, sn5, sc5, rfl⟩ := someL hl5
            clear hps hl hl5 hnil5 m5
            go_wp2_with fail
            refine HOV.out.mono ?_
            rintro e w9 ⟨lv, rfl, hl, hb9⟩
            obtain ⟨hC10, hL10, hK10, c2, f2⟩ := bad_laid P5.out KP5.out hb9 hl
            obtain ⟨sg, sn, sc, rfl⟩ := someL hl
            have HC10 := Lib.hid hC10
            have HL10 := Lib.hid hL10
            have HK10 := Lib.hid hK10
            have M9 := Lib.hid ((M5.out.below hb9).far (p := ⟨g, 2, none⟩) HNE.out (.slice (some ⟨sg, 0, none⟩) sn sc))
            have m5 := M9.out.cell 5
            have b2 := hC10.cell 2
            simp only [List.getElem?_cons_zero, List.getElem?_cons_succ] at m5 b2
            clear hb9 hl hC10 hL10 hK10
            go_wp2_with fail
            refine wp_loop_rounds 1 ?_
            rw [rounds_succ]
            rcases Nat.eq_zero_or_pos t.args.length with h0 | h0
            · have h0i : ¬ (0 : Int) < (t.args.length : Int) := by omega
              clear h0
              go_wp2
              go_end0
              rw [HR.out]
              exact ⟨_, _, _, rfl, HC10.out, HL10.out, (fun h => by cases h), HK10.out⟩
            · have h0i : (0 : Int) < (t.args.length : Int) := by omega
              clear h0
              go_wp2
              go_end0
              rw [HR.out]
              exact ⟨_, _, _, rfl, HC10.out, HL10.out, (fun h => by cases h), HK10.out⟩
      have qk1 : (t.kind == 1) = false := beq_eq_false_iff_ne.2 k1
      have qk2 : (t.kind == 2) = false := beq_eq_false_iff_ne.2 k2
      have qk3 : (t.kind == 3) = false := beq_eq_false_iff_ne.2 (fun e => k34 (.inl e))
      have qk4 : (t.kind == 4) = false := beq_eq_false_iff_ne.2 (fun e => k34 (.inr e))
      have hps : partS t n = [] := by unfold partS; rw [if_neg (by simp [hf]), if_neg k1, if_neg k2, if_neg k34]
      have HRL := Lib.hid (show walkS t n dm d = walkLS t.args (n + 1) (max dm d) (d + 1) by rw [HW2.out, if_neg (by simp [hps])])
      clear hf hps k1 k2 k34
      have P9 := Lib.hid (show Cells _ g 70 [.int .i64 ((n + 1 : Nat) : Int), .int .i64 ((max dm d : Nat) : Int), .slice none 0 0] from by
        have := P4.out
        rwa [show ((n + 1 : Nat) : Int) = (n : Int) + 1 by omega, show ((max dm d : Nat) : Int) = max (dm : Int) (d : Int) by omega])
      have MK := Lib.hid M4.out
      have KK := Lib.hid KP4.out
      go_wp2_with fail
      generalize hWX : w4 = WX at *
      clear hWX
      clear m0 m1 m2 m5 P4 M4 KP4
      go_loopw [12] (fun i wr => ∃ (kk : Nat), kk ≤ t.args.length ∧ i = .int .i64 kk ∧ Keep (Blk1 g) WX wr ∧ ((∃ n' dm' : Nat, walkLS (t.args.drop kk) n' dm' (d + 1) = walkLS t.args (n + 1) (max dm d) (d + 1) ∧ n' ≤ 4096 ∧ dm' ≤ 256 ∧ Cells wr g 70 [.int .i64 n', .int .i64 dm', .slice none 0 0]) ∨
        (∃ (n' dm' : Int) (sg sn sc : Nat), (walkLS t.args (n + 1) (max dm d) (d + 1)).1 ≠ [] ∧ Cells wr g 70 [.int .i64 n', .int .i64 dm', .slice (some ⟨sg, 0, none⟩) sn sc] ∧ LinksIs (g + 1) (.slice (some ⟨sg, 0, none⟩) sn sc) (walkLS t.args (n + 1) (max dm d) (d + 1)).1 wr))) (fun i _ => t.args.length - (intOf i).toNat)
      case atStart => exact ⟨0, Nat.zero_le _, rfl, Keep.refl _ _, .inl ⟨n + 1, max dm d, rfl, by have := HN1.out; have := HBD.out; omega, by have := HD2.out; have := HBD.out; omega, P9.out⟩⟩
      case round =>
        obtain ⟨kk, hkk, rfl, hKr, hst⟩ := hrel
        have HKR := Lib.hid hKr
        have HKW := Lib.hid (KK.out.trans hKr (fun _ _ h => h))
        have MR := Lib.hid (MK.out.keep hKr (fun e => HNE.out e))
        have m5 := MR.out.cell 5
        simp only [List.getElem?_cons_zero, List.getElem?_cons_succ] at m5
        have HST := Lib.hid hst
        clear hKr hst P9
        by_cases hk : kk < t.args.length
        · have hki : (kk : Int) < (t.args.length : Int) := by omega
          have hk0 : (0 : Int) ≤ (kk : Int) := by omega
          rcases HST.out with ⟨n', dm', hR, hn', hdm', hCr⟩ | ⟨n', dm', sg, sn, sc, hne2, hCr, hLr⟩
          · have HRR := Lib.hid hR
            have HB' := Lib.hid (And.intro hn' hdm')
            have b2 := hCr.cell 2
            simp only [List.getElem?_cons_zero, List.getElem?_cons_succ] at b2
            obtain ⟨g2, o2, vs2, hae, _, hcs, ht2⟩ := (HA.out.keep HKW.out (fun b _ hS e => hg (by rw [← (show b = g from e)]; exact hS))).get kk hk
            subst hae
            have HT2 := Lib.hid ht2
            obtain ⟨_, nv2, a2, cap2, hv2, hnn2, _⟩ := ht2.parts
            obtain ⟨na2, nc2, hnv2, _, _⟩ := hnn2.slice
            subst hv2
            subst hnv2
            have e0 := hcs 0 (by decide)
            have e1 := hcs 1 (by decide)
            have e2 := hcs 2 (by decide)
            have e3 := hcs 3 (by decide)
            have e4 := hcs 4 (by decide)
            have e5 := hcs 5 (by decide)
            simp only [List.getElem?_cons_zero, List.getElem?_cons_succ, ← Nat.add_assoc, Nat.add_zero] at e0 e1 e2 e3 e4 e5
            have HD := Lib.hid (walkLS_drop hk n' dm' (d + 1))
            have HCALL := Lib.hid (HIH.out t.args[kk] _ n' dm' (d + 1) _ (by have := Tm.arg_lt hk; have := HNN.out; omega) HT2.out hCr HB'.out.1 HB'.out.2 (by have := HD2.out; omega))
            rw [show ((d + 1 : Nat) : Int) = (d : Int) + 1 by omega] at HCALL
            clear hcs ht2 hnn2 hCr hR hn' hdm' HST
            go_wp2_with fail
            refine HCALL.out.mono ?_
            rintro e w5 ⟨n5, dm5, bv5, rfl, hC5, hL5, hok5, hk5⟩
            have HK5 := Lib.hid (HKR.out.trans hk5 (fun _ _ h => h))
            have HC5 := Lib.hid hC5
            have HL5 := Lib.hid hL5
            have HOK5 := Lib.hid hok5
            have HLE := Lib.hid (walkS_le t.args[kk] n' dm' (d + 1) HB'.out.1 (by have := HD2.out; omega) HB'.out.2)
            clear hk5 hC5 hok5 e0 e1 e2 e3 e4 e5 HCALL b2 m5
            generalize walkS t.args[kk] n' dm' (d + 1) = R1 at *
            obtain ⟨r1, n1, dm1⟩ := R1
            cases r1 with
            | cons q r =>
              obtain ⟨sg, sn, sc, rfl⟩ := someL hL5
              have HR2 := Lib.hid (show walkLS t.args (n + 1) (max dm d) (d + 1) = (q :: r, n1, dm1) by rw [← HRR.out, HD.out, if_pos (by simp)])
              clear hL5
              go_wp2
              go_roundw
              case rel => exact ⟨kk + 1, by omega, by go_num, HK5.out, .inr ⟨n5, dm5, sg, sn, sc, by rw [HR2.out]; simp, HC5.out, by rw [HR2.out]; exact HL5.out⟩⟩
              case measure => simp [intOf]; omega
            | nil =>
              obtain ⟨rfl, rfl, rfl⟩ := HOK5.out rfl
              have HR2 := Lib.hid (show walkLS (t.args.drop (kk + 1)) n1 dm1 (d + 1) = walkLS t.args (n + 1) (max dm d) (d + 1) by rw [← HRR.out, HD.out, if_neg (by simp)])
              clear hL5
              go_wp2
              go_roundw
              case rel => exact ⟨kk + 1, by omega, by go_num, HK5.out, .inl ⟨n1, dm1, HR2.out, HLE.out.1, HLE.out.2, HC5.out⟩⟩
              case measure => simp [intOf]; omega
          · have b2 := hCr.cell 2
            simp only [List.getElem?_cons_zero, List.getElem?_cons_succ] at b2
            have HCR := Lib.hid hCr
            have HLR := Lib.hid hLr
            have HNE2 := Lib.hid hne2
            clear hCr hLr hne2 HST
            go_wp2
            go_end0
            rw [HRL.out]
            exact ⟨_, _, _, rfl, HCR.out, HLR.out, (fun h => absurd h HNE2.out), HKW.out⟩
        · have hki : ¬ (kk : Int) < (t.args.length : Int) := by omega
          have hdr : t.args.drop kk = [] := List.drop_eq_nil_of_le (by omega)
          clear hkk
          go_wp2
          go_end0
          rw [HRL.out]
          rcases HST.out with ⟨n', dm', hR, hn', hdm', hCr⟩ | ⟨n', dm', sg, sn, sc, hne2, hCr, hLr⟩
          · rw [hdr, walkLS] at hR
            rw [← hR]
            exact ⟨_, _, _, rfl, hCr, LinksIs.nil _ _, (fun _ => ⟨rfl, rfl, rfl⟩), HKW.out⟩
          · exact ⟨_, _, _, rfl, hCr, hLr, (fun h => absurd h hne2), HKW.out⟩

set_option maxHeartbeats 4000000 in
theorem checkR_any (S : Nat → Prop) (t : Tm) (vs : List Value) (w : World) (ht : TmAt S t vs w) (hS : ∀ b, S b → b < w.heap.size) :
    Calls Tryd.prog 8 #[.agg vs.toArray] w fun e w' => ∃ lv, e = .returned lv ∧ LinksIs w.heap.size lv (checkS t) w' ∧ (checkS t = [] → lv = .slice none 0 0) ∧ Below w.heap.size w w' := by
  have HT := Lib.hid ht
  obtain ⟨hp, nv, a, cap, rfl, hnn, -⟩ := ht.parts
  obtain ⟨na, nc, rfl, _, _⟩ := hnn.slice
  have HB := Lib.hid (((Below.refl _ w).alloc (Nat.le_refl _) (.cells #[.int .i64 t.kind, .int .i64 t.int, .string t.text, .int .u32 t.cr, .slice na t.nums.length nc, .slice a t.args.length cap] 27 (0, 0))).alloc (by simp) (.cells #[.int .i64 0, .int .i64 0, .slice none 0 0] 70 (0, 0)))
  have HW := Lib.hid (part_ind S (w.heap.size + 1) (fun h => by have := hS _ h; omega) _ t _ 0 0 1 _ (Nat.le_refl _) (ht.below HB.out) (show Cells ((w.alloc (.cells #[.int .i64 t.kind, .int .i64 t.int, .string t.text, .int .u32 t.cr, .slice na t.nums.length nc, .slice a t.args.length cap] 27 (0, 0))).alloc (.cells #[.int .i64 0, .int .i64 0, .slice none 0 0] 70 (0, 0))) (w.heap.size + 1) 70 [.int .i64 (0 : Nat), .int .i64 (0 : Nat), .slice none 0 0] from by
    have := Cells.new (w.alloc (.cells #[.int .i64 t.kind, .int .i64 t.int, .string t.text, .int .u32 t.cr, .slice na t.nums.length nc, .slice a t.args.length cap] 27 (0, 0))) 70 [.int .i64 0, .int .i64 0, .slice none 0 0]
    rwa [World.size_alloc] at this) (by decide) (by decide) (by decide))
  rw [show ((1 : Nat) : Int) = 1 from rfl] at HW
  have HCK := Lib.hid (show (walkS t 0 0 1).1 = checkS t from rfl)
  clear ht hp hnn hS
  go_enter Tryd.func8, Tryd.ntmps8
  go_wp2_with fail
  refine HW.out.mono ?_
  rintro e w2 ⟨n, d, bv, rfl, hC, hl, hok, hk⟩
  have HB2 := Lib.hid (below_keep HB.out hk (by simp; omega) (fun k (hk : k = w.heap.size + 1) => by omega))
  have c2 := hC.cell 2
  simp only [List.getElem?_cons_zero, List.getElem?_cons_succ] at c2
  rw [HCK.out] at hl hok
  have HL := Lib.hid hl
  have HOK := Lib.hid (fun h => (hok h).1)
  clear hk hC HW HT HCK hok
  obtain ⟨ba, bn, bc, rfl⟩ : ∃ a n c, bv = .slice a n c := by
    rcases hl.shape with ⟨rfl, _⟩ | ⟨g, c, rfl, _⟩
    · exact ⟨_, _, _, rfl⟩
    · exact ⟨_, _, _, rfl⟩
  clear hl
  go_wp2
  go_ret
  exact ⟨_, rfl, HL.out.base (by omega), HOK.out, HB2.out⟩
end Go.Proofs.YtkipjbmckpmmfaaDoor
end
section
/- heddlelaw03: HeapBack. -/
open Go Go.RowKit
namespace Go.Proofs.YtkipjbmckpmmfaaDoor
set_option linter.unusedVariables false
set_option linter.unusedSimpArgs false

set_option maxHeartbeats 16000000 in
set_option maxRecDepth 100000 in
theorem heapBack_any (S : Nat → Prop) (size : Int) (t : Tm) (vs : List Value) (w : World) (ht : TmAt S t vs w) (hS : ∀ b, S b → b < w.heap.size) (hG : Gt w) :
    Calls Tryd.prog 3 #[.int .i64 size, .agg vs.toArray] w fun e w' => e = .returned (.bool true) ∧ Below w.heap.size w w' := by
  have HT := Lib.hid ht
  have HS := Lib.hid hS
  have HG := Lib.hid hG
  obtain ⟨hpp, nv, a, cap, rfl, hnn, ⟨hc, hcm⟩, hcap, ha⟩ := ht.parts
  obtain ⟨na, nc, rfl, hnc, _⟩ := hnn.slice
  have B0 := Lib.hid ((Below.refl _ w).alloc (Nat.le_refl _) (.cells #[.int .i64 t.kind, .int .i64 t.int, .string t.text, .int .u32 t.cr, .slice na t.nums.length nc, .slice a t.args.length cap] 27 (0, 0)))
  have M0 := Lib.hid (Cells.new w 27 [.int .i64 t.kind, .int .i64 t.int, .string t.text, .int .u32 t.cr, .slice na t.nums.length nc, .slice a t.args.length cap])
  have HT0 := Lib.hid (HT.out.below B0.out)
  clear ht hpp hnn ha hcm hS hG
  by_cases hsz : size < 2 ∨ 1048576 < size
  · have HN := Lib.hid (newH_bad size (w.alloc (.cells #[.int .i64 t.kind, .int .i64 t.int, .string t.text, .int .u32 t.cr, .slice na t.nums.length nc, .slice a t.args.length cap] 27 (0, 0))) hsz)
    go_enter Tryd.func3, Tryd.ntmps3
    go_wp2_with fail
    refine HN.out.mono ?_
    rintro e w1 ⟨ev, rfl, her, hb1⟩
    obtain ⟨b, u, rfl, _⟩ := her
    have B1 := Lib.hid (B0.out.trans (hb1.mono B0.out.size))
    have HAL := Lib.hid (alive03_any w1 (HG.out.below B1.out))
    rcases hsz with h | h
    · go_wp2_with fail
      refine HAL.out.mono ?_
      rintro e w2 ⟨rfl, hb2⟩
      have B2 := Lib.hid (B1.out.trans (hb2.mono B1.out.size))
      go_wp2
      go_ret
      exact ⟨rfl, B2.out⟩
    · have h' : ¬ size < 2 := by omega
      go_wp2_with fail
      refine HAL.out.mono ?_
      rintro e w2 ⟨rfl, hb2⟩
      have B2 := Lib.hid (B1.out.trans (hb2.mono B1.out.size))
      go_wp2
      go_ret
      exact ⟨rfl, B2.out⟩
  · have HN := Lib.hid (newH_good size (w.alloc (.cells #[.int .i64 t.kind, .int .i64 t.int, .string t.text, .int .u32 t.cr, .slice na t.nums.length nc, .slice a t.args.length cap] 27 (0, 0))) (by omega) (by omega))
    go_enter Tryd.func3, Tryd.ntmps3
    go_wp2_with fail
    refine HN.out.mono ?_
    rintro e w1 ⟨g, rfl, hp1, hb1⟩
    have HP1 := Lib.hid hp1
    have B1 := Lib.hid (B0.out.trans (hb1.mono B0.out.size))
    have M1 := Lib.hid (M0.out.below hb1)
    have HT1 := Lib.hid (HT0.out.below hb1)
    have HSB := Lib.hid (show ∀ b, S b → b < w1.heap.size ∧ ¬ (((w.alloc (.cells #[.int .i64 t.kind, .int .i64 t.int, .string t.text, .int .u32 t.cr, .slice na t.nums.length nc, .slice a t.args.length cap] 27 (0, 0))).heap.size ≤ b) ∧ b < w1.heap.size) from fun b hb => ⟨by have := HS.out b hb; have := B1.out.size; omega, fun e => by have := HS.out b hb; have := B0.out.size; omega⟩)
    clear hp1 hb1
    have m0 := M1.out.cell 0
    have m1 := M1.out.cell 1
    have m2 := M1.out.cell 2
    have m3 := M1.out.cell 3
    have m4 := M1.out.cell 4
    have m5 := M1.out.cell 5
    simp only [List.getElem?_cons_zero, List.getElem?_cons_succ] at m0 m1 m2 m3 m4 m5
    have HLAY := Lib.hid (layTop_any S t _ w1 HP1.out HT1.out HSB.out (HG.out.below B1.out) (by unfold zeroH; simp) (by unfold zeroH; simp))
    go_wp2_with fail
    refine HLAY.out.mono ?_
    rintro e w2 ⟨ev, rfl, her, F2, hp2, hk2, hf2⟩
    have HP2 := Lib.hid hp2
    have HER := Lib.hid her
    have B2 := Lib.hid (below_keep B1.out hk2 B1.out.size (fun b hb => by have := B0.out.size; have := hb.1; omega))
    have M2 := Lib.hid (M1.out.keep hk2 (fun e => by have := e.1; simp at this; omega))
    have HT2 := Lib.hid (HT1.out.keep hk2 (fun b _ hS hF => (HSB.out b hS).2 hF))
    clear hp2 hk2 hf2 her m0 m1 m2 m3 m4 m5 HLAY M1 HT1 HP1
    have m0 := M2.out.cell 0
    have m1 := M2.out.cell 1
    have m2 := M2.out.cell 2
    have m3 := M2.out.cell 3
    have m4 := M2.out.cell 4
    have m5 := M2.out.cell 5
    simp only [List.getElem?_cons_zero, List.getElem?_cons_succ] at m0 m1 m2 m3 m4 m5
    have HCK := Lib.hid (checkR_any S t _ w2 HT2.out (fun b hb => by have := HS.out b hb; have := B2.out.size; omega))
    obtain ⟨H, hH⟩ : ∃ H, (size / 2).toNat = H := ⟨_, rfl⟩
    have hq : size.tdiv 2 = (H : Int) := by rw [Int.tdiv_eq_ediv_of_nonneg (by omega)]; omega
    rw [hH] at HP2 HER
    have hHl : H ≤ 524288 := by omega
    have hwr : IntKind.i64.wrap (H : Int) = (H : Int) := IntWalk.i64_in _ (by omega)
    rw [hH]
    cases hck : checkS t with
    | cons k r =>
      have HLT := Lib.hid (show layTop H t zeroH = (0, overH (k :: r), zeroH) by unfold layTop; rw [hck, if_pos (by simp)])
      rw [hck] at HCK
      rw [HLT.out] at HP2 HER ⊢
      have HUS := Lib.hid (show ∀ W, Below w2.heap.size w2 W → Calls Tryd.prog 10 #[.pointer (some ⟨g, 0, none⟩)] W fun e w' => e = .returned (.int .i64 0) ∧ W = w' from fun W hW => used_live (HP2.out.below hW))
      obtain ⟨eb, eu, rfl, _⟩ := HER.out
      clear hck
      go_wp2_with fail
      refine HCK.out.mono ?_
      rintro e w3 ⟨lv, rfl, hl, _, hb3⟩
      have HB3 := Lib.hid hb3
      have B3 := Lib.hid (B2.out.trans (hb3.mono B2.out.size))
      obtain ⟨la, lc, rfl⟩ : ∃ la lc, lv = .slice la (k :: r).length lc := by
        obtain ⟨_, ⟨e1, e2⟩ | ⟨g', cap', cur, hv, _⟩⟩ := hl
        · cases e2
        · exact ⟨_, _, hv⟩
      have hpos : (0 : Int) < (((k :: r).length : Nat) : Int) := by simp only [List.length_cons]; omega
      generalize (k :: r).length = LN at *
      have HUS3 := Lib.hid (HUS.out w3 hb3)
      have HAL := Lib.hid (alive03_any w3 (HG.out.below B3.out))
      clear hb3 hl
      go_wp2_with fail
      refine HUS3.out.mono ?_
      rintro e w4 ⟨rfl, rfl⟩
      go_wp2_with fail
      refine HAL.out.mono ?_
      rintro e w5 ⟨rfl, hb5⟩
      have B5 := Lib.hid (B3.out.trans (hb5.mono B3.out.size))
      go_wp2
      go_ret
      exact ⟨rfl, B5.out⟩
    | nil =>
      have HOK := Lib.hid (checkS_ok hck)
      have HWD := Lib.hid (fun W (hW : Below w2.heap.size w2 W) => words_ind (SizeOf.sizeOf t) S t _ W (Nat.le_refl _) (HT2.out.below hW) HOK.out.1 HOK.out.2)
      have htl : takesT t ≤ 1000000 := by
        have := takesT_le t
        have := HOK.out.2
        omega
      by_cases hbig : (H : Int) < takesT t
      · have HLT := Lib.hid (show layTop H t zeroH = (0, [⟨hpL, 0, 61⟩], zeroH) by unfold layTop; rw [hck, if_neg (by simp), if_pos (by simpa [zeroH] using hbig)])
        rw [hck] at HCK
        rw [HLT.out] at HP2 HER ⊢
        have HUS := Lib.hid (show ∀ W, Below w2.heap.size w2 W → Calls Tryd.prog 10 #[.pointer (some ⟨g, 0, none⟩)] W fun e w' => e = .returned (.int .i64 0) ∧ W = w' from fun W hW => used_live (HP2.out.below hW))
        obtain ⟨eb, eu, rfl, _⟩ := HER.out
        clear hck
        go_wp2_with fail
        refine HCK.out.mono ?_
        rintro e w3 ⟨lv, rfl, _, hl, hb3⟩
        obtain rfl := hl trivial
        have HB3 := Lib.hid hb3
        have B3 := Lib.hid (B2.out.trans (hb3.mono B2.out.size))
        have M3 := Lib.hid (M2.out.below hb3)
        clear m0 m1 m2 m3 m4 m5
        have m0 := M3.out.cell 0
        have m1 := M3.out.cell 1
        have m2 := M3.out.cell 2
        have m3 := M3.out.cell 3
        have m4 := M3.out.cell 4
        have m5 := M3.out.cell 5
        simp only [List.getElem?_cons_zero, List.getElem?_cons_succ] at m0 m1 m2 m3 m4 m5
        have HW3 := Lib.hid (HWD.out w3 hb3)
        clear hb3
        go_wp2_with fail
        refine HW3.out.mono ?_
        rintro e w4 ⟨rfl, hb4⟩
        have B34 := Lib.hid (HB3.out.trans (hb4.mono HB3.out.size))
        have B4 := Lib.hid (B3.out.trans (hb4.mono B3.out.size))
        have HUS4 := Lib.hid (HUS.out w4 B34.out)
        have HAL := Lib.hid (alive03_any w4 (HG.out.below B4.out))
        clear hb4
        go_wp2_with fail
        refine HUS4.out.mono ?_
        rintro e w5 ⟨rfl, rfl⟩
        go_wp2_with fail
        refine HAL.out.mono ?_
        rintro e w5 ⟨rfl, hb5⟩
        have B5 := Lib.hid (B4.out.trans (hb5.mono B4.out.size))
        go_wp2
        go_ret
        exact ⟨rfl, B5.out⟩
      · have HLT := Lib.hid (show layTop H t zeroH = ((layS t zeroH).1, [], (layS t zeroH).2) by unfold layTop; rw [hck, if_neg (by simp), if_neg (by simpa [zeroH] using hbig)])
        have hln : (layS t zeroH).2.l.length = takesT t := by rw [(layS_rep t zeroH HOK.out.1 HT2.out.bnd).2.1]; simp [zeroH]
        have hwd := layS_lt t zeroH HOK.out.1 HT2.out.bnd (by simp [zeroH]; omega) (by simp [zeroH])
        have hzs : ∀ s ∈ (layS t zeroH).2.at_, s.size ≤ 140737488351232 := layS_sh t zeroH HT2.out.sh (fun s hs => by cases hs)
        rw [HLT.out] at HP2 HER ⊢
        obtain rfl : ev = .nilIface := HER.out
        have HTM := Lib.hid (termTop_any hzs (layS t zeroH).1 w2 HP2.out hwd)
        rw [lay_told hck HT2.out.bnd] at HTM
        have HUS := Lib.hid (show ∀ W, Below w2.heap.size w2 W → Calls Tryd.prog 10 #[.pointer (some ⟨g, 0, none⟩)] W fun e w' => e = .returned (.int .i64 (takesT t : Nat)) ∧ W = w' from fun W hW => by rw [← hln]; exact used_live (HP2.out.below hW))
        clear hzs hck
        generalize layS t zeroH = R at *
        obtain ⟨wx, h2⟩ := R
        dsimp only at HTM HP2 ⊢
        go_wp2_with fail
        refine HTM.out.mono ?_
        rintro e w3 ⟨vs3, ev, rfl, her3, htm, hb3⟩
        obtain rfl : ev = .nilIface := her3
        have htm := htm rfl
        have HT3 := Lib.hid (HT2.out.below hb3)
        have HU3 := Lib.hid htm
        obtain ⟨_, nv3, a3, cap3, rfl, hnn3, _⟩ := htm.parts
        obtain ⟨na3, nc3, rfl, _, _⟩ := hnn3.slice
        have HB3 := Lib.hid hb3
        have B3 := Lib.hid (B2.out.trans (hb3.mono B2.out.size))
        have M3 := Lib.hid (M2.out.below hb3)
        clear m0 m1 m2 m3 m4 m5 hb3 htm hnn3
        have m0 := M3.out.cell 0
        have m1 := M3.out.cell 1
        have m2 := M3.out.cell 2
        have m3 := M3.out.cell 3
        have m4 := M3.out.cell 4
        have m5 := M3.out.cell 5
        simp only [List.getElem?_cons_zero, List.getElem?_cons_succ] at m0 m1 m2 m3 m4 m5
        go_wp2_with fail
        have B4 := Lib.hid (show Below w3.heap.size w3 (w3.alloc (.cells #[.int .i64 t.kind, .int .i64 t.int, .string t.text, .int .u32 t.cr, .slice na3 t.nums.length nc3, .slice a3 t.args.length cap3] 27 (0, 0))) from (Below.refl _ _).alloc (Nat.le_refl _) _)
        have N4 := Lib.hid (Cells.new w3 27 [.int .i64 t.kind, .int .i64 t.int, .string t.text, .int .u32 t.cr, .slice na3 t.nums.length nc3, .slice a3 t.args.length cap3])
        have N4' := Lib.hid (show Cells (w3.alloc (.cells #[.int .i64 t.kind, .int .i64 t.int, .string t.text, .int .u32 t.cr, .slice na3 t.nums.length nc3, .slice a3 t.args.length cap3] 27 (0, 0))) w3.heap.size 27 [.int .i64 t.kind, .int .i64 t.int, .string t.text, .int .u32 t.cr, .slice na3 t.nums.length nc3, .slice a3 t.args.length cap3] from N4.out)
        clear N4
        generalize w3.alloc (.cells #[.int .i64 t.kind, .int .i64 t.int, .string t.text, .int .u32 t.cr, .slice na3 t.nums.length nc3, .slice a3 t.args.length cap3] 27 (0, 0)) = W4 at *
        have M4 := Lib.hid (M3.out.below B4.out)
        have HT4 := Lib.hid (HT3.out.below B4.out)
        have HU4 := Lib.hid (HU3.out.below B4.out)
        have B24 := Lib.hid (HB3.out.trans (B4.out.mono HB3.out.size))
        have BW4 := Lib.hid (B3.out.trans (B4.out.mono B3.out.size))
        have HSM := Lib.hid (fun W (hW : Below W4.heap.size W4 W) => sameTm_any S _ t _ _ W (HT4.out.below hW) (HU4.out.below hW))
        clear m0 m1 m2 m3 m4 m5
        have m0 := M4.out.cell 0
        have m1 := M4.out.cell 1
        have m2 := M4.out.cell 2
        have m3 := M4.out.cell 3
        have m4 := M4.out.cell 4
        have m5 := M4.out.cell 5
        have n0 := N4'.out.cell 0
        have n1 := N4'.out.cell 1
        have n2 := N4'.out.cell 2
        have n3 := N4'.out.cell 3
        have n4 := N4'.out.cell 4
        have n5 := N4'.out.cell 5
        simp only [List.getElem?_cons_zero, List.getElem?_cons_succ] at m0 m1 m2 m3 m4 m5 n0 n1 n2 n3 n4 n5
        -- REGION
        refine wp_region_L (S := fun X => Below W4.heap.size W4 X) (F := []) (by kernel_rfl) (Below.drew (Below.refl _ _)) (fun hHeld => ?_)
        refine wpAnyL_easy (i := 0) (v := .nilIface) (by simp only [List.getElem?_toArray, List.getElem?_cons_succ, List.getElem?_cons_zero]; rfl) (by kernel_rfl) (by kernel_rfl) (by kernel_rfl) (by exact fun _ _ _ h => h) (Or.inl ⟨by rfl, fun _ _ => rfl⟩) ?_
        try simp only [Act.put, List.setIfInBounds_toArray, List.set_cons_zero, List.set_cons_succ]
        refine wpAnyL_easy (i := 1) (v := (.bool true)) (by simp only [List.getElem?_toArray, List.getElem?_cons_succ, List.getElem?_cons_zero]; rfl) (by kernel_rfl) (by kernel_rfl) (by kernel_rfl) (by exact fun _ _ _ h => h) (Or.inl ⟨by rfl, by intro W _; go_simp; all_goals first | rfl | exact ⟨rfl, rfl, rfl, rfl, rfl, rfl⟩⟩) ?_
        try simp only [Act.put, List.setIfInBounds_toArray, List.set_cons_zero, List.set_cons_succ]
        refine wpAnyL_easy (i := 2) (v := (.bool true)) (by simp only [List.getElem?_toArray, List.getElem?_cons_succ, List.getElem?_cons_zero]; rfl) (by kernel_rfl) (by kernel_rfl) (by kernel_rfl) (by exact fun _ _ _ h => h) (Or.inl ⟨by rfl, by intro W _; go_simp; all_goals first | rfl | exact ⟨rfl, rfl, rfl, rfl, rfl, rfl⟩⟩) ?_
        try simp only [Act.put, List.setIfInBounds_toArray, List.set_cons_zero, List.set_cons_succ]
        refine wpAnyL_take (i := 3) (v := (.agg #[.int .i64 t.kind, .int .i64 t.int, .string t.text, .int .u32 t.cr, .slice na t.nums.length nc, .slice a t.args.length cap])) (by simp only [List.getElem?_toArray, List.getElem?_cons_succ, List.getElem?_cons_zero]; rfl) (by kernel_rfl) (by kernel_rfl) (by kernel_rfl) (by kernel_rfl) (by exact fun _ _ _ h => h) (Or.inl ⟨by rfl, by intro W hSw; have x0 := show W.cell? ⟨w.heap.size, 0, none⟩ = some (.int .i64 t.kind) from (M4.out.below hSw).cell 0; have x1 := show W.cell? ⟨w.heap.size, 1, none⟩ = some (.int .i64 t.int) from (M4.out.below hSw).cell 1; have x2 := show W.cell? ⟨w.heap.size, 2, none⟩ = some (.string t.text) from (M4.out.below hSw).cell 2; have x3 := show W.cell? ⟨w.heap.size, 3, none⟩ = some (.int .u32 t.cr) from (M4.out.below hSw).cell 3; have x4 := show W.cell? ⟨w.heap.size, 4, none⟩ = some (.slice na t.nums.length nc) from (M4.out.below hSw).cell 4; have x5 := show W.cell? ⟨w.heap.size, 5, none⟩ = some (.slice a t.args.length cap) from (M4.out.below hSw).cell 5; go_simp; all_goals first | rfl | exact ⟨rfl, rfl, rfl, rfl, rfl, rfl⟩⟩) (by assumption) ?_
        try simp only [Act.put, List.setIfInBounds_toArray, List.set_cons_zero, List.set_cons_succ]
        refine wpAnyL_take (i := 4) (v := (.agg #[.int .i64 t.kind, .int .i64 t.int, .string t.text, .int .u32 t.cr, .slice na3 t.nums.length nc3, .slice a3 t.args.length cap3])) (by simp only [List.getElem?_toArray, List.getElem?_cons_succ, List.getElem?_cons_zero]; rfl) (by kernel_rfl) (by kernel_rfl) (by kernel_rfl) (by kernel_rfl) (by exact fun _ _ _ h => h) (Or.inl ⟨by rfl, by intro W hSw; have x0 := show W.cell? ⟨w3.heap.size, 0, none⟩ = some (.int .i64 t.kind) from (N4'.out.below hSw).cell 0; have x1 := show W.cell? ⟨w3.heap.size, 1, none⟩ = some (.int .i64 t.int) from (N4'.out.below hSw).cell 1; have x2 := show W.cell? ⟨w3.heap.size, 2, none⟩ = some (.string t.text) from (N4'.out.below hSw).cell 2; have x3 := show W.cell? ⟨w3.heap.size, 3, none⟩ = some (.int .u32 t.cr) from (N4'.out.below hSw).cell 3; have x4 := show W.cell? ⟨w3.heap.size, 4, none⟩ = some (.slice na3 t.nums.length nc3) from (N4'.out.below hSw).cell 4; have x5 := show W.cell? ⟨w3.heap.size, 5, none⟩ = some (.slice a3 t.args.length cap3) from (N4'.out.below hSw).cell 5; go_simp; all_goals first | rfl | exact ⟨rfl, rfl, rfl, rfl, rfl, rfl⟩⟩) (by assumption) ?_
        try simp only [Act.put, List.setIfInBounds_toArray, List.set_cons_zero, List.set_cons_succ]
        refine wpAnyL_ready (rs := [5]) (by kernel_rfl) (by simp) ?_
        refine AllReadyL.cons (by simp only [List.getElem?_toArray, List.getElem?_cons_succ, List.getElem?_cons_zero]; rfl) (fun K hK => ?_) AllReadyL.nil
        go_simp
        refine (HSM.out _ (by assumption)).mono ?_
        rintro e w5 ⟨rfl, hb5⟩
        have K5 := Lib.hid (hHeld.trans (hb5.mono hHeld.size))
        clear hb5
        refine hK.out _ _ (K5.out) (fun hHeld => ?_)
        try simp only [Act.put, List.setIfInBounds_toArray, List.set_cons_zero, List.set_cons_succ]
        clear hHeld
        refine wpAnyL_easy (i := 6) (v := (.bool true)) (by simp only [List.getElem?_toArray, List.getElem?_cons_succ, List.getElem?_cons_zero]; rfl) (by kernel_rfl) (by kernel_rfl) (by kernel_rfl) (by exact fun _ _ _ h => h) (Or.inl ⟨by rfl, by intro W _; go_simp; all_goals first | rfl | exact ⟨rfl, rfl, rfl, rfl, rfl, rfl⟩⟩) ?_
        try simp only [Act.put, List.setIfInBounds_toArray, List.set_cons_zero, List.set_cons_succ]
        refine wpAnyL_easy (i := 7) (v := (.bool true)) (by simp only [List.getElem?_toArray, List.getElem?_cons_succ, List.getElem?_cons_zero]; rfl) (by kernel_rfl) (by kernel_rfl) (by kernel_rfl) (by exact fun _ _ _ h => h) (Or.inl ⟨by rfl, by intro W _; go_simp; all_goals first | rfl | exact ⟨rfl, rfl, rfl, rfl, rfl, rfl⟩⟩) ?_
        try simp only [Act.put, List.setIfInBounds_toArray, List.set_cons_zero, List.set_cons_succ]
        refine wpAnyL_easy (i := 8) (v := (.pointer (some ⟨g, 0, none⟩))) (by simp only [List.getElem?_toArray, List.getElem?_cons_succ, List.getElem?_cons_zero]; rfl) (by kernel_rfl) (by kernel_rfl) (by kernel_rfl) (by exact fun _ _ _ h => h) (Or.inl ⟨by rfl, fun _ _ => rfl⟩) ?_
        try simp only [Act.put, List.setIfInBounds_toArray, List.set_cons_zero, List.set_cons_succ]
        refine wpAnyL_take (i := 10) (v := (.agg #[.int .i64 t.kind, .int .i64 t.int, .string t.text, .int .u32 t.cr, .slice na t.nums.length nc, .slice a t.args.length cap])) (by simp only [List.getElem?_toArray, List.getElem?_cons_succ, List.getElem?_cons_zero]; rfl) (by kernel_rfl) (by kernel_rfl) (by kernel_rfl) (by kernel_rfl) (by exact fun _ _ _ h => h) (Or.inl ⟨by rfl, by intro W hSw; have x0 := show W.cell? ⟨w.heap.size, 0, none⟩ = some (.int .i64 t.kind) from (M4.out.below hSw).cell 0; have x1 := show W.cell? ⟨w.heap.size, 1, none⟩ = some (.int .i64 t.int) from (M4.out.below hSw).cell 1; have x2 := show W.cell? ⟨w.heap.size, 2, none⟩ = some (.string t.text) from (M4.out.below hSw).cell 2; have x3 := show W.cell? ⟨w.heap.size, 3, none⟩ = some (.int .u32 t.cr) from (M4.out.below hSw).cell 3; have x4 := show W.cell? ⟨w.heap.size, 4, none⟩ = some (.slice na t.nums.length nc) from (M4.out.below hSw).cell 4; have x5 := show W.cell? ⟨w.heap.size, 5, none⟩ = some (.slice a t.args.length cap) from (M4.out.below hSw).cell 5; go_simp; all_goals first | rfl | exact ⟨rfl, rfl, rfl, rfl, rfl, rfl⟩⟩) K5.out ?_
        try simp only [Act.put, List.setIfInBounds_toArray, List.set_cons_zero, List.set_cons_succ]
        refine wpAnyL_ready (rs := [9]) (by kernel_rfl) (by simp) ?_
        refine AllReadyL.cons (by simp only [List.getElem?_toArray, List.getElem?_cons_succ, List.getElem?_cons_zero]; rfl) (fun K hK => ?_) AllReadyL.nil
        go_simp
        refine (HUS.out _ (B24.out.trans (K5.out.mono B24.out.size))).mono ?_
        rintro e w6 ⟨rfl, rfl⟩
        refine hK.out _ _ (K5.out) (fun hHeld => ?_)
        try simp only [Act.put, List.setIfInBounds_toArray, List.set_cons_zero, List.set_cons_succ]
        clear hHeld
        refine wpAnyL_ready (rs := [11]) (by kernel_rfl) (by simp) ?_
        refine AllReadyL.cons (by simp only [List.getElem?_toArray, List.getElem?_cons_succ, List.getElem?_cons_zero]; rfl) (fun K hK => ?_) AllReadyL.nil
        go_simp
        refine (HWD.out _ (B24.out.trans (K5.out.mono B24.out.size))).mono ?_
        rintro e w7 ⟨rfl, hb7⟩
        have K7 := Lib.hid (K5.out.trans (hb7.mono K5.out.size))
        clear hb7
        refine hK.out _ _ (K7.out) (fun hHeld => ?_)
        try simp only [Act.put, List.setIfInBounds_toArray, List.set_cons_zero, List.set_cons_succ]
        clear hHeld
        refine wpAnyL_easy (i := 12) (v := (.bool true)) (by simp only [List.getElem?_toArray, List.getElem?_cons_succ, List.getElem?_cons_zero]; rfl) (by kernel_rfl) (by kernel_rfl) (by kernel_rfl) (by exact fun _ _ _ h => h) (Or.inl ⟨by rfl, by intro W _; go_simp; all_goals first | rfl | exact ⟨rfl, rfl, rfl, rfl, rfl, rfl⟩⟩) ?_
        try simp only [Act.put, List.setIfInBounds_toArray, List.set_cons_zero, List.set_cons_succ]
        refine wpAnyL_easy (i := 13) (v := (.bool true)) (by simp only [List.getElem?_toArray, List.getElem?_cons_succ, List.getElem?_cons_zero]; rfl) (by kernel_rfl) (by kernel_rfl) (by kernel_rfl) (by exact fun _ _ _ h => h) (Or.inl ⟨by rfl, by intro W _; go_simp; all_goals first | rfl | exact ⟨rfl, rfl, rfl, rfl, rfl, rfl⟩⟩) ?_
        try simp only [Act.put, List.setIfInBounds_toArray, List.set_cons_zero, List.set_cons_succ]
        refine wpAnyL_easy (i := 14) (v := (.bool true)) (by simp only [List.getElem?_toArray, List.getElem?_cons_succ, List.getElem?_cons_zero]; rfl) (by kernel_rfl) (by kernel_rfl) (by kernel_rfl) (by exact fun _ _ _ h => h) (Or.inl ⟨by rfl, by intro W _; go_simp; all_goals first | rfl | exact ⟨rfl, rfl, rfl, rfl, rfl, rfl⟩⟩) ?_
        try simp only [Act.put, List.setIfInBounds_toArray, List.set_cons_zero, List.set_cons_succ]
        refine wpAnyL_ready (rs := [15]) (by kernel_rfl) (by simp) ?_
        refine AllReadyL.cons (by simp only [List.getElem?_toArray, List.getElem?_cons_succ, List.getElem?_cons_zero]; rfl) (fun K hK => ?_) AllReadyL.nil
        go_simp
        refine (alive03_any _ (HG.out.below (BW4.out.trans (K7.out.mono BW4.out.size)))).mono ?_
        rintro e w8 ⟨rfl, hb8⟩
        have K8 := Lib.hid (K7.out.trans (hb8.mono K7.out.size))
        clear hb8
        refine hK.out _ _ (K8.out) (fun hHeld => ?_)
        try simp only [Act.put, List.setIfInBounds_toArray, List.set_cons_zero, List.set_cons_succ]
        clear hHeld
        refine wpAnyL_easy (i := 16) (v := (.bool true)) (by simp only [List.getElem?_toArray, List.getElem?_cons_succ, List.getElem?_cons_zero]; rfl) (by kernel_rfl) (by kernel_rfl) (by kernel_rfl) (by exact fun _ _ _ h => h) (Or.inl ⟨by rfl, by intro W _; go_simp; all_goals first | rfl | exact ⟨rfl, rfl, rfl, rfl, rfl, rfl⟩⟩) ?_
        try simp only [Act.put, List.setIfInBounds_toArray, List.set_cons_zero, List.set_cons_succ]
        refine wpAnyL_easy (i := 17) (v := (.bool true)) (by simp only [List.getElem?_toArray, List.getElem?_cons_succ, List.getElem?_cons_zero]; rfl) (by kernel_rfl) (by kernel_rfl) (by kernel_rfl) (by exact fun _ _ _ h => h) (Or.inl ⟨by rfl, by intro W _; go_simp; all_goals first | rfl | exact ⟨rfl, rfl, rfl, rfl, rfl, rfl⟩⟩) ?_
        try simp only [Act.put, List.setIfInBounds_toArray, List.set_cons_zero, List.set_cons_succ]
        refine wpAnyL_done (by kernel_rfl) ?_ _
        go_wp2
        go_ret
        exact ⟨rfl, BW4.out.trans (K8.out.mono BW4.out.size)⟩
end Go.Proofs.YtkipjbmckpmmfaaDoor
end
section
/- Layer 3, plain: what a collection keeps. No function of the program is looked at here. -/
open Go Go.RowKit
namespace Go.Proofs.YtkipjbmckpmmfaaDoor
set_option linter.unusedVariables false
set_option linter.unusedSimpArgs false

/-- an object as it stands: header and words -/
def rawO (h : Hs) (w : Nat) : Nat × List Nat := ((objS h w).1 + 256 * (objS h w).2.length, (objS h w).2)
/-- where a word is now -/
def nowC (h : Hs) (ks : List (Nat × Nat)) (w : Nat) : Nat := if (objS h w).1 = 0 then w else (lookC ks w).getD 0
/-- an object that was turned -/
def trO (h : Hs) (ks : List (Nat × Nat)) (w : Nat) : Nat × List Nat := ((objS h w).1 + 256 * (objS h w).2.length, if (objS h w).1 ≤ 2 then (objS h w).2.map (nowC h ks) else (objS h w).2)
def rawL (h : Hs) (ks : List (Nat × Nat)) : List Nat := flatO (ks.map fun p => rawO h p.1)
def hasK (ks : List (Nat × Nat)) (w : Nat) : Prop := w ∈ ks.map (·.1)
/-- keys in order: each once, each an object that is reached, each at its place -/
structure KeyI (h : Hs) (R : Nat → Prop) (ks : List (Nat × Nat)) : Prop where
  nd : (ks.map (·.1)).Nodup
  key : ∀ w, hasK ks w → (objS h w).1 ≠ 0 ∧ R w
  addr : ∀ i w x, ks[i]? = some (w, x) → x = 4 * (rawL h (ks.take i)).length
theorem rawL_app (h : Hs) (a b : List (Nat × Nat)) : rawL h (a ++ b) = rawL h a ++ rawL h b := by unfold rawL; rw [List.map_append, flatO_app]
theorem lookC_some {ks : List (Nat × Nat)} {w : Nat} (h : hasK ks w) : ∃ x, lookC ks w = some x ∧ (w, x) ∈ ks := by
  cases e : lookC ks w with
  | none => exact absurd h (lookC_none e)
  | some x => exact ⟨x, rfl, lookC_mem e⟩
theorem lookC_app {ks ext : List (Nat × Nat)} {w : Nat} (h : hasK ks w) : lookC (ks ++ ext) w = lookC ks w := by
  obtain ⟨x, h1, _⟩ := lookC_some h
  unfold lookC at h1 ⊢
  rw [List.find?_append]
  cases e : ks.find? (fun p => p.1 == w) with
  | none => rw [e] at h1; cases h1
  | some p => rfl
theorem hasK_app {ks ext : List (Nat × Nat)} {w : Nat} (h : hasK ks w) : hasK (ks ++ ext) w := by
  unfold hasK at *; rw [List.map_append]; exact List.mem_append_left _ h
theorem nowC_app {h : Hs} {ks ext : List (Nat × Nat)} {w : Nat} (hw : (objS h w).1 ≠ 0 → hasK ks w) : nowC h (ks ++ ext) w = nowC h ks w := by
  unfold nowC
  by_cases h0 : (objS h w).1 = 0
  · rw [if_pos h0, if_pos h0]
  · rw [if_neg h0, if_neg h0, lookC_app (hw h0)]
theorem trO_app {h : Hs} {ks ext : List (Nat × Nat)} {w : Nat} (hw : (objS h w).1 ≤ 2 → ∀ x ∈ (objS h w).2, (objS h x).1 ≠ 0 → hasK ks x) : trO h (ks ++ ext) w = trO h ks w := by
  unfold trO
  by_cases h0 : (objS h w).1 ≤ 2
  · rw [if_pos h0, if_pos h0, List.map_congr_left (fun x hx => nowC_app (hw h0 x hx))]
  · rw [if_neg h0, if_neg h0]
theorem objS_valid (h : Hs) (w : Nat) (h0 : (objS h w).1 ≠ 0) : 1 ≤ (objS h w).1 ∧ (objS h w).1 ≤ 4 ∧ leastS (objS h w).1 ≤ (objS h w).2.length ∧ (3 ≤ (objS h w).1 → (objS h w).2.getD 0 0 < h.at_.length) := by
  rcases objS_cases h w with ⟨e, _⟩ | ⟨c1, c2, c3, c4, c5, c6, c7, e⟩
  · exact absurd e h0
  · rw [e]
    have hl : ((h.l.drop (w / 4 + 1)).take (h.l.getD (w / 4) 0 / 256)).length = h.l.getD (w / 4) 0 / 256 := by rw [List.length_take, List.length_drop]; omega
    refine ⟨c3, c4, by rw [hl]; exact c6, fun h3 => ?_⟩
    have h5 := c7 h3
    have h6 : 0 < h.l.getD (w / 4) 0 / 256 := by
      have : 3 ≤ leastS (h.l.getD (w / 4) 0 % 256) := by
        dsimp only at h3
        generalize h.l.getD (w / 4) 0 % 256 = k at h3 c4
        have : k = 3 ∨ k = 4 := by omega
        rcases this with rfl | rfl <;> decide
      omega
    have : ((h.l.drop (w / 4 + 1)).take (h.l.getD (w / 4) 0 / 256)).getD 0 0 = h.l.getD (w / 4 + 1) 0 := by
      generalize h.l.getD (w / 4) 0 / 256 = z at h6
      rw [List.getD, List.getD, List.getElem?_take_of_lt h6, List.getElem?_drop, Nat.add_zero]
    rw [this]
    exact h5
theorem trO_len (h : Hs) (ks : List (Nat × Nat)) (w : Nat) : (trO h ks w).2.length = (rawO h w).2.length := by
  unfold trO rawO
  by_cases h0 : (objS h w).1 ≤ 2
  · rw [if_pos h0, List.length_map]
  · rw [if_neg h0]
theorem flatO_len_congr {f g : Nat × Nat → Nat × List Nat} (l : List (Nat × Nat)) (h : ∀ p ∈ l, (f p).2.length = (g p).2.length) : (flatO (l.map f)).length = (flatO (l.map g)).length := by
  induction l with
  | nil => rfl
  | cons p r ih =>
    rw [List.map_cons, List.map_cons, flatO_cons, flatO_cons]
    simp only [List.length_cons, List.length_append]
    rw [h p (List.mem_cons_self ..), ih (fun q hq => h q (List.mem_cons_of_mem _ hq))]
/-- one word -/
theorem wordC_spec {h : Hs} {R : Nat → Prop} {c : Cp} (hk : KeyI h R c.ks) (hl : c.to_.length = (rawL h c.ks).length) {w : Nat} (hR : (objS h w).1 ≠ 0 → R w) :
    ∃ ext, (wordC h w c).2.ks = c.ks ++ ext ∧ (wordC h w c).2.to_ = c.to_ ++ rawL h ext ∧ KeyI h R (c.ks ++ ext) ∧ (wordC h w c).1 = nowC h (c.ks ++ ext) w ∧ ((objS h w).1 ≠ 0 → hasK (c.ks ++ ext) w) := by
  unfold wordC
  by_cases h0 : (objS h w).1 = 0
  · rw [if_pos h0]
    exact ⟨[], by simp, by simp [rawL, flatO], by rw [List.append_nil]; exact hk, by unfold nowC; rw [if_pos h0], fun e => absurd h0 e⟩
  · rw [if_neg h0]
    cases e : lookC c.ks w with
    | some x =>
      have hm : hasK c.ks w := List.mem_map.2 ⟨_, lookC_mem e, rfl⟩
      exact ⟨[], by simp, by simp [rawL, flatO], by rw [List.append_nil]; exact hk, by unfold nowC; rw [if_neg h0, List.append_nil, e]; rfl, fun _ => by rw [List.append_nil]; exact hm⟩
    | none =>
      have hn := lookC_none e
      have hm : hasK (c.ks ++ [(w, c.to_.length * 4)]) w := by unfold hasK; rw [List.map_append]; simp
      refine ⟨[(w, c.to_.length * 4)], rfl, ?_, ⟨?_, ?_, ?_⟩, ?_, fun _ => hm⟩
      · show c.to_ ++ _ = _
        unfold rawL
        rw [List.map_cons, flatO_cons]
        simp [rawO, flatO]
      · rw [List.map_append, List.nodup_append]
        refine ⟨hk.nd, by simp, ?_⟩
        intro a ha b hb e2
        simp at hb
        subst hb
        exact hn (e2 ▸ ha)
      · intro w2 hw2
        unfold hasK at hw2
        rw [List.map_append] at hw2
        rcases List.mem_append.1 hw2 with h2 | h2
        · exact hk.key w2 h2
        · simp at h2; subst h2; exact ⟨h0, hR h0⟩
      · intro i w2 x hi
        rcases Nat.lt_or_ge i c.ks.length with hlt | hge
        · rw [List.getElem?_append_left hlt] at hi
          rw [List.take_append_of_le_length (by omega)]
          exact hk.addr i w2 x hi
        · have h2 := (List.getElem?_eq_some_iff.1 hi).1
          rw [List.length_append, List.length_singleton] at h2
          obtain rfl : i = c.ks.length := by omega
          rw [List.getElem?_append_right (Nat.le_refl _), Nat.sub_self] at hi
          simp at hi
          rw [List.take_left, ← hl]
          omega
      · show c.to_.length * 4 = _
        unfold nowC
        rw [if_neg h0]
        unfold lookC at e ⊢
        rw [Option.map_eq_none_iff] at e
        rw [List.find?_append, e]
        simp
theorem rootsC_spec {h : Hs} {R : Nat → Prop} : ∀ (r : List Nat) {c : Cp}, KeyI h R c.ks → c.to_.length = (rawL h c.ks).length → (∀ w ∈ r, (objS h w).1 ≠ 0 → R w) →
    ∃ ext, (rootsC h r c).2.ks = c.ks ++ ext ∧ (rootsC h r c).2.to_ = c.to_ ++ rawL h ext ∧ KeyI h R (c.ks ++ ext) ∧ (rootsC h r c).1 = r.map (nowC h (c.ks ++ ext)) ∧ ∀ w ∈ r, (objS h w).1 ≠ 0 → hasK (c.ks ++ ext) w
  | [], c, hk, hl, _ => ⟨[], by simp [rootsC], by simp [rootsC, rawL, flatO], by rw [List.append_nil]; exact hk, rfl, fun w hw => by cases hw⟩
  | w :: r, c, hk, hl, hR => by
    obtain ⟨e1, a1, a2, a3, a4, a5⟩ := wordC_spec hk hl (hR w (List.mem_cons_self ..))
    have hl2 : (wordC h w c).2.to_.length = (rawL h (wordC h w c).2.ks).length := by rw [a1, a2, rawL_app, List.length_append, List.length_append, hl]
    rw [← a1] at a3
    obtain ⟨e2, b1, b2, b3, b4, b5⟩ := rootsC_spec r a3 hl2 (fun x hx => hR x (List.mem_cons_of_mem _ hx))
    rw [a1, List.append_assoc] at b1 b3 b4 b5
    refine ⟨e1 ++ e2, b1, by rw [rootsC]; show (rootsC h r (wordC h w c).2).2.to_ = _; rw [b2, a2, rawL_app, List.append_assoc], b3, ?_, ?_⟩
    · show (wordC h w c).1 :: (rootsC h r (wordC h w c).2).1 = _
      rw [b4, a4, List.map_cons, ← List.append_assoc, nowC_app a5]
    · intro x hx h0
      rcases List.mem_cons.1 hx with rfl | hx
      · rw [← List.append_assoc]; exact hasK_app (a5 h0)
      · exact b5 x hx h0
/-- a body's words are turned -/
theorem bodyC_spec {h : Hs} {R : Nat → Prop} : ∀ (b2 b1 P Q : List Nat) {c : Cp}, KeyI h R c.ks → c.to_ = P ++ (b1 ++ b2) ++ Q → c.to_.length = (rawL h c.ks).length → (∀ w ∈ b2, (objS h w).1 ≠ 0 → R w) →
    ∃ ext, (bodyC h (P.length + b1.length) b2.length c).ks = c.ks ++ ext ∧ (bodyC h (P.length + b1.length) b2.length c).to_ = P ++ (b1 ++ b2.map (nowC h (c.ks ++ ext))) ++ (Q ++ rawL h ext) ∧ KeyI h R (c.ks ++ ext) ∧ ∀ w ∈ b2, (objS h w).1 ≠ 0 → hasK (c.ks ++ ext) w
  | [], b1, P, Q, c, hk, ht, hl, _ => ⟨[], by simp [bodyC], by simp [bodyC, rawL, flatO, ht], by rw [List.append_nil]; exact hk, fun w hw => by cases hw⟩
  | y :: b2, b1, P, Q, c, hk, ht, hl, hR => by
    have hy : c.to_.getD (P.length + b1.length) 0 = y := by
      rw [ht, List.getD, List.append_assoc, List.getElem?_append_right (by omega), show P.length + b1.length - P.length = b1.length by omega, List.append_assoc, List.getElem?_append_right (Nat.le_refl _), Nat.sub_self]
      rfl
    obtain ⟨e1, a1, a2, a3, a4, a5⟩ := wordC_spec hk hl (hR y (List.mem_cons_self ..))
    rw [List.length_cons, bodyC, hy]
    have hset : (wordC h y c).2.to_.set (P.length + b1.length) (wordC h y c).1 = P ++ ((b1 ++ [nowC h (c.ks ++ e1) y]) ++ b2) ++ (Q ++ rawL h e1) := by
      rw [a2, a4, ht]
      simp only [List.append_assoc]
      rw [List.set_append, if_neg (by omega), show P.length + b1.length - P.length = b1.length by omega, List.set_append, if_neg (by omega), Nat.sub_self]
      simp
    rw [hset, a1]
    have hl3 : (P ++ ((b1 ++ [nowC h (c.ks ++ e1) y]) ++ b2) ++ (Q ++ rawL h e1)).length = (rawL h (c.ks ++ e1)).length := by
      have : (P ++ (b1 ++ y :: b2) ++ Q).length = (rawL h c.ks).length := by rw [← ht]; exact hl
      rw [rawL_app]
      simp only [List.length_append, List.length_cons, List.length_nil] at this ⊢
      omega
    obtain ⟨e2, c1, c2, c3, c4⟩ := bodyC_spec b2 (b1 ++ [nowC h (c.ks ++ e1) y]) P (Q ++ rawL h e1) (c := ⟨_, c.ks ++ e1⟩) a3 rfl hl3 (fun x hx => hR x (List.mem_cons_of_mem _ hx))
    rw [List.length_append, List.length_singleton, ← Nat.add_assoc] at c1 c2
    dsimp only at c1 c2 c3 c4
    rw [List.append_assoc c.ks] at c1 c3
    refine ⟨e1 ++ e2, c1, ?_, c3, ?_⟩
    · rw [c2, List.map_cons, ← List.append_assoc c.ks, nowC_app a5, rawL_app]
      simp only [List.append_assoc, List.cons_append, List.nil_append]
    · intro x hx h0
      rcases List.mem_cons.1 hx with rfl | hx
      · rw [← List.append_assoc]; exact hasK_app (a5 h0)
      · rw [← List.append_assoc]; exact c4 x hx h0
theorem KeyI.le {h : Hs} {R : Nat → Prop} {ks : List (Nat × Nat)} (hk : KeyI h R ks) : ks.length ≤ h.l.length := by
  have hp : ∀ p ∈ ks, p.1 % 4 = 0 ∧ p.1 / 4 < h.l.length := fun p hp => by
    have := (hk.key p.1 (List.mem_map.2 ⟨p, hp, rfl⟩)).1
    rcases objS_cases h p.1 with ⟨e, _⟩ | ⟨e1, e2, _⟩
    · exact absurd e this
    · exact ⟨e1, e2⟩
  have h1 : (ks.map (fun p => p.1 / 4)).Nodup := by
    have h0 := hk.nd
    unfold List.Nodup at h0 ⊢
    rw [List.pairwise_map] at h0 ⊢
    refine h0.imp_of_mem (fun {a b} ha hb hab e => hab ?_)
    have := (hp a ha).1
    have := (hp b hb).1
    omega
  have h2 := nodup_lt h.l.length _ h1 (fun x hx => by
    obtain ⟨p, hp2, rfl⟩ := List.mem_map.1 hx
    exact (hp p hp2).2)
  simpa using h2
def closedK (h : Hs) (ks : List (Nat × Nat)) (w : Nat) : Prop := (objS h w).1 ≤ 2 → ∀ x ∈ (objS h w).2, (objS h x).1 ≠ 0 → hasK ks x
theorem scanC_spec {h : Hs} {R : Nat → Prop} (hstep : ∀ w, R w → (objS h w).1 ≠ 0 → (objS h w).1 ≤ 2 → ∀ x ∈ (objS h w).2, (objS h x).1 ≠ 0 → R x) :
    ∀ (f : Nat) (done rest : List (Nat × Nat)) {c : Cp}, c.ks = done ++ rest → KeyI h R c.ks → c.to_ = flatO (done.map fun p => trO h c.ks p.1) ++ rawL h rest → (∀ p ∈ done, closedK h c.ks p.1) → h.l.length + 1 ≤ f + done.length →
    ∃ ext, (scanC h f (rawL h done).length c).ks = c.ks ++ ext ∧ KeyI h R (c.ks ++ ext) ∧ (scanC h f (rawL h done).length c).to_ = flatO ((c.ks ++ ext).map fun p => trO h (c.ks ++ ext) p.1) ∧ ∀ p ∈ c.ks ++ ext, closedK h (c.ks ++ ext) p.1
  | 0, done, rest, c, hks, hk, _, _, hf => by
    have := hk.le
    rw [hks, List.length_append] at this
    omega
  | f + 1, done, [], c, hks, hk, ht, hcl, hf => by
    rw [List.append_nil] at hks
    have hl1 : c.to_.length = (rawL h done).length := by
      rw [ht, List.length_append]
      show _ + (rawL h []).length = _
      rw [show (rawL h []).length = 0 from rfl, Nat.add_zero]
      exact flatO_len_congr done (fun p _ => trO_len h _ _)
    rw [scanC, if_neg (by omega)]
    refine ⟨[], by simp, by rw [List.append_nil]; exact hk, ?_, ?_⟩
    · rw [ht, List.append_nil]
      conv => rhs; rw [hks]
      rw [hks]
      show _ ++ [] = _
      rw [List.append_nil]
    · rw [List.append_nil, hks]
      rw [hks] at hcl
      exact hcl
  | f + 1, done, (w, x) :: rest, c, hks, hk, ht, hcl, hf => by
    have hw := hk.key w (by unfold hasK; rw [hks]; simp)
    have hD : (flatO (done.map fun p => trO h c.ks p.1)).length = (rawL h done).length := flatO_len_congr done (fun p _ => trO_len h _ _)
    have hraw : rawL h ((w, x) :: rest) = ((objS h w).1 + 256 * (objS h w).2.length) :: ((objS h w).2 ++ rawL h rest) := by unfold rawL; rw [List.map_cons, flatO_cons]; rfl
    have hk4 : (objS h w).1 ≤ 4 := by
      rcases objS_cases h w with ⟨e, _⟩ | ⟨_, _, _, e, _, _, _, e2⟩
      · omega
      · rw [e2]; exact e
    have hlen : c.to_.length = (rawL h c.ks).length := by
      rw [ht, hks, List.length_append, rawL_app, List.length_append, hks] at *
      rw [hD]
    have hlt : (rawL h done).length < c.to_.length := by rw [ht, List.length_append, hD, hraw, List.length_cons]; omega
    have hg : c.to_.getD (rawL h done).length 0 = (objS h w).1 + 256 * (objS h w).2.length := by
      rw [ht, hraw, List.getD, List.getElem?_append_right (by omega), hD, Nat.sub_self]
      rfl
    rw [scanC, if_pos hlt]
    unfold stepC
    rw [hg, show ((objS h w).1 + 256 * (objS h w).2.length) % 256 = (objS h w).1 by omega, show ((objS h w).1 + 256 * (objS h w).2.length) / 256 = (objS h w).2.length by omega]
    have hat : (rawL h done).length + 1 + (objS h w).2.length = (rawL h (done ++ [(w, x)])).length := by
      rw [rawL_app, List.length_append]
      show _ = _ + (rawL h ((w, x) :: [])).length
      unfold rawL
      rw [List.map_cons, flatO_cons]
      simp [rawO, flatO]
      omega
    by_cases h2 : (objS h w).1 ≤ 2
    · rw [if_pos h2]
      have hP : c.to_ = (flatO (done.map fun p => trO h c.ks p.1) ++ [(objS h w).1 + 256 * (objS h w).2.length]) ++ ([] ++ (objS h w).2) ++ rawL h rest := by
        rw [ht, hraw]; simp
      have hPl : (flatO (done.map fun p => trO h c.ks p.1) ++ [(objS h w).1 + 256 * (objS h w).2.length]).length = (rawL h done).length + 1 := by rw [List.length_append, hD]; rfl
      obtain ⟨e1, a1, a2, a3, a4⟩ := bodyC_spec (objS h w).2 [] _ (rawL h rest) hk hP hlen (fun x hx h0 => hstep w hw.2 hw.1 h2 x hx h0)
      rw [hPl] at a1 a2
      simp only [List.length_nil, Nat.add_zero, List.nil_append] at a1 a2
      have hcw : closedK h (c.ks ++ e1) w := fun _ => a4
      have ht2 : (bodyC h ((rawL h done).length + 1) (objS h w).2.length c).to_ = flatO ((done ++ [(w, x)]).map fun p => trO h (c.ks ++ e1) p.1) ++ rawL h (rest ++ e1) := by
        rw [a2, List.map_append, flatO_app, rawL_app, List.map_congr_left (g := fun p => trO h (c.ks ++ e1) p.1) (fun p hp => (trO_app (hcl p hp)).symm)]
        rw [List.map_cons, flatO_cons]
        unfold trO
        rw [if_pos h2]
        simp [flatO]
      rw [hat]
      have hks2 : (bodyC h ((rawL h done).length + 1) (objS h w).2.length c).ks = (done ++ [(w, x)]) ++ (rest ++ e1) := by rw [a1, hks]; simp
      rw [← a1] at a3 hcw ht2
      obtain ⟨e2, b1, b2, b3, b4⟩ := scanC_spec hstep f (done ++ [(w, x)]) (rest ++ e1) hks2 a3 ht2 (fun p hp => by
        rcases List.mem_append.1 hp with hp | hp
        · rw [a1]; exact fun h3 y hy h0 => hasK_app (hcl p hp h3 y hy h0)
        · rw [List.mem_singleton] at hp; subst hp; exact hcw) (by rw [List.length_append, List.length_singleton]; omega)
      rw [a1, List.append_assoc] at b1 b2 b3 b4
      exact ⟨e1 ++ e2, b1, b2, b3, b4⟩
    · rw [if_neg h2, hat]
      have ht2 : c.to_ = flatO ((done ++ [(w, x)]).map fun p => trO h c.ks p.1) ++ rawL h rest := by
        rw [List.map_append, flatO_app, List.map_cons, flatO_cons]
        conv => rhs; unfold trO
        rw [if_neg h2]
        rw [show (fun p : Nat × Nat => ((objS h p.1).1 + 256 * (objS h p.1).2.length, if (objS h p.1).1 ≤ 2 then List.map (nowC h c.ks) (objS h p.1).2 else (objS h p.1).2)) = fun p => trO h c.ks p.1 from rfl, ht, hraw]
        simp [flatO]
      exact scanC_spec hstep f (done ++ [(w, x)]) rest (by rw [hks]; simp) hk ht2 (fun p hp => by
        rcases List.mem_append.1 hp with hp | hp
        · exact hcl p hp
        · rw [List.mem_singleton] at hp; subst hp; exact fun e => absurd e h2) (by rw [List.length_append, List.length_singleton]; omega)
/-- Collect: the keys, all turned -/
theorem collectC_spec {h : Hs} {R : Nat → Prop} (hstep : ∀ w, R w → (objS h w).1 ≠ 0 → (objS h w).1 ≤ 2 → ∀ x ∈ (objS h w).2, (objS h x).1 ≠ 0 → R x) (r : List Nat) (hR : ∀ w ∈ r, (objS h w).1 ≠ 0 → R w) :
    ∃ ks, KeyI h R ks ∧ (collectC h r).1 = r.map (nowC h ks) ∧ (collectC h r).2 = ⟨flatO (ks.map fun p => trO h ks p.1), h.at_⟩ ∧ (∀ w ∈ r, (objS h w).1 ≠ 0 → hasK ks w) ∧ ∀ p ∈ ks, closedK h ks p.1 := by
  obtain ⟨e1, a1, a2, a3, a4, a5⟩ := rootsC_spec r (c := ⟨[], []⟩) (R := R) ⟨List.Pairwise.nil, (fun w hw => by cases hw), (fun i w x hx => by cases hx)⟩ rfl hR
  rw [List.nil_append] at a1 a2 a3 a4 a5
  obtain ⟨e2, b1, b2, b3, b4⟩ := scanC_spec hstep (h.l.length + 1) [] e1 (c := (rootsC h r ⟨[], []⟩).2) a1 (by rw [a1]; exact a3) (by rw [a2]; rfl) (fun p hp => by cases hp) (by simp)
  rw [show (rawL h []).length = 0 from rfl] at b1 b3
  rw [a1] at b1 b2 b3 b4
  refine ⟨e1 ++ e2, b2, ?_, ?_, ?_, b4⟩
  · show (rootsC h r ⟨[], []⟩).1 = _
    rw [a4]
    exact List.map_congr_left fun w hw => (nowC_app (a5 w hw)).symm
  · show (⟨_, _⟩ : Hs) = _
    rw [b3]
  · intro w hw h0
    exact hasK_app (a5 w hw h0)
end Go.Proofs.YtkipjbmckpmmfaaDoor
end
section
/- Package heap: Split, Elem; the calls of a heap that nobody made. -/
open Go Go.RowKit
namespace Go.Proofs.YtkipjbmckpmmfaaDoor
set_option linter.unusedVariables false
set_option linter.unusedSimpArgs false

def splitTop (h : Hs) (w : Nat) : Nat × Nat × List Lk := if (objS h w).1 = 1 then ((objS h w).2.getD 0 0, (objS h w).2.getD 1 0, []) else (0, 0, [⟨hpL, 0, 60⟩])
def elemTop (h : Hs) (w : Nat) (i : Int) : Nat × List Lk := if (objS h w).1 ≠ 2 then (0, [⟨hpL, 0, 60⟩]) else if i < 0 ∨ ((objS h w).2.length : Int) ≤ i then (0, [⟨hpL, 0, 2⟩]) else ((objS h w).2.getD i.toNat 0, [])
def SplR (w : World) (r : Nat × Nat × List Lk) (e : Ending) (w' : World) : Prop := ∃ ev, e = .returned (.tuple #[.int .u64 (r.1 : Nat), .int .u64 (r.2.1 : Nat), ev]) ∧ ErrIs w' ev r.2.2 ∧ Below w.heap.size w w'
def ElmR (w : World) (r : Nat × List Lk) (e : Ending) (w' : World) : Prop := ∃ ev, e = .returned (.tuple #[.int .u64 (r.1 : Nat), ev]) ∧ ErrIs w' ev r.2 ∧ Below w.heap.size w w'
theorem hpDrewN (w : World) (n : Nat) : Below w.heap.size w (w.drewN n) := ⟨rfl, rfl, rfl, Nat.le_refl _, fun _ _ => rfl⟩
set_option maxHeartbeats 8000000 in
set_option maxRecDepth 100000 in
theorem split_any {half : Nat} {h : Hs} {g : Nat} {F : Nat → Prop} (wd : Nat) (w : World) (hp : HpIs half h g F w) (hwd : wd < 18446744073709551616) :
    Calls Tryd.prog 18 #[.pointer (some ⟨g, 0, none⟩), .int .u64 wd] w (SplR w (splitTop h wd)) := by
  have HM := Lib.hid (made_of hp)
  have HOB := Lib.hid (object_any hp wd hwd)
  have HV := Lib.hid (objS_valid h wd)
  unfold splitTop
  generalize objS h wd = x at *
  obtain ⟨k, r⟩ := x
  by_cases h1 : k = 1
  · subst h1
    rw [if_pos rfl]
    have hl : 2 ≤ r.length := (HV.out (by show (1 : Nat) ≠ 0; omega)).2.2.1
    obtain ⟨a, b, q, rfl⟩ : ∃ a b q, r = a :: b :: q := by
      match r, hl with
      | a :: b :: q, _ => exact ⟨a, b, q, rfl⟩
    clear hl HV
    go_enter Tryd.func18, Tryd.ntmps18
    go_wp2_with fail
    refine HM.out.mono ?_
    rintro e w1 ⟨rfl, rfl⟩
    go_wp2_with fail
    refine HOB.out.mono ?_
    rintro e w2 ⟨lw, rfl, hat, n, rfl⟩
    dsimp only at hat
    obtain ⟨ra, rc, rfl⟩ := hat.form
    obtain ⟨g2, o2, rfl, _, hcs⟩ := AtV.cell hat (by simp [wordsV])
    have e0 := hcs 0 (by simp [wordsV])
    have e1 := hcs 1 (by simp [wordsV])
    rw [wordsV_get] at e0 e1
    have e0 : w.cell? ⟨g2, o2, none⟩ = some (.int .u64 (a : Nat)) := e0
    have e1 : w.cell? ⟨g2, o2 + 1, none⟩ = some (.int .u64 (b : Nat)) := e1
    have HL := Lib.hid (show ((0 : Int) < ((wordsV (a :: b :: q)).length : Int)) ∧ ((1 : Int) < ((wordsV (a :: b :: q)).length : Int)) by rw [wordsV_len]; simp only [List.length_cons]; omega)
    clear hat hcs
    generalize (wordsV (a :: b :: q)).length = L at *
    obtain ⟨l0, l1⟩ := HL.out
    go_wp2
    go_region
    go_wp2
    go_ret3
    exact ⟨.nilIface, rfl, rfl, (hpDrewN w n).trans ((Below.drew (Below.refl _ _)).mono (Nat.le_refl _))⟩
  · rw [if_neg h1]
    have hk : ¬ (k : Int) = 1 := by omega
    clear HV
    go_enter Tryd.func18, Tryd.ntmps18
    go_wp2_with fail
    refine HM.out.mono ?_
    rintro e w1 ⟨rfl, rfl⟩
    go_wp2_with fail
    refine HOB.out.mono ?_
    rintro e w2 ⟨lw, rfl, hat, n, rfl⟩
    obtain ⟨ra, rc, rfl⟩ := hat.form
    go_wp2_with (go_at_call 21; refine (refusedH_any _ _).mono ?_; rintro e w' ⟨rfl, rfl⟩)
    go_ret3
    exact ⟨_, rfl, ErrIs.one, ((hpDrewN w n).alloc (Nat.le_refl _) _)⟩
set_option maxHeartbeats 8000000 in
set_option maxRecDepth 100000 in
theorem elem_any {half : Nat} {h : Hs} {g : Nat} {F : Nat → Prop} (wd : Nat) (i : Int) (w : World) (hp : HpIs half h g F w) (hwd : wd < 18446744073709551616) :
    Calls Tryd.prog 19 #[.pointer (some ⟨g, 0, none⟩), .int .u64 wd, .int .i64 i] w (ElmR w (elemTop h wd i)) := by
  have HM := Lib.hid (made_of hp)
  have HOB := Lib.hid (object_any hp wd hwd)
  unfold elemTop
  generalize objS h wd = x at *
  obtain ⟨k, r⟩ := x
  by_cases h1 : k = 2
  · subst h1
    rw [if_neg (by simp)]
    by_cases hi : i < 0 ∨ (r.length : Int) ≤ i
    · rw [if_pos hi]
      go_enter Tryd.func19, Tryd.ntmps19
      go_wp2_with fail
      refine HM.out.mono ?_
      rintro e w1 ⟨rfl, rfl⟩
      go_wp2_with fail
      refine HOB.out.mono ?_
      rintro e w2 ⟨lw, rfl, hat, n, rfl⟩
      dsimp only at hat
      obtain ⟨ra, rc, rfl⟩ := hat.form
      rw [wordsV_len]
      rcases hi with hi | hi
      · go_wp2_with (go_at_call 21; refine (refusedH_any _ _).mono ?_; rintro e w' ⟨rfl, rfl⟩)
        go_ret2
        exact ⟨_, rfl, ErrIs.one, ((hpDrewN w n).alloc (Nat.le_refl _) _)⟩
      · have h0 : ¬ i < 0 := by omega
        go_wp2_with (go_at_call 21; refine (refusedH_any _ _).mono ?_; rintro e w' ⟨rfl, rfl⟩)
        go_ret2
        exact ⟨_, rfl, ErrIs.one, ((hpDrewN w n).alloc (Nat.le_refl _) _)⟩
    · rw [if_neg hi]
      have h0 : ¬ i < 0 := by omega
      have h2 : ¬ (r.length : Int) ≤ i := by omega
      have h3 : i < (r.length : Int) := by omega
      have h4 : (0 : Int) ≤ i := by omega
      obtain ⟨m, rfl⟩ : ∃ m : Nat, i = (m : Int) := ⟨i.toNat, by omega⟩
      rw [Int.toNat_natCast]
      go_enter Tryd.func19, Tryd.ntmps19
      go_wp2_with fail
      refine HM.out.mono ?_
      rintro e w1 ⟨rfl, rfl⟩
      go_wp2_with fail
      refine HOB.out.mono ?_
      rintro e w2 ⟨lw, rfl, hat, n, rfl⟩
      dsimp only at hat
      obtain ⟨ra, rc, rfl⟩ := hat.form
      obtain ⟨g2, o2, rfl, _, hcs⟩ := AtV.cell hat (by intro e; have := congrArg List.length e; rw [wordsV_len, List.length_nil] at this; omega)
      have e0 := hcs m (by rw [wordsV_len]; omega)
      rw [wordsV_get] at e0
      have e0 : w.cell? ⟨g2, o2 + m, none⟩ = some (.int .u64 (r.getD m 0 : Nat)) := e0
      rw [wordsV_len]
      clear hat hcs hi
      go_wp2
      go_ret2
      exact ⟨.nilIface, rfl, rfl, hpDrewN w n⟩
  · rw [if_pos h1]
    have hk : ¬ (k : Int) = 2 := by omega
    go_enter Tryd.func19, Tryd.ntmps19
    go_wp2_with fail
    refine HM.out.mono ?_
    rintro e w1 ⟨rfl, rfl⟩
    go_wp2_with fail
    refine HOB.out.mono ?_
    rintro e w2 ⟨lw, rfl, hat, n, rfl⟩
    obtain ⟨ra, rc, rfl⟩ := hat.form
    go_wp2_with (go_at_call 21; refine (refusedH_any _ _).mono ?_; rintro e w' ⟨rfl, rfl⟩)
    go_ret2
    exact ⟨_, rfl, ErrIs.one, ((hpDrewN w n).alloc (Nat.le_refl _) _)⟩
/-! ### a heap that nobody made -/
def hpZ : List Value := [.int .i64 0, .slice none 0 0, .slice none 0 0, .map none]
/-- a heap that nobody made: nil, or a zero one -/
def DeadHp (v : Value) (w : World) : Prop := v = .pointer none ∨ ∃ g, v = .pointer (some ⟨g, 0, none⟩) ∧ Cells w g 52 hpZ
theorem DeadHp.below {v : Value} {w w' : World} (h : DeadHp v w) (hb : Below w.heap.size w w') : DeadHp v w' := by
  rcases h with h | ⟨g, h1, h2⟩
  · exact .inl h
  · exact .inr ⟨g, h1, h2.below hb⟩
theorem made_dead {v : Value} {w : World} (h : DeadHp v w) : Calls Tryd.prog 22 #[v] w fun e w' => e = .returned (.bool false) ∧ w = w' := by
  rcases h with rfl | ⟨g, rfl, h2⟩
  · exact made_nil w
  · exact made_zero g _ _ _ w h2
theorem used_dead {v : Value} {w : World} (h : DeadHp v w) : Calls Tryd.prog 10 #[v] w fun e w' => e = .returned (.int .i64 0) ∧ w = w' := by
  have HM := Lib.hid (made_dead h)
  clear h
  go_enter Tryd.func10, Tryd.ntmps10
  go_wp2_with fail
  refine HM.out.mono ?_
  rintro e w' ⟨rfl, rfl⟩
  go_wp2
  go_ret
  exact ⟨rfl, rfl⟩
theorem free_dead {v : Value} {w : World} (h : DeadHp v w) : Calls Tryd.prog 17 #[v] w fun e w' => e = .returned (.int .i64 0) ∧ w = w' := by
  have HM := Lib.hid (made_dead h)
  clear h
  go_enter Tryd.func17, Tryd.ntmps17
  go_wp2_with fail
  refine HM.out.mono ?_
  rintro e w' ⟨rfl, rfl⟩
  go_wp2
  go_ret
  exact ⟨rfl, rfl⟩
theorem layD_any {v : Value} {w : World} (h : DeadHp v w) (a b c d e f : Value) : Calls Tryd.prog 7 #[v, .agg #[a, b, c, d, e, f]] w fun en w' => ∃ ev, en = .returned (.tuple #[.int .u64 0, ev]) ∧ ErrIs w' ev [⟨hpL, 0, 3⟩] ∧ Below w.heap.size w w' := by
  have HM := Lib.hid (fun W (hb : Below w.heap.size w W) => made_dead (h.below hb))
  clear h
  go_enter Tryd.func7, Tryd.ntmps7
  go_upto_region 1 with (fail)
  have B := Lib.hid ((Below.refl w.heap.size w).alloc (Nat.le_refl _) (.cells #[a, b, c, d, e, f] 27 (0, 0)))
  generalize w.alloc (.cells #[a, b, c, d, e, f] 27 (0, 0)) = w0 at *
  go_wp2_with fail
  refine (HM.out _ B.out).mono ?_
  rintro e w' ⟨rfl, rfl⟩
  go_wp2_with (go_at_call 21; refine (refusedH_any _ _).mono ?_; rintro e w' ⟨rfl, rfl⟩)
  go_ret2
  exact ⟨_, rfl, ErrIs.one, B.out.alloc B.out.size _⟩
set_option maxHeartbeats 8000000 in
set_option maxRecDepth 100000 in
theorem termD_any {v : Value} {w : World} (h : DeadHp v w) (a : Nat) : Calls Tryd.prog 11 #[v, .int .u64 a] w fun en w' => ∃ ev, en = .returned (.tuple #[.agg termZ.toArray, ev]) ∧ ErrIs w' ev [⟨hpL, 0, 3⟩] ∧ Below w.heap.size w w' := by
  have B0 := Lib.hid ((Below.refl _ w).alloc (Nat.le_refl _) (.cells #[.int .i64 0, .int .i64 0, .string ⟨#[]⟩, .int .u32 0, .slice none 0 0, .slice none 0 0] 27 (0, 0)))
  have R0 := Lib.hid (Cells.new w 27 [.int .i64 0, .int .i64 0, .string ⟨#[]⟩, .int .u32 0, .slice none 0 0, .slice none 0 0])
  have HM := Lib.hid (made_dead (h.below B0.out))
  have HRW := Lib.hid R0.out.lt
  clear h
  go_enter Tryd.func11, Tryd.ntmps11
  go_wp2_with fail
  generalize World.alloc w _ = w2 at *
  refine HM.out.mono ?_
  rintro e w1 ⟨rfl, rfl⟩
  have R2 := Lib.hid R0.out
  have B2 := Lib.hid B0.out
  have RW := Lib.hid (R2.out.below ((Below.refl w2.heap.size w2).alloc (Nat.le_refl _) (.cells #[.string ⟨#[104, 101, 97, 112]⟩, .int .i64 0, .int .i64 3, .nilIface] 93 (0, 0))))
  have BW := Lib.hid (B2.out.alloc B2.out.size (.cells #[.string ⟨#[104, 101, 97, 112]⟩, .int .i64 0, .int .i64 3, .nilIface] 93 (0, 0)))
  go_wp2_with (first | (go_at_call 21; refine (refusedH_any _ _).mono ?_; rintro e w' ⟨rfl, rfl⟩) | (refine wpList_store_blk rfl _ (.tmp 4) (.tmp 10) rfl w.heap.size 0 [.int .i64 0, .int .i64 0, .string ⟨#[]⟩, .int .u32 0, .slice none 0 0, .slice none 0 0] (by rfl) (by rfl) (by kernel_rfl) (by simp [Value.oneCell']) 27 _ RW.out (by show 0 + 6 ≤ 6; decide) ?_; intro wz hCz hgz; refine stop ?_))
  refine Stopped.of ?_
  have C0 : Cells wz w.heap.size 27 [.int .i64 0, .int .i64 0, .string ⟨#[]⟩, .int .u32 0, .slice none 0 0, .slice none 0 0] := hCz
  have z0 := C0.cell 0
  have z1 := C0.cell 1
  have z2 := C0.cell 2
  have z3 := C0.cell 3
  have z4 := C0.cell 4
  have z5 := C0.cell 5
  simp only [List.getElem?_cons_zero, List.getElem?_cons_succ] at z0 z1 z2 z3 z4 z5
  have BZ := Lib.hid (BW.out.grown hgz BW.out.size (fun k hk => by cases hk; exact Nat.le_refl _))
  have EZ := Lib.hid (show ErrIs wz (.iface 91 (.pointer (some ⟨w2.heap.size, 0, none⟩))) [⟨hpL, 0, 3⟩] from ⟨w2.heap.size, .nilIface, rfl, (hgz.block w2.heap.size (by simp) (fun e => by have e := Option.some.inj e; have := R2.out.lt; omega)).trans (alloc_get _ _), rfl⟩)
  clear C0 hCz hgz
  go_wp2
  refine bodyPost_ret (v := .tuple #[.agg #[.int .i64 0, .int .i64 0, .string ⟨#[]⟩, .int .u32 0, .slice none 0 0, .slice none 0 0], .iface 91 (.pointer (some ⟨w2.heap.size, 0, none⟩))]) (by simp [results, Tryd.results11, go_sem, z0, z1, z2, z3, z4, z5]) rfl ?_
  exact ⟨_, rfl, EZ.out, BZ.out⟩
theorem consD_any {v : Value} {w : World} (h : DeadHp v w) (a b : Nat) : Calls Tryd.prog 14 #[v, .int .u64 a, .int .u64 b] w fun en w' => ∃ ev, en = .returned (.tuple #[.int .u64 0, ev]) ∧ ErrIs w' ev [⟨hpL, 0, 3⟩] ∧ Below w.heap.size w w' := by
  have HM := Lib.hid (made_dead h)
  clear h
  go_enter Tryd.func14, Tryd.ntmps14
  go_wp2_with fail
  refine HM.out.mono ?_
  rintro e w' ⟨rfl, rfl⟩
  go_wp2_with (go_at_call 21; refine (refusedH_any _ _).mono ?_; rintro e w' ⟨rfl, rfl⟩)
  go_ret2
  exact ⟨_, rfl, ErrIs.one, (Below.refl _ _).alloc (Nat.le_refl _) _⟩
theorem collectD_any {v : Value} {w : World} (h : DeadHp v w) (lv : Value) : Calls Tryd.prog 15 #[v, lv] w fun en w' => ∃ ev, en = .returned (.tuple #[.slice none 0 0, ev]) ∧ ErrIs w' ev [⟨hpL, 0, 3⟩] ∧ Below w.heap.size w w' := by
  have HM := Lib.hid (made_dead h)
  clear h
  go_enter Tryd.func15, Tryd.ntmps15
  go_wp2_with fail
  refine HM.out.mono ?_
  rintro e w' ⟨rfl, rfl⟩
  go_wp2_with (go_at_call 21; refine (refusedH_any _ _).mono ?_; rintro e w' ⟨rfl, rfl⟩)
  go_ret2
  exact ⟨_, rfl, ErrIs.one, (Below.refl _ _).alloc (Nat.le_refl _) _⟩
end Go.Proofs.YtkipjbmckpmmfaaDoor
end
section
/- Layer 3, plain: what a collection of any words leaves in a heap of a cell and a tuple. No function of the program is looked at here. -/
open Go Go.RowKit
namespace Go.Proofs.YtkipjbmckpmmfaaDoor
set_option linter.unusedVariables false
set_option linter.unusedSimpArgs false

def anyH (half : Nat) (a b : Nat) : Hs := (tupTop half [a] (consTop half a b zeroH).2.2).2.2
theorem anyH_cases (half a b : Nat) : (anyH half a b).at_ = [] ∧ (anyH half a b).l.length ≤ half ∧ ((anyH half a b).l = [] ∨ (anyH half a b).l = [513, a, b] ∨ (anyH half a b).l = [258, a] ∨ (anyH half a b).l = [513, a, b, 258, a]) := by
  have c : (consTop half a b zeroH).2.2 = if 3 ≤ half then ⟨[513, a, b], []⟩ else ⟨[], []⟩ := by
    have hz : zeroH.l.length = 0 := rfl
    unfold consTop
    rw [hz]
    by_cases h : 3 ≤ half
    · rw [if_neg (show ¬ (half : Int) - ((0 : Nat) : Int) < 3 by omega), if_pos h]
      show (putH 1 [a, b] zeroH).2 = _
      unfold putH zeroH
      simp
    · rw [if_pos (show (half : Int) - ((0 : Nat) : Int) < 3 by omega), if_neg h]
      rfl
  have u : ∀ h : Hs, (tupTop half [a] h).2.2 = if h.l.length + 2 ≤ half then ⟨h.l ++ [258, a], h.at_⟩ else h := fun h => by
    unfold tupTop
    rw [if_neg (by simp)]
    by_cases h2 : (half : Int) - h.l.length < 1 + ([a] : List Nat).length
    · rw [if_pos h2, if_neg (by simp at h2; omega)]
    · rw [if_neg h2, if_pos (by simp at h2; omega)]; rfl
  unfold anyH
  rw [u, c]
  by_cases h1 : 3 ≤ half
  · rw [if_pos h1]
    by_cases h2 : 5 ≤ half
    · rw [if_pos (by simpa using h2)]
      exact ⟨rfl, by simpa using h2, .inr (.inr (.inr rfl))⟩
    · rw [if_neg (by simpa using h2)]
      exact ⟨rfl, by simpa using h1, .inr (.inl rfl)⟩
  · rw [if_neg h1]
    by_cases h2 : 2 ≤ half
    · rw [if_pos (by simpa using h2)]
      exact ⟨rfl, by simpa using h2, .inr (.inr (.inl rfl))⟩
    · rw [if_neg (by simpa using h2)]
      exact ⟨rfl, Nat.zero_le _, .inl rfl⟩
theorem anyH_key {half a b w : Nat} (hw : (objS (anyH half a b) w).1 ≠ 0) : w % 4 = 0 ∧ (∀ x ∈ (objS (anyH half a b) w).2, x = 513 ∨ x = 258 ∨ x = a ∨ x = b) ∧ 1 + (objS (anyH half a b) w).2.length ≤ (anyH half a b).l.length ∧ (a % 4 = 0 → b % 4 = 0 → (w = 0 ∧ 1 + (objS (anyH half a b) w).2.length ≤ 3) ∨ (w = 12 ∧ 1 + (objS (anyH half a b) w).2.length = 2 ∧ (anyH half a b).l.length = 5)) := by
  obtain ⟨h1, _, h3⟩ := anyH_cases half a b
  have hm : ∀ x ∈ (anyH half a b).l, x = 513 ∨ x = 258 ∨ x = a ∨ x = b := by
    intro x hx
    rcases h3 with e | e | e | e <;> rw [e] at hx <;> simp at hx <;> omega
  rcases objS_cases (anyH half a b) w with ⟨e, _⟩ | ⟨c1, c2, c3, c4, c5, c6, c7, e⟩
  · exact absurd e hw
  · have hl : ((objS (anyH half a b) w).2).length = (anyH half a b).l.getD (w / 4) 0 / 256 := by rw [e, List.length_take, List.length_drop]; omega
    refine ⟨c1, fun x hx => ?_, by rw [hl]; omega, fun ha hb => ?_⟩
    · rw [e] at hx
      exact hm x (List.mem_of_mem_drop (List.mem_of_mem_take hx))
    · rw [hl]
      rw [h1] at c7
      simp only [List.length_nil, Nat.not_lt_zero] at c7
      have k3 : (anyH half a b).l.getD (w / 4) 0 % 256 < 3 := by
        rcases Nat.lt_or_ge ((anyH half a b).l.getD (w / 4) 0 % 256) 3 with h | h
        · exact h
        · exact absurd (c7 h) id
      obtain ⟨i, hi⟩ : ∃ i, w / 4 = i := ⟨_, rfl⟩
      rw [hi] at c2 c3 k3 ⊢
      have hw4 : w = 4 * i := by omega
      rcases h3 with e3 | e3 | e3 | e3
      · rw [e3] at c2; simp at c2
      · rw [e3] at c2 c3 k3 ⊢
        match i, c2 with
        | 0, _ => exact .inl ⟨by omega, by simp⟩
        | 1, _ => simp at c3 k3; omega
        | 2, _ => simp at c3 k3; omega
      · rw [e3] at c2 c3 k3 ⊢
        match i, c2 with
        | 0, _ => exact .inl ⟨by omega, by simp⟩
        | 1, _ => simp at c3 k3; omega
      · rw [e3] at c2 c3 k3 ⊢
        match i, c2 with
        | 0, _ => exact .inl ⟨by omega, by simp⟩
        | 1, _ => simp at c3 k3; omega
        | 2, _ => simp at c3 k3; omega
        | 3, _ => exact .inr ⟨by omega, by simp, by simp⟩
        | 4, _ => simp at c3 k3; omega
theorem anyH_collect (half a b : Nat) : (collectC (anyH half a b) [a, b]).2.l.length ≤ half := by
  obtain ⟨h1, h2, h3⟩ := anyH_cases half a b
  obtain ⟨ks, hk, _, c2, _, _⟩ := collectC_spec (h := anyH half a b) (R := fun w => w = a ∨ w = b) (fun w _ h0 _ x hx hx0 => by
    have k1 := anyH_key h0
    have k2 := anyH_key hx0
    rcases k1.2.1 x hx with rfl | rfl | rfl | rfl
    · have := k2.1; omega
    · have := k2.1; omega
    · exact .inl rfl
    · exact .inr rfl) [a, b] (fun w hw _ => by simp at hw; exact hw)
  rw [c2]
  show (flatO _).length ≤ _
  have e1 : (flatO (ks.map fun p => trO (anyH half a b) ks p.1)).length = (rawL (anyH half a b) ks).length := flatO_len_congr _ (fun p _ => trO_len _ _ _)
  rw [e1]
  have one : ∀ w x : Nat, (rawL (anyH half a b) [(w, x)]).length = 1 + (objS (anyH half a b) w).2.length := fun w x => by
    unfold rawL
    rw [List.map_cons, flatO_cons]
    simp [rawO, flatO]
    omega
  match ks, hk with
  | [], _ => exact Nat.zero_le _
  | [(w, x)], hk =>
    rw [one]
    have := (anyH_key (hk.key w (by unfold hasK; simp)).1).2.2.1
    omega
  | [(w, x), (w2, x2)], hk =>
    have q1 := hk.key w (by unfold hasK; simp)
    have q2 := hk.key w2 (by unfold hasK; simp)
    have k1 := anyH_key q1.1
    have k2 := anyH_key q2.1
    have hne : w ≠ w2 := by have := hk.nd; simp at this; exact this
    have hab : a % 4 = 0 ∧ b % 4 = 0 := by
      have := k1.1
      have := k2.1
      rcases q1.2 with e | e <;> rcases q2.2 with e2 | e2 <;> omega
    have z1 := k1.2.2.2 hab.1 hab.2
    have z2 := k2.2.2.2 hab.1 hab.2
    rw [show [(w, x), (w2, x2)] = [(w, x)] ++ [(w2, x2)] from rfl, rawL_app, List.length_append, one, one]
    omega
  | (w, x) :: (w2, x2) :: (w3, x3) :: r, hk =>
    exfalso
    have q1 := (hk.key w (by unfold hasK; simp)).2
    have q2 := (hk.key w2 (by unfold hasK; simp)).2
    have q3 := (hk.key w3 (by unfold hasK; simp)).2
    have hnd := hk.nd
    simp at hnd
    omega
end Go.Proofs.YtkipjbmckpmmfaaDoor
end
section
/- heddlelaw03: HeapNobody. -/
open Go Go.RowKit
namespace Go.Proofs.YtkipjbmckpmmfaaDoor
set_option linter.unusedVariables false
set_option linter.unusedSimpArgs false

theorem words_two_at {w : World} (l : List Nat) (h : l.length ≤ 2) : AtV (fun q => q = w.heap.size) (.slice (some ⟨w.heap.size, 0, none⟩) l.length l.length) (wordsV l) (w.alloc (.cells (wordsV l).toArray 35 (0, 0))) := by
  have h1 := (RowV.lit (base := 0) (w := w) 35 (wordsV l) (Nat.zero_le _) (by rw [wordsV_len]; unfold maxLen; omega)).at_
  rw [wordsV_len] at h1
  exact h1.mono fun b _ hb => (Option.some.inj hb).symm
theorem cons_len (half a b : Nat) : (consTop half a b zeroH).2.2.l.length ≤ half := by
  have hz : zeroH.l.length = 0 := rfl
  unfold consTop
  by_cases h : (half : Int) - (zeroH.l.length : Nat) < 3
  · rw [if_pos h]; exact Nat.zero_le _
  · rw [if_neg h]
    show (putH 1 [a, b] zeroH).2.l.length ≤ half
    rw [hz] at h
    unfold putH zeroH
    simp
    omega
set_option maxHeartbeats 16000000 in
set_option maxRecDepth 100000 in
theorem heapNobody_any (size : Int) (a b : Nat) (k : Int) (w : World) (hG : Gt w) (ha : a < 18446744073709551616) (hb : b < 18446744073709551616) :
    Calls Tryd.prog 4 #[.int .i64 size, .int .u64 a, .int .u64 b, .int .i64 k] w fun e w' => e = .returned (.bool true) ∧ Below w.heap.size w w' := by
  have HA64 := Lib.hid ha
  have HB64 := Lib.hid hb
  have HG := Lib.hid hG
  clear ha hb hG
  go_enter Tryd.func4, Tryd.ntmps4
  go_wp2_with fail
  refine (one_any _ _ _ _).mono ?_
  rintro e w1 ⟨rfl, rfl⟩
  have LK := Lib.hid (LinksIs.lit (base := w.heap.size) (w := w) ⟨hpL, 0, 3⟩ (Nat.le_refl _))
  have HB1 := Lib.hid ((Below.refl w.heap.size w).alloc (Nat.le_refl _) (.cells #[.string hpL, .int .i64 0, .int .i64 3] 78 (0, 0)))
  unfold hpL at LK HB1
  go_upto_region 3 with (fail)
  generalize Value.slice (some ⟨w.heap.size, 0, none⟩) 1 1 = lv at *
  generalize w.alloc (.cells #[.string ⟨#[104, 101, 97, 112]⟩, .int .i64 0, .int .i64 3] 78 (0, 0)) = w1 at *
  have C2 := Lib.hid (Cells.new w1 52 hpZ)
  have B2 := Lib.hid ((Below.refl w1.heap.size w1).alloc (Nat.le_refl _) (.cells hpZ.toArray 52 (0, 0)))
  have C3 := Lib.hid (Cells.new (w1.alloc (.cells hpZ.toArray 52 (0, 0))) 28 [.pointer none, .pointer (some ⟨w1.heap.size, 0, none⟩)])
  have B3 := Lib.hid (B2.out.alloc (by simp) (.cells #[.pointer none, .pointer (some ⟨w1.heap.size, 0, none⟩)] 28 (0, 0)))
  have C23 := Lib.hid (C2.out.alloc (.cells #[.pointer none, .pointer (some ⟨w1.heap.size, 0, none⟩)] 28 (0, 0)))
  unfold hpZ at *
  go_wp2_with fail
  have BX := Lib.hid (show ∀ kk : Nat, kk < 2 → ∃ v, ((w1.alloc (.cells #[.int .i64 0, .slice none 0 0, .slice none 0 0, .map none] 52 (0, 0))).alloc (.cells #[.pointer none, .pointer (some ⟨w1.heap.size, 0, none⟩)] 28 (0, 0))).cell? ⟨w1.heap.size + 1, kk, none⟩ = some v ∧ DeadHp v ((w1.alloc (.cells #[.int .i64 0, .slice none 0 0, .slice none 0 0, .map none] 52 (0, 0))).alloc (.cells #[.pointer none, .pointer (some ⟨w1.heap.size, 0, none⟩)] 28 (0, 0))) from fun kk hk => by
    have h2 := C3.out.cell kk
    have hs : (w1.alloc (.cells #[.int .i64 0, .slice none 0 0, .slice none 0 0, .map none] 52 (0, 0))).heap.size = w1.heap.size + 1 := by simp
    rw [hs] at h2
    match kk, hk with
    | 0, _ => exact ⟨.pointer none, h2, .inl rfl⟩
    | 1, _ => exact ⟨.pointer (some ⟨w1.heap.size, 0, none⟩), h2, .inr ⟨_, rfl, C23.out⟩⟩)
  have HB3 := Lib.hid (HB1.out.trans (B3.out.mono HB1.out.size))
  have LK3 := Lib.hid (LK.out.below B3.out (Nat.le_refl _))
  clear C2 B2 C3 B3 C23
  generalize (w1.alloc (.cells #[.int .i64 0, .slice none 0 0, .slice none 0 0, .map none] 52 (0, 0))).alloc (.cells #[.pointer none, .pointer (some ⟨w1.heap.size, 0, none⟩)] 28 (0, 0)) = w3 at *
  go_loopw [29] (fun i wr => ∃ kk : Nat, kk ≤ 2 ∧ i = .int .i64 kk ∧ Below w3.heap.size w3 wr) (fun i _ => 2 - (intOf i).toNat)
  case atStart => exact ⟨0, Nat.zero_le _, rfl, Below.refl _ _⟩
  case round =>
    obtain ⟨kk, hkk, rfl, hbr⟩ := hrel
    have HBR := Lib.hid hbr
    clear hbr
    by_cases hk : kk < 2
    · have hki : (kk : Int) < 2 := by omega
      have hk0 : (0 : Int) ≤ (kk : Int) := by omega
      obtain ⟨v, hv3, hdead⟩ := BX.out kk hk
      have hv := (HBR.out.cell (p := ⟨w1.heap.size + 1, kk, none⟩) (World.block_lt_of_cell? _ _ hv3)).trans hv3
      have HD := Lib.hid (fun W (h : Below w3.heap.size w3 W) => hdead.below h)
      have HF := Lib.hid (fun W (h : Below w3.heap.size w3 W) => HB3.out.trans (h.mono HB3.out.size))
      have HLK := Lib.hid (fun W (h : Below w3.heap.size w3 W) => LK3.out.below h (Nat.le_refl _))
      have HER := Lib.hid (fun W (h : Below w3.heap.size w3 W) => (HG.out.below (HF.out _ h)).1)
      clear hv3 hdead hk hkk
      go_wp2_with fail
      refine (layD_any (HD.out _ HBR.out) _ _ _ _ _ _).mono ?_
      rintro e w4 ⟨ev4, rfl, her, hb⟩
      have HE4 := Lib.hid her
      have HB4 := Lib.hid (HBR.out.trans (hb.mono HBR.out.size))
      clear her hb hv
      go_wp2_with fail
      refine (termD_any (HD.out _ HB4.out) a).mono ?_
      rintro e w5 ⟨ev5, rfl, her, hb⟩
      have HE5 := Lib.hid her
      have HE45 := Lib.hid (HE4.out.below hb)
      have HB5 := Lib.hid (HB4.out.trans (hb.mono HB4.out.size))
      clear her hb HE4
      unfold termZ
      go_upto_region 8 with (fail)
      have HA := Lib.hid ((Below.refl w5.heap.size w5).alloc (Nat.le_refl _) (.cells #[.int .i64 0, .int .i64 0, .string ⟨#[]⟩, .int .u32 0, .slice none 0 0, .slice none 0 0] 27 (0, 0)))
      have HB6 := Lib.hid (HB5.out.trans (HA.out.mono HB5.out.size))
      have HE56 := Lib.hid (HE5.out.below HA.out)
      have HE46 := Lib.hid (HE45.out.below HA.out)
      clear HA HE5 HB5 HE45
      generalize w5.alloc (.cells #[.int .i64 0, .int .i64 0, .string ⟨#[]⟩, .int .u32 0, .slice none 0 0, .slice none 0 0] 27 (0, 0)) = w6 at *
      go_wp2_with fail
      refine (consD_any (HD.out _ HB6.out) a b).mono ?_
      rintro e w7 ⟨ev7, rfl, her, hb⟩
      have HE7 := Lib.hid her
      have HE57 := Lib.hid (HE56.out.below hb)
      have HE47 := Lib.hid (HE46.out.below hb)
      have HB7 := Lib.hid (HB6.out.trans (hb.mono HB6.out.size))
      clear her hb HE56 HE46
      have HA := Lib.hid ((Below.refl w7.heap.size w7).alloc (Nat.le_refl _) (.cells #[.int .u64 a] 35 (0, 0)))
      go_wp2_with fail
      have HB8 := Lib.hid (HB7.out.trans (HA.out.mono HB7.out.size))
      have HE78 := Lib.hid (HE7.out.below HA.out)
      have HE58 := Lib.hid (HE57.out.below HA.out)
      have HE48 := Lib.hid (HE47.out.below HA.out)
      clear HA HE7 HE57 HE47 HB7
      generalize w7.alloc (.cells #[.int .u64 a] 35 (0, 0)) = w8 at *
      refine (collectD_any (HD.out _ HB8.out) _).mono ?_
      rintro e w9 ⟨ev9, rfl, her, hb⟩
      have HE9 := Lib.hid her
      have HE79 := Lib.hid (HE78.out.below hb)
      have HE59 := Lib.hid (HE58.out.below hb)
      have HE49 := Lib.hid (HE48.out.below hb)
      have HB9 := Lib.hid (HB8.out.trans (hb.mono HB8.out.size))
      clear her hb HE78 HE58 HE48
      go_wp2_with fail
      refine (refused_links ev4 [⟨hpL, 0, 3⟩] [⟨hpL, 0, 3⟩] _ _ _ HE49.out (by decide) (by decide) (HLK.out _ HB9.out) (HER.out _ HB9.out)).mono ?_
      rintro e w10 ⟨rfl, hb⟩
      rw [decide_eq_true rfl]
      have HE9A := Lib.hid (HE9.out.below hb)
      have HE7A := Lib.hid (HE79.out.below hb)
      have HE5A := Lib.hid (HE59.out.below hb)
      have HBA := Lib.hid (HB9.out.trans (hb.mono HB9.out.size))
      clear hb HE9 HE79 HE59 HE49
      go_wp2_with fail
      refine (refused_links ev5 [⟨hpL, 0, 3⟩] [⟨hpL, 0, 3⟩] _ _ _ HE5A.out (by decide) (by decide) (HLK.out _ HBA.out) (HER.out _ HBA.out)).mono ?_
      rintro e w11 ⟨rfl, hb⟩
      rw [decide_eq_true rfl]
      have HE9B := Lib.hid (HE9A.out.below hb)
      have HE7B := Lib.hid (HE7A.out.below hb)
      have HBB := Lib.hid (HBA.out.trans (hb.mono HBA.out.size))
      clear hb HE9A HE7A HE5A
      go_wp2_with fail
      refine (refused_links ev7 [⟨hpL, 0, 3⟩] [⟨hpL, 0, 3⟩] _ _ _ HE7B.out (by decide) (by decide) (HLK.out _ HBB.out) (HER.out _ HBB.out)).mono ?_
      rintro e w12 ⟨rfl, hb⟩
      rw [decide_eq_true rfl]
      have HE9C := Lib.hid (HE9B.out.below hb)
      have HBC := Lib.hid (HBB.out.trans (hb.mono HBB.out.size))
      clear hb HE9B HE7B
      go_wp2_with fail
      refine (refused_links ev9 [⟨hpL, 0, 3⟩] [⟨hpL, 0, 3⟩] _ _ _ HE9C.out (by decide) (by decide) (HLK.out _ HBC.out) (HER.out _ HBC.out)).mono ?_
      rintro e w13 ⟨rfl, hb⟩
      rw [decide_eq_true rfl]
      have HBD := Lib.hid (HBC.out.trans (hb.mono HBC.out.size))
      clear hb HE9C
      go_wp2_with fail
      refine (used_dead (HD.out _ HBD.out)).mono ?_
      rintro e w14 ⟨rfl, rfl⟩
      go_wp2_with fail
      refine (free_dead (HD.out _ HBD.out)).mono ?_
      rintro e w14 ⟨rfl, rfl⟩
      go_wp2
      go_roundw
      case rel => exact ⟨kk + 1, by omega, by go_num, HBD.out⟩
      case measure => simp [intOf]; omega
    · have hki : ¬ (kk : Int) < 2 := by omega
      clear hk hkk
      have HF := Lib.hid (HB3.out.trans (HBR.out.mono HB3.out.size))
      clear HB3 LK3 BX LK HB1
      by_cases hsz : size < 2 ∨ 1048576 < size
      · have HN := Lib.hid (newH_bad size wr hsz)
        go_wp2_with fail
        refine HN.out.mono ?_
        rintro e w4 ⟨ev, rfl, her, hb⟩
        obtain ⟨bq, u, rfl, _⟩ := her
        have HF4 := Lib.hid (HF.out.trans (hb.mono HF.out.size))
        clear hb
        rcases hsz with h | h
        · go_wp2_with fail
          refine (alive03_any _ (HG.out.below HF4.out)).mono ?_
          rintro e w7 ⟨rfl, hb7⟩
          have HB7 := Lib.hid (HF4.out.trans (hb7.mono HF4.out.size))
          clear hb7
          go_wp2
          go_ret
          exact ⟨rfl, HB7.out⟩
        · have h' : ¬ size < 2 := by omega
          go_wp2_with fail
          refine (alive03_any _ (HG.out.below HF4.out)).mono ?_
          rintro e w7 ⟨rfl, hb7⟩
          have HB7 := Lib.hid (HF4.out.trans (hb7.mono HF4.out.size))
          clear hb7
          go_wp2
          go_ret
          exact ⟨rfl, HB7.out⟩
      · have HN := Lib.hid (newH_good size wr (by omega) (by omega))
        have hq : size.tdiv 2 = (((size / 2).toNat : Nat) : Int) := by rw [Int.tdiv_eq_ediv_of_nonneg (by omega)]; omega
        have hwr : IntKind.i64.wrap (((size / 2).toNat : Nat) : Int) = (((size / 2).toNat : Nat) : Int) := IntWalk.i64_in _ (by omega)
        generalize (size / 2).toNat = half at *
        go_wp2_with fail
        refine HN.out.mono ?_
        rintro e w4 ⟨g, rfl, hp4, hb4⟩
        have HF4 := Lib.hid (HF.out.trans (hb4.mono HF.out.size))
        obtain ⟨F, hpF, hFN⟩ : ∃ F : Nat → Prop, HpIs half zeroH g F w4 ∧ ∀ q, F q → w.heap.size ≤ q := ⟨_, hp4, fun q hq => by have := HF.out.size; have := hq.1; omega⟩
        have HP4 := Lib.hid hpF
        have HFN := Lib.hid hFN
        clear hp4 hb4 HN hpF hFN
        go_wp2_with fail
        refine (termTop_any (by intro s hs; cases hs) a _ HP4.out HA64.out).mono ?_
        rintro e w5 ⟨vs5, ev5, rfl, _, _, hb5⟩
        have HP5 := Lib.hid (HP4.out.below hb5)
        have HF5 := Lib.hid (HF4.out.trans (hb5.mono HF4.out.size))
        clear hb5 HP4
        go_wp2_with fail
        refine (split_any b _ HP5.out HB64.out).mono ?_
        rintro e w6 ⟨ev6, rfl, _, hb6⟩
        have HP6 := Lib.hid (HP5.out.below hb6)
        have HF6 := Lib.hid (HF5.out.trans (hb6.mono HF5.out.size))
        clear hb6 HP5
        go_wp2_with fail
        refine (elem_any a k _ HP6.out HA64.out).mono ?_
        rintro e w7 ⟨ev7, rfl, _, hb7⟩
        have HP7 := Lib.hid (HP6.out.below hb7)
        have HF7 := Lib.hid (HF6.out.trans (hb7.mono HF6.out.size))
        clear hb7 HP6
        go_wp2_with fail
        refine (cons_any a b _ HP7.out HA64.out HB64.out (Nat.zero_le _)).mono ?_
        rintro e w8 ⟨ev8, rfl, _, F8, hp8, hk8, hf8⟩
        have HP8 := Lib.hid hp8
        have HF8 := Lib.hid (below_keep HF7.out hk8 HF7.out.size HFN.out)
        have HFN8 := Lib.hid (show ∀ q, F8 q → w.heap.size ≤ q from fun q hq => by
          rcases hf8 q hq with e | e
          · exact HFN.out q e
          · have := HF7.out.size; omega)
        have HL8 := Lib.hid (cons_len half a b)
        clear hp8 hk8 hf8 HP7
        have HA := Lib.hid ((Below.refl w8.heap.size w8).alloc (Nat.le_refl _) (.cells #[.int .u64 a] 35 (0, 0)))
        have HLV := Lib.hid (show AtV (fun q => q = w8.heap.size) (.slice (some ⟨w8.heap.size, 0, none⟩) 1 1) (wordsV [a]) (w8.alloc (.cells #[.int .u64 a] 35 (0, 0))) from words_two_at (w := w8) [a] (by simp))
        have HSF := Lib.hid (show ∀ q, q = w8.heap.size → q < (w8.alloc (.cells #[.int .u64 a] 35 (0, 0))).heap.size ∧ ¬ F8 q from fun q hq => ⟨by simp; omega, fun e => by have := (HP8.out.nf q e).1; omega⟩)
        have HP9 := Lib.hid (HP8.out.below HA.out)
        have HF9 := Lib.hid (HF8.out.trans (HA.out.mono HF8.out.size))
        obtain ⟨h8, hh8⟩ : ∃ h8, (consTop half a b zeroH).2.2 = h8 := ⟨_, rfl⟩
        have HH8 := Lib.hid hh8
        rw [hh8] at HP9 HL8
        clear hh8
        go_wp2_with fail
        generalize w8.alloc (.cells #[.int .u64 a] 35 (0, 0)) = w9 at *
        refine (tuple_any [a] _ _ HP9.out HLV.out HSF.out (by intro q hq; simp at hq; rw [hq]; exact HA64.out) HL8.out).mono ?_
        rintro e w10 ⟨ev10, rfl, _, F10, hp10, hk10, hf10⟩
        have HPA := Lib.hid hp10
        have HFA := Lib.hid (below_keep HF9.out hk10 HF9.out.size HFN8.out)
        have HFNA := Lib.hid (show ∀ q, F10 q → w.heap.size ≤ q from fun q hq => by
          rcases hf10 q hq with e | e
          · exact HFN8.out q e
          · have := HF9.out.size; omega)
        rw [← HH8.out] at HPA
        replace HPA := Lib.hid (show HpIs half (anyH half a b) g F10 w10 from HPA.out)
        have HLA := Lib.hid (anyH_cases half a b).2.1
        have HCL := Lib.hid (anyH_collect half a b)
        clear hp10 hk10 hf10 HP9 HA HLV HSF HP8 HL8
        generalize anyH half a b = hA at *
        have HA := Lib.hid ((Below.refl w10.heap.size w10).alloc (Nat.le_refl _) (.cells #[.int .u64 a, .int .u64 b] 35 (0, 0)))
        have HLV := Lib.hid (show AtV (fun q => q = w10.heap.size) (.slice (some ⟨w10.heap.size, 0, none⟩) 2 2) (wordsV [a, b]) (w10.alloc (.cells #[.int .u64 a, .int .u64 b] 35 (0, 0))) from words_two_at (w := w10) [a, b] (by simp))
        have HSF := Lib.hid (show ∀ q, q = w10.heap.size → q < (w10.alloc (.cells #[.int .u64 a, .int .u64 b] 35 (0, 0))).heap.size from fun q hq => by simp; omega)
        have HPB := Lib.hid (HPA.out.below HA.out)
        have HFB := Lib.hid (HFA.out.trans (HA.out.mono HFA.out.size))
        go_wp2_with fail
        generalize w10.alloc (.cells #[.int .u64 a, .int .u64 b] 35 (0, 0)) = w11 at *
        refine (collect_any [a, b] _ _ HPB.out HLV.out HSF.out (by intro q hq; simp at hq; rcases hq with rfl | rfl; exact HA64.out; exact HB64.out) HLA.out (by simp)).mono ?_
        rintro e w12 ⟨ov, rfl, _, F12, hp12, hk12, hf12⟩
        have HPC := Lib.hid hp12
        have HFC := Lib.hid (below_keep HFB.out hk12 HFB.out.size HFNA.out)
        clear hp12 hk12 hf12
        generalize collectC hA [a, b] = cA at *
        have hcl : ((cA.2.l.length : Nat) : Int) ≤ (half : Int) := by have := HCL.out; omega
        have HU := Lib.hid (used_live HPC.out)
        generalize cA.2.l.length = LC at *
        go_wp2_with fail
        refine HU.out.mono ?_
        rintro e w13 ⟨rfl, rfl⟩
        go_wp2_with fail
        refine (alive03_any _ (HG.out.below HFC.out)).mono ?_
        rintro e w14 ⟨rfl, hb14⟩
        have HBE := Lib.hid (HFC.out.trans (hb14.mono HFC.out.size))
        clear hb14
        go_wp2
        go_ret
        exact ⟨rfl, HBE.out⟩
theorem heapNobody_int (size a b k : Int) (w : World) (ha : 0 ≤ a) (ha2 : a < 18446744073709551616) (hb : 0 ≤ b) (hb2 : b < 18446744073709551616) (hG : Gt w) :
    Calls Tryd.prog 4 #[.int .i64 size, .int .u64 a, .int .u64 b, .int .i64 k] w fun e w' => e = .returned (.bool true) ∧ Below w.heap.size w w' := by
  obtain ⟨m, rfl⟩ := Int.eq_ofNat_of_zero_le ha
  obtain ⟨n, rfl⟩ := Int.eq_ofNat_of_zero_le hb
  exact heapNobody_any size m n k w hG (by omega) (by omega)
end Go.Proofs.YtkipjbmckpmmfaaDoor
end
