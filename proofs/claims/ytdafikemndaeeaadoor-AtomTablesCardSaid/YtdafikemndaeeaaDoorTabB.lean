/- Package atom: Put of a table; the reference's table. -/
import Derived.Test.YtdafikemndaeeaaDoorTabA
open Go Go.RowKit
namespace Go.Proofs.YtdafikemndaeeaaDoor

theorem quoteS_err (s : ByteArray) : (quoteS s).2 = [] ∨ ∃ a c, (quoteS s).2 = [⟨atomL, a, c⟩] := by
  unfold quoteS; (repeat' split) <;> first | exact .inl rfl | exact .inr ⟨_, _, rfl⟩

def RetPut (limit : Int) (g : Nat) (F : Nat → Prop) (w : World) (r : Int × List Lk × List ByteArray) (e : Ending) (w' : World) : Prop :=
  ∃ ev F', e = .returned (.tuple #[.int .i64 r.1, ev]) ∧ ErrIs w' ev r.2.1 ∧ TabIs limit g r.2.2 F' w' ∧ Keep F w w' ∧ ∀ b, F' b → F b ∨ w.heap.size ≤ b
section
variable {limit : Int} {g : Nat} {l : List ByteArray} {F : Nat → Prop} {w : World}

set_option maxHeartbeats 4000000 in
set_option maxRecDepth 100000 in
theorem put_bad (h : TabIs limit g l F w) (s : ByteArray) (hs : s.size ≤ 140737488351232) (hT : Lib.Utf8Tabs 2 3 w) (hE : ErrT w) (hq : (quoteS s).2 ≠ []) :
    Calls Tryd.prog 33 #[.pointer (some ⟨g, 0, none⟩), .string s] w (RetPut limit g F w (putS limit l s)) := by
  have HP := Lib.hid (show putS limit l s = (0, (quoteS s).2, l) by unfold putS; rw [if_pos hq])
  have HH := Lib.hid h
  obtain ⟨⟨sv, mb, h1, h2, h3, h4, h5, h6⟩, hlo, hnf⟩ := h
  have HO := Lib.hid (ok_live g w _ h1)
  have hb0 : Below w.heap.size w (w.alloc (.cells #[.pointer none] 105 (0, 0))) := (Below.refl _ _).alloc (Nat.le_refl _) _
  have HQ := Lib.hid (quote_any s (w.alloc (.cells #[.pointer none] 105 (0, 0))) (by unfold maxLen; omega) (Utf8Tabs_below hT hb0))
  have HE := Lib.hid hE
  obtain ⟨a, c, hqe⟩ : ∃ a c, (quoteS s).2 = [⟨atomL, a, c⟩] := (quoteS_err s).resolve_left hq
  have HQE := Lib.hid hqe
  clear h1 h2 h3 hnf hE hq hqe hT hb0
  go_enter Tryd.func33, Tryd.ntmps33
  go_wp2_with (first | (go_at_call 67; refine HO.out.mono ?_; rintro e w' ⟨rfl, rfl⟩))
  refine HQ.out.mono ?_
  rintro e w1 ⟨ev, rfl, her, hb1⟩
  rw [HQE.out] at her
  obtain ⟨b, u, rfl, hc, hu⟩ := her
  have hf1 := (hb1.block w.heap.size (by simp)).trans (alloc_get w (.cells #[.pointer none] 105 (0, 0)))
  have hE1 := HE.out.below (((Below.refl _ w).alloc (Nat.le_refl _) (.cells #[.pointer none] 105 (0, 0))).trans (hb1.mono (by simp)))
  have HA := Lib.hid (as_hit2 b w.heap.size w1 hE1 hf1)
  have K1 := Lib.hid ((((Keep.refl Nob w).alloc (.cells #[.pointer none] 105 (0, 0))).below hb1))
  have hwz := hb1.size
  simp at hwz
  have HC := Lib.hid hc
  have HF1 := Lib.hid hf1
  clear hc hf1 hu hb1 hE1
  go_wp2_with fail
  refine HA.out.mono ?_
  rintro e w2 ⟨rfl, hg, hf⟩
  have hne : b ≠ w.heap.size := by
    rintro rfl
    have h1 := HC.out
    rw [HF1.out] at h1
    injection h1 with h1
    injection h1 with _ h1
    exact absurd h1 (by decide)
  have hblt : b < w1.heap.size := (Array.getElem?_eq_some_iff.1 HC.out).1
  have hc2 := (hg.block b hblt (by simp; exact hne)).trans HC.out
  have K2 := Lib.hid (K1.out.grown hg (fun k hk hlt => by simp at hk; omega))
  have c0 := cell_of_block hf 0
  have d1 := cell_of_block hc2 1
  have d2 := cell_of_block hc2 2
  simp only [List.getElem?_toArray, List.getElem?_cons_zero, List.getElem?_cons_succ] at c0 d1 d2
  have hwf : w.heap.size < w2.heap.size := (Array.getElem?_eq_some_iff.1 hf).1
  have hwb : b < w2.heap.size := (Array.getElem?_eq_some_iff.1 hc2).1
  clear hg hf hc2 hblt
  go_wp2
  go_region_held3 (fun w' => w'.cell? ⟨w.heap.size, 0, none⟩ = some (.pointer (some ⟨b, 0, none⟩)) ∧ w'.cell? ⟨b, 1, none⟩ = some (.int .i64 a) ∧ w'.cell? ⟨b, 2, none⟩ = some (.int .i64 c))
    (go_keep)
    ((go_at_call 48; refine (refused_any _ _ _).mono ?_; rintro e w3 ⟨rfl, rfl⟩))
  go_wp2
  go_ret2
  rw [HP.out, HQE.out]
  have K3 := (K2.out.drewN 1).alloc (.cells #[.string atomL, .int .i64 a, .int .i64 c, .nilIface] 109 (0, 0))
  exact ⟨_, F, rfl, ErrIs.one, HH.out.keep K3 (fun _ h => h.elim), K3.more (fun _ _ h => h.elim), fun b hb => .inl hb⟩

set_option maxHeartbeats 4000000 in
set_option maxRecDepth 100000 in
theorem put_there (h : TabIs limit g l F w) (s : ByteArray) (hs : s.size ≤ 140737488351232) (hT : Lib.Utf8Tabs 2 3 w) (hq : (quoteS s).2 = []) (i : Int) (hi : idxM l s.data.toList = some i) :
    Calls Tryd.prog 33 #[.pointer (some ⟨g, 0, none⟩), .string s] w (RetPut limit g F w (putS limit l s)) := by
  have HP := Lib.hid (show putS limit l s = (i, [], l) by unfold putS; rw [if_neg (by simp [hq]), hi])
  have HH := Lib.hid h
  obtain ⟨⟨sv, mb, h1, h2, h3, h4, h5, h6⟩, hlo, hnf⟩ := h
  have HO := Lib.hid (ok_live g w _ h1)
  have hb0 : Below w.heap.size w (w.alloc (.cells #[.pointer none] 105 (0, 0))) := (Below.refl _ _).alloc (Nat.le_refl _) _
  have HQ := Lib.hid (quote_any s (w.alloc (.cells #[.pointer none] 105 (0, 0))) (by unfold maxLen; omega) (Utf8Tabs_below hT hb0))
  have H1 := Lib.hid h1
  have H3 := Lib.hid h3
  have HQE := Lib.hid hq
  have HI := Lib.hid hi
  clear h1 h2 h3 hnf hq hT hb0 hi
  go_enter Tryd.func33, Tryd.ntmps33
  go_wp2_with (first | (go_at_call 67; refine HO.out.mono ?_; rintro e w' ⟨rfl, rfl⟩))
  refine HQ.out.mono ?_
  rintro e w1 ⟨ev, rfl, her, hb1⟩
  rw [HQE.out] at her
  obtain rfl : ev = .nilIface := her
  have K1 := Lib.hid ((((Keep.refl Nob w).alloc (.cells #[.pointer none] 105 (0, 0))).below hb1))
  have hwz := hb1.size
  simp at hwz
  have c3 := (H1.out.keep K1.out (fun e => e.elim)).cell 3
  simp only [List.getElem?_cons_zero, List.getElem?_cons_succ] at c3
  have hl := (H3.out.keep K1.out (fun e => e.elim)).look s (by unfold maxLen; omega)
  rw [HI.out] at hl
  clear hb1
  go_wp2_with fail
  refine (as_nil _ _).mono ?_
  rintro e w2 ⟨rfl, rfl⟩
  go_wp2
  go_ret2
  rw [HP.out]
  exact ⟨_, F, rfl, rfl, HH.out.keep K1.out (fun _ h => h.elim), K1.out.more (fun _ _ h => h.elim), fun b hb => .inl hb⟩

set_option maxHeartbeats 4000000 in
set_option maxRecDepth 100000 in
theorem put_full (h : TabIs limit g l F w) (s : ByteArray) (hs : s.size ≤ 140737488351232) (hT : Lib.Utf8Tabs 2 3 w) (hq : (quoteS s).2 = []) (hi : idxM l s.data.toList = none) (hf : (l.length : Int) = limit) :
    Calls Tryd.prog 33 #[.pointer (some ⟨g, 0, none⟩), .string s] w (RetPut limit g F w (putS limit l s)) := by
  have HP := Lib.hid (show putS limit l s = (0, [⟨atomL, 0, 5⟩], l) by unfold putS; rw [if_neg (by simp [hq]), hi]; simp only; rw [if_neg (by omega)])
  have HH := Lib.hid h
  obtain ⟨⟨sv, mb, h1, h2, h3, h4, h5, h6⟩, hlo, hnf⟩ := h
  have HO := Lib.hid (ok_live g w _ h1)
  have hb0 : Below w.heap.size w (w.alloc (.cells #[.pointer none] 105 (0, 0))) := (Below.refl _ _).alloc (Nat.le_refl _) _
  have HQ := Lib.hid (quote_any s (w.alloc (.cells #[.pointer none] 105 (0, 0))) (by unfold maxLen; omega) (Utf8Tabs_below hT hb0))
  have H1 := Lib.hid h1
  have H3 := Lib.hid h3
  have HQE := Lib.hid hq
  have HI := Lib.hid hi
  have hz : ((limit - l.length) == 0) = true := by simp; omega
  clear h1 h2 h3 hnf hq hT hb0 hi hf
  go_enter Tryd.func33, Tryd.ntmps33
  go_wp2_with (first | (go_at_call 67; refine HO.out.mono ?_; rintro e w' ⟨rfl, rfl⟩))
  refine HQ.out.mono ?_
  rintro e w1 ⟨ev, rfl, her, hb1⟩
  rw [HQE.out] at her
  obtain rfl : ev = .nilIface := her
  have K1 := Lib.hid ((((Keep.refl Nob w).alloc (.cells #[.pointer none] 105 (0, 0))).below hb1))
  have HFr := Lib.hid (free_live (HH.out.keep K1.out (fun _ h => h.elim)))
  have hwz := hb1.size
  simp at hwz
  have c3 := (H1.out.keep K1.out (fun e => e.elim)).cell 3
  simp only [List.getElem?_cons_zero, List.getElem?_cons_succ] at c3
  have hl := (H3.out.keep K1.out (fun e => e.elim)).look s (by unfold maxLen; omega)
  rw [HI.out] at hl
  clear hb1
  go_wp2_with fail
  refine (as_nil _ _).mono ?_
  rintro e w2 ⟨rfl, h2⟩
  subst h2
  go_wp2_with fail
  refine HFr.out.mono ?_
  rintro e w3 ⟨rfl, n, rfl⟩
  go_wp2_with (go_at_call 48; refine (refused_any _ _ _).mono ?_; rintro e w' ⟨rfl, rfl⟩)
  go_ret2
  rw [HP.out]
  have K3 := (K1.out.drewN n).alloc (.cells #[.string atomL, .int .i64 0, .int .i64 5, .nilIface] 109 (0, 0))
  exact ⟨_, F, rfl, ErrIs.one, HH.out.keep K3 (fun _ h => h.elim), K3.more (fun _ _ h => h.elim), fun b hb => .inl hb⟩

set_option maxHeartbeats 4000000 in
set_option maxRecDepth 100000 in
theorem put_new (h : TabIs limit g l F w) (s : ByteArray) (hs : s.size ≤ 140737488351232) (hT : Lib.Utf8Tabs 2 3 w) (hq : (quoteS s).2 = []) (hi : idxM l s.data.toList = none) (hf : (l.length : Int) < limit) :
    Calls Tryd.prog 33 #[.pointer (some ⟨g, 0, none⟩), .string s] w (RetPut limit g F w (putS limit l s)) := by
  have HP := Lib.hid (show putS limit l s = ((l.length : Int), [], l ++ [s]) by unfold putS; rw [if_neg (by simp [hq]), hi]; simp only; rw [if_pos hf])
  have HH := Lib.hid h
  obtain ⟨⟨sv, mb, h1, h2, h3, h4, h5, h6⟩, hlo, hnf⟩ := h
  have HO := Lib.hid (ok_live g w _ h1)
  have hb0 : Below w.heap.size w (w.alloc (.cells #[.pointer none] 105 (0, 0))) := (Below.refl _ _).alloc (Nat.le_refl _) _
  have HQ := Lib.hid (quote_any s (w.alloc (.cells #[.pointer none] 105 (0, 0))) (by unfold maxLen; omega) (Utf8Tabs_below hT hb0))
  have H1 := Lib.hid h1
  have H2 := Lib.hid h2
  have H3 := Lib.hid h3
  have HQE := Lib.hid hq
  have HI := Lib.hid hi
  have hz : ((limit - l.length) == 0) = false := by simp; omega
  have hll : l.length ≤ 1048576 := by omega
  have HNF := Lib.hid hnf
  have HLO := Lib.hid hlo
  have H6 := Lib.hid h6
  clear h1 h2 h3 hnf hq hT hb0 hi hlo h6
  go_enter Tryd.func33, Tryd.ntmps33
  go_wp2_with (first | (go_at_call 67; refine HO.out.mono ?_; rintro e w' ⟨rfl, rfl⟩))
  refine HQ.out.mono ?_
  rintro e w1 ⟨ev, rfl, her, hb1⟩
  rw [HQE.out] at her
  obtain rfl : ev = .nilIface := her
  have K1 := Lib.hid ((((Keep.refl Nob w).alloc (.cells #[.pointer none] 105 (0, 0))).below hb1))
  have HFr := Lib.hid (free_live (HH.out.keep K1.out (fun _ h => h.elim)))
  have hwz := hb1.size
  simp at hwz
  have C1 := Lib.hid (H1.out.keep K1.out (fun e => e.elim))
  have c3 := C1.out.cell 3
  simp only [List.getElem?_cons_zero, List.getElem?_cons_succ] at c3
  have hl := (H3.out.keep K1.out (fun e => e.elim)).look s (by unfold maxLen; omega)
  rw [HI.out] at hl
  clear hb1
  go_wp2_with fail
  refine (as_nil _ _).mono ?_
  rintro e w2 ⟨rfl, h2⟩
  subst h2
  go_wp2_with fail
  refine HFr.out.mono ?_
  rintro e w3 ⟨rfl, n, rfl⟩
  clear c3 hl
  have c2 := C1.out.cell 2
  have c3 := C1.out.cell 3
  simp only [List.getElem?_cons_zero, List.getElem?_cons_succ] at c2 c3
  have S1 := Lib.hid (H2.out.keep K1.out (fun _ _ e => e.elim))
  have M1 := Lib.hid (H3.out.keep K1.out (fun e => e.elim))
  have hsl := run_strs_len S1.out
  have hwf := Lib.hid (show (Lit.int .i64 (l.length : Int)).wf = true from WalkArith.wf_i64 (by omega))
  obtain ⟨w5, hrun5, hm5, hg5⟩ := (M1.out.drewN (n + 1)).set_ s (by unfold maxLen; omega) l.length hwf.out (by unfold maxLen; omega)
  have nmb : mb ≠ g := fun e => (M1.out.ne_cells C1.out) e.symm
  have nsv : sv.ownBlock ≠ some g := S1.out.ne_cells C1.out (by decide)
  have nsm : sv.ownBlock ≠ some mb := fun e => by
    obtain ⟨_, cur, hcur⟩ := S1.out.lt e
    exact M1.out.ne_cells hcur rfl
  have C5 := Lib.hid ((C1.out.frame (w' := w5) (hg5.block g (by simpa using C1.out.lt) (by simp; exact fun e => nmb e.symm))))
  have e2 := C5.out.cell 2
  have e3 := C5.out.cell 3
  simp only [List.getElem?_cons_zero, List.getElem?_cons_succ] at e2 e3
  have HG5 := Lib.hid hg5
  have HM5 := Lib.hid hm5
  clear hg5 hm5
  go_wp2
  go_region_held3 (fun w' => w'.cell? ⟨g, 3, none⟩ = some (.map (some mb)) ∧ w'.cell? ⟨g, 2, none⟩ = some sv) (go_keep) (fail)
  have hg5 := HG5.out
  have hm5 := HM5.out
  clear e2 e3
  have S5 := Lib.hid (S1.out.frame (w' := w5) (fun b hb => hg5.block b (by simpa using (S1.out.lt hb).1) (by rw [← hb]; exact nsm)))
  have K5 := Lib.hid ((K1.out.more (S' := F) (fun _ _ h => h.elim)).trans ((((Keep.refl F _).drewN (n + 1))).grown hg5 (fun k hk _ => by cases hk; exact h5)) (fun _ _ h => h))
  have M5 := Lib.hid hm5
  obtain ⟨v', w6, hrun, hs6, hg6, hat⟩ := S5.out.app s (by omega)
  have S6 := Lib.hid hs6
  have hw5 := K5.out.size
  have K6 := Lib.hid ((K5.out.alloc (.cells #[.string s] 9 (0, 0))).grown hg6 (fun k hk _ => H6.out k hk))
  have C6 := Lib.hid ((C5.out.alloc (.cells #[.string s] 9 (0, 0))).grown hg6 nsv)
  have M6 := Lib.hid ((M5.out.alloc (.cells #[.string s] 9 (0, 0))).frame (w' := w6) (hg6.block mb (by have := M5.out.lt; simp; omega) (Ne.symm nsm)))
  have HAT := Lib.hid hat
  have c2' := C5.out.cell 2
  have d2 := C6.out.cell 2
  have f2 := C6.out.frozen 2
  have hl5 := run_strs_len S6.out
  simp only [List.getElem?_cons_zero, List.getElem?_cons_succ] at c2' d2
  simp only [List.length_append, List.length_singleton] at hl5
  clear hs6 hg6 hat hm5 hg5 c2 c3
  go_wp2_with (at_builtin; refine stop ?_)
  refine Stopped.of ?_
  refine wp_app_eq rfl (.tmp 61) (.tmp 63) _ _ rfl _ _ v' w6 rfl rfl hrun ?_
  clear hrun hl5
  obtain ⟨_, hno⟩ | ⟨sb, sc, hv', hsb, _, _⟩ := S6.out.shape
  · simp at hno
  obtain rfl := hv'
  have hl5 : ((l ++ [s]).length : Int) - 1 = l.length := by simp
  go_wp2
  go_ret2
  rw [HP.out]
  have S6' := S6.out
  have HAT' := HAT.out
  have hlen : (l ++ [s]).length = l.length + 1 := by simp
  rw [hlen] at S6' HAT'
  generalize hv' : (Value.slice (some ⟨sb, 0, none⟩) (l.length + 1) sc) = v' at *
  have CF := C6.out.set_ 2 v'
  have KF := K6.out.setCell (p := ⟨g, 2, none⟩) (fun _ => h4) v'
  have SF : StrsIs v' (l ++ [s]) (w6.setCell ⟨g, 2, none⟩ v') := S6'.frame fun b hb => Below.heap_setCell _ _ _ _ (by rintro rfl; exact S6'.ne_cells C6.out (by decide) hb)
  have MF := M6.out.frame (w' := w6.setCell ⟨g, 2, none⟩ v') (Below.heap_setCell _ _ _ _ nmb)
  rw [← idxM_snoc l s HI.out] at MF
  refine ⟨_, fun b => b = g ∨ b = mb ∨ v'.ownBlock = some b, rfl, rfl, ⟨⟨v', mb, by simpa using CF, SF, by simpa using MF, .inl rfl, .inr (.inl rfl), fun b hb => .inr (.inr hb)⟩, ?_, ?_⟩, KF, ?_⟩
  · have := HLO.out
    refine ⟨this.1, this.2.1, ?_⟩
    simp only [hlen]; omega
  · rintro b (rfl | rfl | hb)
    · exact ⟨CF.lt, NF.cells CF (by decide)⟩
    · exact ⟨MF.lt, NF.map MF⟩
    · exact ⟨(SF.lt hb).1, NF.strs SF hb⟩
  · rintro b (rfl | rfl | hb)
    · exact .inl h4
    · exact .inl h5
    · rcases HAT' with e | e
      · exact .inl (H6.out b (by rw [← e]; exact hb))
      · right
        rw [e] at hb
        have := Option.some.inj hb
        omega
end
end Go.Proofs.YtdafikemndaeeaaDoor
