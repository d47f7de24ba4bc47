/- Texts laid together: EdC, EdD, EdE, EdF, RfA, RfB, EdG, EdH. -/
import Derived.Test.YtlahagabcnmdiaaGreatDoorV22
import Derived.Test.YtlahagabcnmdiaaGreatDoorV17
import Derived.Test.YtlahagabcnmdiaaGreatDoorV16
import Derived.WalkSmall
import Derived.Test.YtlahagabcnmdiaaGreatDoorV21
import Derived.Test.YtlahagabcnmdiaaGreatDoorV2
import Derived.Test.YtlahagabcnmdiaaGreatDoorV11
import Derived.Laws.BitsLemmas
section
/- Package etf: the reader: text, of, name, count. Printed by wip/edc.py. -/
open Go Go.RowKit
namespace Go.Proofs.YtlahagabcnmdiaaGreatDoor
set_option linter.unusedVariables false
set_option linter.unusedSimpArgs false

theorem numS_one {l : List UInt8} (h : l.length = 1) : numS l = (l.getD 0 0).toNat := by
  match l, h with
  | [c], _ => simp [numS]
theorem cutB_get {l : List UInt8} {a n : Nat} (i : Nat) (h : i < n) (h2 : a + n ≤ l.length) : (cutB l a n).getD i 0 = l.getD (a + i) 0 := by
  unfold cutB
  rw [List.getD_eq_getElem?_getD, List.getD_eq_getElem?_getD, List.getElem?_take_of_lt h, List.getElem?_drop]
theorem cutB_take (l : List UInt8) (a n m : Nat) (h : n ≤ m) : (cutB l a m).take n = cutB l a n := by
  unfold cutB
  rw [List.take_take, Nat.min_eq_left h]
set_option maxHeartbeats 8000000 in
set_option maxRecDepth 100000 in
theorem text_true {base g : Nat} {l : List UInt8} {bv av : Value} {st : Rd} {w : World} (tag behind : Nat) (h : RdIs base g l bv st av w) (hb : behind ≤ 100) :
    Calls Tryz.prog 120 #[.pointer (some ⟨g, 0, none⟩), .int .i64 tag, .bool true, .int .i64 behind] w (RetR base g l bv av w (txtS l tag true behind st) fun s v _ _ => v = .string s) := by
  have HN := Lib.hid (need_any tag 2 h (by omega))
  have HGL := Lib.hid h.cells.lt
  have HVL := Lib.hid (fun q (hq : av.ownBlock = some q) => (h.atoms.lt hq).1)
  have HOK := Lib.hid h.ok
  clear h
  go_enter Tryz.func120, Tryz.ntmps120
  go_wp2_with fail
  refine HN.out.mono ?_
  intro e w2 hr
  rcases needS_cases l tag 2 st with ⟨k, hk⟩ | ⟨hk, hle, hle6⟩
  · have HS := Lib.hid (show txtS l tag true behind st = .bad k by unfold txtS; rw [if_pos (by decide), hk]; rfl)
    rw [hk] at hr
    obtain ⟨b, rfl, hp⟩ := hr
    have HP := Lib.hid hp
    clear hp hk HN
    go_wp2
    rw [HS.out]
    exact ⟨rfl, b, rfl, HP.out⟩
  · have HS := Lib.hid (show txtS l tag true behind st = (needS l tag (numS (cutB l st.at_ 2) + behind) ⟨st.at_ + 2, st.part, st.atoms⟩).bind fun _ st2 => .ok ⟨(cutB l (st.at_ + 2) (numS (cutB l st.at_ 2))).toArray⟩ ⟨st2.at_ - behind, st2.part, st2.atoms⟩ by unfold txtS; rw [if_pos (by decide), hk]; rfl)
    rw [hk] at hr
    obtain ⟨sv, av2, rfl, hsv, hrr⟩ := hr
    have HRR := Lib.hid hrr
    have HLE := Lib.hid (numS_lt (cutB l st.at_ 2))
    rw [cutB_len hle] at HLE
    obtain ⟨sa, sc, rfl⟩ : ∃ a c, sv = .slice a (cutB l st.at_ 2).length c := by obtain ⟨a, c, e, _⟩ := hsv; exact ⟨a, c, e⟩
    have HNUM := Lib.hid (number_any _ _ w2 hsv (by rw [cutB_len hle]; omega))
    clear hrr hk HN hsv
    have hb0 : ((numS (cutB l st.at_ 2) : Nat) : Int) < 65536 := by have := HLE.out; omega
    have hb1 : (0 : Int) ≤ ((numS (cutB l st.at_ 2) : Nat) : Int) := by omega
    have hb2 : ((numS (cutB l st.at_ 2) : Nat) : Int) % 4294967296 = ((numS (cutB l st.at_ 2) : Nat) : Int) := by omega
    have hn0 : (0 : Int) ≤ (behind : Int) := by omega
    have hn1 : (behind : Int) ≤ 100 := by omega
    have HN2 := Lib.hid (need_any tag (numS (cutB l st.at_ 2) + behind) HRR.out.1 (by have := HLE.out; omega))
    generalize hNV : numS (cutB l st.at_ 2) = nv at *
    clear hNV
    rw [show ((nv + behind : Nat) : Int) = (nv : Int) + (behind : Int) by omega] at HN2
    go_wp2_with fail
    refine HNUM.out.mono ?_
    rintro e w3 ⟨rfl, rfl⟩
    go_wp2_with fail
    refine HN2.out.mono ?_
    intro e w4 hr
    rcases needS_cases l tag (nv + behind) ⟨st.at_ + 2, st.part, st.atoms⟩ with ⟨k, hk⟩ | ⟨hk, hle2, hle3⟩
    · rw [hk] at hr HS
      obtain ⟨b, rfl, he, hne, hkk⟩ := hr
      have HP := Lib.hid (RdRes.pan (e := .panicked _) HGL.out HVL.out HRR.out ⟨b, rfl, he, hne, hkk⟩)
      clear he hne hkk hk HN2
      go_wp2
      rw [HS.out]
      exact ⟨rfl, HP.out⟩
    · rw [hk] at hr HS
      obtain ⟨sv2, av4, rfl, hsv2, hrr2⟩ := hr
      have HR4 := Lib.hid (RdRes.trans HGL.out HVL.out HRR.out hrr2)
      obtain ⟨sv3, hsv3, _, _, hsl⟩ := hsv2.sub 0 nv (Nat.zero_le _) (by rw [cutB_len hle2]; omega)
      have hsl := hsl rfl
      have hcv := run_slice_string hsv3.slice
      rw [List.drop_zero, Nat.sub_zero, cutB_take _ _ _ _ (Nat.le_add_right _ _)] at hcv
      have c1 := HR4.out.1.cells.cell 1
      have f1 := HR4.out.1.cells.frozen 1
      simp only [List.getElem?_cons_zero, List.getElem?_cons_succ] at c1
      have HB := Lib.hid (HR4.out.1.place (st.at_ + 2 + nv) ⟨by dsimp only at hle3; show st.at_ + 2 + nv ≤ 65536; omega, by dsimp only at hle2; show st.at_ + 2 + nv ≤ l.length; omega, HOK.out.part, by have := HOK.out.atoms; show st.atoms.length ≤ st.at_ + 2 + nv; omega⟩)
      have HKK := Lib.hid (HR4.out.2.1.setCell (p := ⟨g, 1, none⟩) (fun _ => .inl rfl) (.int .i64 (st.at_ + 2 + nv : Nat)))
      have HVV := Lib.hid HR4.out.2.2
      have HS2 := Lib.hid (show txtS l tag true behind st = .ok ⟨(cutB l (st.at_ + 2) nv).toArray⟩ ⟨st.at_ + 2 + nv, st.part, st.atoms⟩ by
        rw [HS.out]; show Res.ok _ (Rd.mk _ _ _) = _; rw [show st.at_ + 2 + (nv + behind) - behind = st.at_ + 2 + nv by omega])
      obtain ⟨s2a, s2c, rfl⟩ : ∃ a c, sv2 = .slice a (cutB l (st.at_ + 2) (nv + behind)).length c := by obtain ⟨a, c, e, _⟩ := hsv2; exact ⟨a, c, e⟩
      obtain ⟨s3a, s3n, s3c, rfl⟩ : ∃ a n c, sv3 = .slice a n c := by obtain ⟨a, c, e, _⟩ := hsv3; exact ⟨a, _, c, e⟩
      have hx0 : ((st.at_ + 2 + (nv + behind) : Nat) : Int) = (st.at_ : Int) + 2 + (nv : Int) + (behind : Int) := by omega
      rw [hx0] at c1
      have hx1 : (st.at_ : Int) ≤ 65536 := by have := HOK.out.le; omega
      have hx2 : (0 : Int) ≤ (st.at_ : Int) := by omega
      generalize (cutB l (st.at_ + 2) (nv + behind)).length = m2 at *
      clear hsv2 hrr2 hsv3 hk HN2 HS hx0 hle hle2 hle3 hle6
      go_wp2
      go_ret
      rw [HS2.out]
      have e1 : (st.at_ : Int) + 2 + (nv : Int) = ((st.at_ + 2 + nv : Nat) : Int) := by omega
      rw [e1]
      exact ⟨_, av4, rfl, rfl, HB.out, HKK.out, HVV.out⟩
set_option maxHeartbeats 8000000 in
set_option maxRecDepth 100000 in
theorem text_false {base g : Nat} {l : List UInt8} {bv av : Value} {st : Rd} {w : World} (tag behind : Nat) (h : RdIs base g l bv st av w) (hb : behind ≤ 100) :
    Calls Tryz.prog 120 #[.pointer (some ⟨g, 0, none⟩), .int .i64 tag, .bool false, .int .i64 behind] w (RetR base g l bv av w (txtS l tag false behind st) fun s v _ _ => v = .string s) := by
  have HN := Lib.hid (need_any tag 1 h (by omega))
  have HGL := Lib.hid h.cells.lt
  have HVL := Lib.hid (fun q (hq : av.ownBlock = some q) => (h.atoms.lt hq).1)
  have HOK := Lib.hid h.ok
  clear h
  go_enter Tryz.func120, Tryz.ntmps120
  go_wp2_with fail
  refine HN.out.mono ?_
  intro e w2 hr
  rcases needS_cases l tag 1 st with ⟨k, hk⟩ | ⟨hk, hle, hle6⟩
  · have HS := Lib.hid (show txtS l tag false behind st = .bad k by unfold txtS; rw [if_neg (by decide), hk]; rfl)
    rw [hk] at hr
    obtain ⟨b, rfl, hp⟩ := hr
    have HP := Lib.hid hp
    clear hp hk HN
    go_wp2
    rw [HS.out]
    exact ⟨rfl, b, rfl, HP.out⟩
  · have HS := Lib.hid (show txtS l tag false behind st = (needS l tag (numS (cutB l st.at_ 1) + behind) ⟨st.at_ + 1, st.part, st.atoms⟩).bind fun _ st2 => .ok ⟨(cutB l (st.at_ + 1) (numS (cutB l st.at_ 1))).toArray⟩ ⟨st2.at_ - behind, st2.part, st2.atoms⟩ by unfold txtS; rw [if_neg (by decide), hk]; rfl)
    rw [hk] at hr
    obtain ⟨sv, av2, rfl, hsv, hrr⟩ := hr
    have HRR := Lib.hid hrr
    have HLE := Lib.hid (numS_lt (cutB l st.at_ 1))
    rw [cutB_len hle] at HLE
    obtain ⟨sa, sc, rfl⟩ : ∃ a c, sv = .slice a (cutB l st.at_ 1).length c := by obtain ⟨a, c, e, _⟩ := hsv; exact ⟨a, c, e⟩
    obtain ⟨q, o, rfl, hc⟩ := hsv.get 0 (by rw [cutB_len hle]; omega)
    rw [Nat.add_zero, ← numS_one (cutB_len hle)] at hc
    rw [cutB_len hle] at *
    clear hrr hk HN hsv
    have hb0 : ((numS (cutB l st.at_ 1) : Nat) : Int) < 65536 := by have := HLE.out; omega
    have hb1 : (0 : Int) ≤ ((numS (cutB l st.at_ 1) : Nat) : Int) := by omega
    have hb2 : ((numS (cutB l st.at_ 1) : Nat) : Int) % 4294967296 = ((numS (cutB l st.at_ 1) : Nat) : Int) := by omega
    have hn0 : (0 : Int) ≤ (behind : Int) := by omega
    have hn1 : (behind : Int) ≤ 100 := by omega
    have HN2 := Lib.hid (need_any tag (numS (cutB l st.at_ 1) + behind) HRR.out.1 (by have := HLE.out; omega))
    generalize hNV : numS (cutB l st.at_ 1) = nv at *
    clear hNV
    rw [show ((nv + behind : Nat) : Int) = (nv : Int) + (behind : Int) by omega] at HN2
    go_wp2_with fail
    refine HN2.out.mono ?_
    intro e w4 hr
    rcases needS_cases l tag (nv + behind) ⟨st.at_ + 1, st.part, st.atoms⟩ with ⟨k, hk⟩ | ⟨hk, hle2, hle3⟩
    · rw [hk] at hr HS
      obtain ⟨b, rfl, he, hne, hkk⟩ := hr
      have HP := Lib.hid (RdRes.pan (e := .panicked _) HGL.out HVL.out HRR.out ⟨b, rfl, he, hne, hkk⟩)
      clear he hne hkk hk HN2
      go_wp2
      rw [HS.out]
      exact ⟨rfl, HP.out⟩
    · rw [hk] at hr HS
      obtain ⟨sv2, av4, rfl, hsv2, hrr2⟩ := hr
      have HR4 := Lib.hid (RdRes.trans HGL.out HVL.out HRR.out hrr2)
      obtain ⟨sv3, hsv3, _, _, hsl⟩ := hsv2.sub 0 nv (Nat.zero_le _) (by rw [cutB_len hle2]; omega)
      have hsl := hsl rfl
      have hcv := run_slice_string hsv3.slice
      rw [List.drop_zero, Nat.sub_zero, cutB_take _ _ _ _ (Nat.le_add_right _ _)] at hcv
      have c1 := HR4.out.1.cells.cell 1
      have f1 := HR4.out.1.cells.frozen 1
      simp only [List.getElem?_cons_zero, List.getElem?_cons_succ] at c1
      have HB := Lib.hid (HR4.out.1.place (st.at_ + 1 + nv) ⟨by dsimp only at hle3; show st.at_ + 1 + nv ≤ 65536; omega, by dsimp only at hle2; show st.at_ + 1 + nv ≤ l.length; omega, HOK.out.part, by have := HOK.out.atoms; show st.atoms.length ≤ st.at_ + 1 + nv; omega⟩)
      have HKK := Lib.hid (HR4.out.2.1.setCell (p := ⟨g, 1, none⟩) (fun _ => .inl rfl) (.int .i64 (st.at_ + 1 + nv : Nat)))
      have HVV := Lib.hid HR4.out.2.2
      have HS2 := Lib.hid (show txtS l tag false behind st = .ok ⟨(cutB l (st.at_ + 1) nv).toArray⟩ ⟨st.at_ + 1 + nv, st.part, st.atoms⟩ by
        rw [HS.out]; show Res.ok _ (Rd.mk _ _ _) = _; rw [show st.at_ + 1 + (nv + behind) - behind = st.at_ + 1 + nv by omega])
      obtain ⟨s2a, s2c, rfl⟩ : ∃ a c, sv2 = .slice a (cutB l (st.at_ + 1) (nv + behind)).length c := by obtain ⟨a, c, e, _⟩ := hsv2; exact ⟨a, c, e⟩
      obtain ⟨s3a, s3n, s3c, rfl⟩ : ∃ a n c, sv3 = .slice a n c := by obtain ⟨a, c, e, _⟩ := hsv3; exact ⟨a, _, c, e⟩
      have hx0 : ((st.at_ + 1 + (nv + behind) : Nat) : Int) = (st.at_ : Int) + 1 + (nv : Int) + (behind : Int) := by omega
      rw [hx0] at c1
      have hx1 : (st.at_ : Int) ≤ 65536 := by have := HOK.out.le; omega
      have hx2 : (0 : Int) ≤ (st.at_ : Int) := by omega
      generalize (cutB l (st.at_ + 1) (nv + behind)).length = m2 at *
      clear hsv2 hrr2 hsv3 hk HN2 HS hx0 hle hle2 hle3 hle6
      go_wp2
      go_ret
      rw [HS2.out]
      have e1 : (st.at_ : Int) + 1 + (nv : Int) = ((st.at_ + 1 + nv : Nat) : Int) := by omega
      rw [e1]
      exact ⟨_, av4, rfl, rfl, HB.out, HKK.out, HVV.out⟩
theorem text_any {base g : Nat} {l : List UInt8} {bv av : Value} {st : Rd} {w : World} (tag : Nat) (wide : Bool) (behind : Nat) (h : RdIs base g l bv st av w) (hb : behind ≤ 100) :
    Calls Tryz.prog 120 #[.pointer (some ⟨g, 0, none⟩), .int .i64 tag, .bool wide, .int .i64 behind] w (RetR base g l bv av w (txtS l tag wide behind st) fun s v _ _ => v = .string s) := by
  cases wide with
  | true => exact text_true tag behind h hb
  | false => exact text_false tag behind h hb
theorem txtS_cases (l : List UInt8) (tag : Nat) (wide : Bool) (behind : Nat) (st : Rd) : (∃ k, txtS l tag wide behind st = .bad k) ∨ ∃ s n, txtS l tag wide behind st = .ok s ⟨n, st.part, st.atoms⟩ ∧ st.at_ + 1 + s.size ≤ n ∧ n + behind ≤ l.length ∧ n + behind ≤ 65536 := by
  unfold txtS
  rcases needS_cases l tag (if wide then 2 else 1) st with ⟨k, h⟩ | ⟨h, h1, h2⟩
  · exact .inl ⟨k, by rw [h]; rfl⟩
  · rw [h]
    simp only [Res.bind]
    rcases needS_cases l tag (numS (cutB l st.at_ (if wide = true then 2 else 1)) + behind) ⟨st.at_ + if wide then 2 else 1, st.part, st.atoms⟩ with ⟨k, h3⟩ | ⟨h3, h4, h5⟩
    · exact .inl ⟨k, by rw [h3]⟩
    · refine .inr ⟨_, _, by rw [h3], ?_, ?_, ?_⟩
      all_goals
        have e : ∀ n m : Nat, (⟨(cutB l m n).toArray⟩ : ByteArray).size ≤ n := fun n m => by show (cutB _ _ _).toArray.size ≤ n; simp [cutB]; omega
        have e2 := e (numS (cutB l st.at_ (if wide = true then 2 else 1))) (st.at_ + if wide then 2 else 1)
        have e3 : 1 ≤ (if wide = true then 2 else 1) := by split <;> omega
        dsimp only at *
        generalize numS (cutB l st.at_ (if wide = true then 2 else 1)) = nn at *
        generalize (if wide = true then 2 else 1) = mm at *
        generalize (⟨(cutB l (st.at_ + mm) nn).toArray⟩ : ByteArray).size = ss at *
        omega
/-- of: the fault around another layer's -/
theorem etOf_any (at_ : Int) (ev : Value) (k : Lk) (r : List Lk) (w : World) (her : ErrIs w ev (k :: r)) (hE : ErrT w) :
    Calls Tryz.prog 121 #[.int .i64 at_, ev] w fun e w' => ∃ b, e = .returned (.pointer (some ⟨b, 0, none⟩)) ∧ ErrIs w' (.iface 96 (.pointer (some ⟨b, 0, none⟩))) (⟨etfL, at_, k.code⟩ :: k :: r) ∧ Below w.heap.size w w' := by
  have HER := Lib.hid her
  obtain ⟨b, u, rfl, hc, hr⟩ := her
  have hb0 : Below w.heap.size w (w.alloc (.cells #[.pointer none] 96 (0, 0))) := (Below.refl _ _).alloc (Nat.le_refl _) _
  have HA := Lib.hid (as_hit2 b w.heap.size (w.alloc (.cells #[.pointer none] 96 (0, 0))) (hE.below hb0) (alloc_get _ _))
  have hblt : b < w.heap.size := (Array.getElem?_eq_some_iff.1 hc).1
  have HC := Lib.hid hc
  clear hc hr hE hb0
  have hnot : ∀ (x : Bool) (w : World), (Op.unary .not (.bool x)).run Tryz.prog w = .ok (.bool (!x)) w := fun _ _ => rfl
  go_enter Tryz.func121, Tryz.ntmps121
  go_wp2_with fail
  refine HA.out.mono ?_
  rintro e w2 ⟨rfl, hg, hf⟩
  have hb2 : Below w.heap.size w w2 := below_grownBy ((Below.refl _ w).alloc (Nat.le_refl _) _) hg (by simp) (Nat.le_refl _)
  have hc2 := (hb2.block b hblt).trans HC.out
  have c0 := cell_of_block hf 0
  have d2 := cell_of_block hc2 2
  simp only [List.getElem?_toArray, List.getElem?_cons_zero, List.getElem?_cons_succ] at c0 d2
  have HB2 := Lib.hid hb2
  have HFL := Lib.hid (etFault_any at_ k.code _ _ w2 (HER.out.below hb2))
  clear hg hf hb2 hc2
  go_wp2_with fail
  refine HFL.out.mono ?_
  rintro e w3 ⟨fb, rfl, her3, hb3⟩
  have HER3 := Lib.hid her3
  have HB3 := Lib.hid (HB2.out.trans (hb3.mono HB2.out.size))
  clear her3 hb3
  go_wp2
  go_ret
  exact ⟨fb, rfl, HER3.out, HB3.out⟩
/-- an atom more -/
theorem RdIs.app {base g : Nat} {l : List UInt8} {bv av : Value} {st : Rd} {w : World} (h : RdIs base g l bv st av w) (s : ByteArray) (hl : st.atoms.length + 1 ≤ st.at_) :
    ∃ a' n' c' w', (Builtin.append_ #[56, 56] 56 #[av, .slice (some ⟨w.heap.size, 0, none⟩) 1 1]).run Tryz.prog (w.alloc (.cells #[.string s] 9 (0, 0))) = .ok (.slice a' n' c') w' ∧ Cells w' g 173 [bv, .int .i64 st.at_, .int .i64 st.part, av] ∧
      RdRes base g l bv av w ⟨st.at_, st.part, st.atoms ++ [s]⟩ (.slice a' n' c') (w'.setCell ⟨g, 3, none⟩ (.slice a' n' c')) := by
  obtain ⟨v', w', hr, h2, hg, hob⟩ := h.atoms.app s (by have := h.ok.le; omega)
  obtain ⟨a', n', c', rfl⟩ : ∃ a n c, v' = .slice a n c := by
    rcases h2.shape with ⟨rfl, _⟩ | ⟨_, _, rfl, _⟩ <;> exact ⟨_, _, _, rfl⟩
  have hb1 : Below w.heap.size w (w.alloc (.cells #[.string s] 9 (0, 0))) := (Below.refl _ _).alloc (Nat.le_refl _) _
  have hC := (h.cells.below hb1).grown hg (fun e => h.ne e rfl)
  have hsz : (w.alloc (.cells #[.string s] 9 (0, 0))).heap.size = w.heap.size + 1 := by simp
  have hvg : ∀ q, (Value.slice a' n' c').ownBlock = some q → q ≠ g := fun q hq => by
    rcases hob with e | e
    · rw [e] at hq; exact h.ne hq
    · rw [e] at hq; cases hq; have := h.cells.lt; omega
  have hown : ∀ q, (Value.slice a' n' c').ownBlock = some q → av.ownBlock = some q ∨ w.heap.size ≤ q := fun q hq => by
    rcases hob with e | e
    · rw [e] at hq; exact .inl hq
    · rw [e] at hq; cases hq; exact .inr (Nat.le_succ _)
  have hk : Keep (LsK g av) w w' := (keepB hb1).grown hg (fun k hk _ => .inr hk)
  refine ⟨a', n', c', w', hr, hC, ⟨h.hg, hC.set_ 3 _, ?_, h.far, h2.frame fun q hq => Below.heap_setCell _ _ _ _ (hvg q hq), fun q hq => ?_, ⟨h.ok.le, h.ok.in_, h.ok.part, by rw [List.length_append]; exact hl⟩⟩, hk.setCell (p := ⟨g, 3, none⟩) (fun _ => .inl rfl) _, hown⟩
  · refine h.buf.far_keep h.far fun q hq => ?_
    rw [Below.heap_setCell _ _ _ _ (by have := h.hg; show q ≠ g; omega)]
    refine hk.block q (Nat.lt_of_lt_of_le hq h.base_le) fun e => ?_
    have := (h.lt e).2
    omega
  · rcases hown q hq with e | e
    · exact h.own q e
    · exact Nat.le_trans h.base_le e
/-- what errors and texts of atoms lean on, in old memory -/
structure GtB (base : Nat) (w : World) : Prop where
  gt : Gt w
  lt : ∀ b, Gb b → b < base
theorem GtB.res {base g : Nat} {l : List UInt8} {bv av : Value} {st : Rd} {w w' : World} (h : GtB base w) (hr : RdIs base g l bv st av w) (hk : Keep (LsK g av) w w') : GtB base w' :=
  ⟨h.gt.keep hk fun b hb e => by have := h.lt b hb; have := (hr.lt e).2; omega, h.lt⟩
theorem GtB.below {base : Nat} {w w' : World} (h : GtB base w) (hb : Below w.heap.size w w') : GtB base w' := ⟨h.gt.below hb, h.lt⟩
set_option maxHeartbeats 16000000 in
set_option maxRecDepth 100000 in
theorem name_any {base g : Nat} {l : List UInt8} {bv av : Value} {st : Rd} {w : World} (tag behind : Nat) (h : RdIs base g l bv st av w) (hb : behind ≤ 100) (hG : GtB base w) :
    Calls Tryz.prog 138 #[.pointer (some ⟨g, 0, none⟩), .int .i64 tag, .int .i64 behind] w (RetR base g l bv av w (namS l tag behind st) fun s v _ _ => v = .string s) := by
  have HN := Lib.hid (need_any tag 1 h (by omega))
  have HGL := Lib.hid h.cells.lt
  have HVL := Lib.hid (fun q (hq : av.ownBlock = some q) => (h.atoms.lt hq).1)
  have HOK := Lib.hid h.ok
  have HR0 := Lib.hid h
  have c1 := h.cells.cell 1
  simp only [List.getElem?_cons_zero, List.getElem?_cons_succ] at c1
  have HG := Lib.hid hG
  clear h hG
  go_enter Tryz.func138, Tryz.ntmps138
  go_wp2_with fail
  refine HN.out.mono ?_
  intro e w2 hr
  rcases needS_cases l tag 1 st with ⟨k, hk⟩ | ⟨hk, hle, hle6⟩
  · have HS := Lib.hid (show namS l tag behind st = .bad k by unfold namS; rw [hk]; rfl)
    rw [hk] at hr
    obtain ⟨b, rfl, hp⟩ := hr
    have HP := Lib.hid hp
    clear hp hk HN c1
    go_wp2
    rw [HS.out]
    exact ⟨rfl, b, rfl, HP.out⟩
  have HS := Lib.hid (show namS l tag behind st = if l.getD st.at_ 0 ≠ 118 ∧ l.getD st.at_ 0 ≠ 119 then .bad [⟨etfL, st.at_, 83⟩]
    else (txtS l tag (l.getD st.at_ 0 == 118) behind ⟨st.at_ + 1, st.part, st.atoms⟩).bind fun s st2 =>
      if (nodeS s).2.2 ≠ [] then .bad (ofS tag (nodeS s).2.2) else .ok s ⟨st2.at_, st2.part, st2.atoms ++ [s]⟩ by unfold namS; rw [hk]; rfl)
  rw [hk] at hr
  obtain ⟨sv, av2, rfl, hsv, hrr⟩ := hr
  have HRR := Lib.hid hrr
  obtain ⟨sa, sc, rfl⟩ : ∃ a c, sv = .slice a (cutB l st.at_ 1).length c := by obtain ⟨a, c, e, _⟩ := hsv; exact ⟨a, c, e⟩
  obtain ⟨q, o, rfl, hc⟩ := hsv.get 0 (by rw [cutB_len hle]; omega)
  rw [Nat.add_zero, cutB_get 0 (by omega) hle, Nat.add_zero] at hc
  rw [cutB_len hle] at *
  clear hrr hk HN hsv c1
  have HTX := Lib.hid (fun wide => text_any tag wide behind HRR.out.1 hb)
  have hkb : ((l.getD st.at_ 0).toNat : Int) < 256 := by have := (l.getD st.at_ 0).toNat_lt; omega
  by_cases hbad : l.getD st.at_ 0 ≠ 118 ∧ l.getD st.at_ 0 ≠ 119
  · rw [if_pos hbad] at HS
    have q1 : (((l.getD st.at_ 0).toNat : Int) != 118) = true := by
      have : (l.getD st.at_ 0).toNat ≠ 118 := fun e => hbad.1 (UInt8.toNat_inj.1 e)
      exact bne_iff_ne.2 (by omega)
    have q2 : (((l.getD st.at_ 0).toNat : Int) != 119) = true := by
      have : (l.getD st.at_ 0).toNat ≠ 119 := fun e => hbad.2 (UInt8.toNat_inj.1 e)
      exact bne_iff_ne.2 (by omega)
    generalize (l.getD st.at_ 0).toNat = kb at *
    have HST := Lib.hid (etStop_any (LsK g av2) g st.at_ 83 w2)
    clear hbad HTX
    go_wp2_with fail
    refine HST.out.mono ?_
    intro e w3 hp
    have HP := Lib.hid (RdRes.pan HGL.out HVL.out HRR.out hp)
    obtain ⟨b, rfl, _⟩ := hp
    go_wp2
    rw [HS.out]
    exact ⟨rfl, HP.out⟩
  rw [if_neg hbad] at HS
  by_cases e1 : l.getD st.at_ 0 = 118
  · rw [e1] at hc HS
    have hc : w2.cell? ⟨q, o, none⟩ = some (.int .u8 118) := hc
    rw [show ((118 : UInt8) == 118) = true from rfl] at HS
    clear hbad e1 hkb
    go_wp2_with fail
    refine (HTX.out true).mono ?_
    intro e w3 hr
    rcases txtS_cases l tag true behind ⟨st.at_ + 1, st.part, st.atoms⟩ with ⟨k, hk⟩ | ⟨s, n, hk, hn1, hn2, hn3⟩
    · rw [hk] at hr HS
      obtain ⟨b, rfl, he, hne, hkk⟩ := hr
      have HP := Lib.hid (RdRes.pan (e := .panicked _) HGL.out HVL.out HRR.out ⟨b, rfl, he, hne, hkk⟩)
      clear he hne hkk hk HTX
      go_wp2
      rw [HS.out]
      exact ⟨rfl, HP.out⟩
    rw [hk] at hr HS
    obtain ⟨_, av3, rfl, rfl, hrr3⟩ := hr
    have HR3 := Lib.hid (RdRes.trans HGL.out HVL.out HRR.out hrr3)
    have HG3 := Lib.hid (HG.out.res HR0.out HR3.out.2.1)
    have HND := Lib.hid (node_any s w3 (by dsimp only at hn1; omega))
    have HN1 := Lib.hid hn1
    clear hk hrr3 HTX hn1
    go_wp2_with fail
    refine HND.out.mono ?_
    rintro e w4 ⟨ev, rfl, her, hb4⟩
    have HB4 := Lib.hid hb4
    cases hne : (nodeS s).2.2 with
    | cons k r =>
      rw [hne] at her
      have HS2 := Lib.hid (show namS l tag behind st = .bad (⟨etfL, tag, k.code⟩ :: k :: r) from by rw [HS.out]; simp only [Res.bind]; rw [if_pos (by rw [hne]; simp), hne]; rfl)
      have HOF := Lib.hid (etOf_any tag ev k r w4 her (HG3.out.below hb4).gt.e)
      obtain ⟨eb, eu, rfl, _⟩ := her
      clear hne hb4
      go_wp2_with fail
      refine HOF.out.mono ?_
      rintro e w5 ⟨b, rfl, her5, hb5⟩
      have HP := Lib.hid (RdRes.pan (e := .panicked _) HGL.out HVL.out HR3.out ⟨b, rfl, her5, by simp, keepB (HB4.out.trans (hb5.mono HB4.out.size))⟩)
      clear her5 hb5 HOF
      go_wp2
      rw [HS2.out]
      exact ⟨rfl, HP.out⟩
    | nil =>
      rw [hne] at her
      obtain rfl : ev = .nilIface := her
      have HS2 := Lib.hid (show namS l tag behind st = .ok s ⟨n, st.part, st.atoms ++ [s]⟩ from by rw [HS.out]; simp only [Res.bind]; rw [if_neg (by rw [hne]; simp)])
      have HR4 := Lib.hid (HR3.out.1.below hb4)
      obtain ⟨a', n', c', w', hrun, hC, hres⟩ := HR4.out.app s (by have := HOK.out.atoms; have := HN1.out; show st.atoms.length + 1 ≤ n; omega)
      have HRUN := Lib.hid hrun
      have HC := Lib.hid hC
      have RES := Lib.hid (RdRes.trans HGL.out HVL.out (show RdRes base g l bv av w ⟨n, st.part, st.atoms⟩ av3 w4 from ⟨HR4.out, HR3.out.2.1.below hb4, HR3.out.2.2⟩) hres)
      obtain ⟨a3, c3, rfl⟩ := HR4.out.aform
      have b3 := HR4.out.cells.cell 3
      simp only [List.getElem?_cons_zero, List.getElem?_cons_succ] at b3
      clear hne hb4 hrun hC hres HND
      go_wp2_with (at_builtin; refine stop ?_)
      refine Stopped.of ?_
      refine wp_app_eq rfl (.tmp 53) (.tmp 55) _ _ rfl _ _ (.slice a' n' c') w' rfl rfl HRUN.out ?_
      have d3 := HC.out.cell 3
      have f3 := HC.out.frozen 3
      simp only [List.getElem?_cons_zero, List.getElem?_cons_succ] at d3
      go_wp2
      go_ret
      rw [HS2.out]
      exact ⟨_, _, rfl, rfl, RES.out⟩
  · have e2 : l.getD st.at_ 0 = 119 := Classical.byContradiction fun h => hbad ⟨e1, h⟩
    rw [e2] at hc HS
    have hc : w2.cell? ⟨q, o, none⟩ = some (.int .u8 119) := hc
    rw [show ((119 : UInt8) == 118) = false from rfl] at HS
    clear hbad e1 e2 hkb
    go_wp2_with fail
    refine (HTX.out false).mono ?_
    intro e w3 hr
    rcases txtS_cases l tag false behind ⟨st.at_ + 1, st.part, st.atoms⟩ with ⟨k, hk⟩ | ⟨s, n, hk, hn1, hn2, hn3⟩
    · rw [hk] at hr HS
      obtain ⟨b, rfl, he, hne, hkk⟩ := hr
      have HP := Lib.hid (RdRes.pan (e := .panicked _) HGL.out HVL.out HRR.out ⟨b, rfl, he, hne, hkk⟩)
      clear he hne hkk hk HTX
      go_wp2
      rw [HS.out]
      exact ⟨rfl, HP.out⟩
    rw [hk] at hr HS
    obtain ⟨_, av3, rfl, rfl, hrr3⟩ := hr
    have HR3 := Lib.hid (RdRes.trans HGL.out HVL.out HRR.out hrr3)
    have HG3 := Lib.hid (HG.out.res HR0.out HR3.out.2.1)
    have HND := Lib.hid (node_any s w3 (by dsimp only at hn1; omega))
    have HN1 := Lib.hid hn1
    clear hk hrr3 HTX hn1
    go_wp2_with fail
    refine HND.out.mono ?_
    rintro e w4 ⟨ev, rfl, her, hb4⟩
    have HB4 := Lib.hid hb4
    cases hne : (nodeS s).2.2 with
    | cons k r =>
      rw [hne] at her
      have HS2 := Lib.hid (show namS l tag behind st = .bad (⟨etfL, tag, k.code⟩ :: k :: r) from by rw [HS.out]; simp only [Res.bind]; rw [if_pos (by rw [hne]; simp), hne]; rfl)
      have HOF := Lib.hid (etOf_any tag ev k r w4 her (HG3.out.below hb4).gt.e)
      obtain ⟨eb, eu, rfl, _⟩ := her
      clear hne hb4
      go_wp2_with fail
      refine HOF.out.mono ?_
      rintro e w5 ⟨b, rfl, her5, hb5⟩
      have HP := Lib.hid (RdRes.pan (e := .panicked _) HGL.out HVL.out HR3.out ⟨b, rfl, her5, by simp, keepB (HB4.out.trans (hb5.mono HB4.out.size))⟩)
      clear her5 hb5 HOF
      go_wp2
      rw [HS2.out]
      exact ⟨rfl, HP.out⟩
    | nil =>
      rw [hne] at her
      obtain rfl : ev = .nilIface := her
      have HS2 := Lib.hid (show namS l tag behind st = .ok s ⟨n, st.part, st.atoms ++ [s]⟩ from by rw [HS.out]; simp only [Res.bind]; rw [if_neg (by rw [hne]; simp)])
      have HR4 := Lib.hid (HR3.out.1.below hb4)
      obtain ⟨a', n', c', w', hrun, hC, hres⟩ := HR4.out.app s (by have := HOK.out.atoms; have := HN1.out; show st.atoms.length + 1 ≤ n; omega)
      have HRUN := Lib.hid hrun
      have HC := Lib.hid hC
      have RES := Lib.hid (RdRes.trans HGL.out HVL.out (show RdRes base g l bv av w ⟨n, st.part, st.atoms⟩ av3 w4 from ⟨HR4.out, HR3.out.2.1.below hb4, HR3.out.2.2⟩) hres)
      obtain ⟨a3, c3, rfl⟩ := HR4.out.aform
      have b3 := HR4.out.cells.cell 3
      simp only [List.getElem?_cons_zero, List.getElem?_cons_succ] at b3
      clear hne hb4 hrun hC hres HND
      go_wp2_with (at_builtin; refine stop ?_)
      refine Stopped.of ?_
      refine wp_app_eq rfl (.tmp 53) (.tmp 55) _ _ rfl _ _ (.slice a' n' c') w' rfl rfl HRUN.out ?_
      have d3 := HC.out.cell 3
      have f3 := HC.out.frozen 3
      simp only [List.getElem?_cons_zero, List.getElem?_cons_succ] at d3
      go_wp2
      go_ret
      rw [HS2.out]
      exact ⟨_, _, rfl, rfl, RES.out⟩

end Go.Proofs.YtlahagabcnmdiaaGreatDoor
end
section
/- Package etf: the reader: count. -/
open Go Go.RowKit
namespace Go.Proofs.YtlahagabcnmdiaaGreatDoor
set_option linter.unusedVariables false
set_option linter.unusedSimpArgs false

theorem fourS_cases (l : List UInt8) (tag : Nat) (st : Rd) : (∃ k, fourS l tag st = .bad k) ∨ ∃ n, fourS l tag st = .ok n ⟨st.at_ + 4, st.part, st.atoms⟩ ∧ st.at_ + 4 ≤ l.length ∧ st.at_ + 4 ≤ 65536 := by
  unfold fourS
  rcases needS_cases l tag 4 st with ⟨k, h⟩ | ⟨h, h1, h2⟩
  · exact .inl ⟨k, by rw [h]; rfl⟩
  · exact .inr ⟨_, by rw [h]; rfl, h1, h2⟩
theorem u8_ne {k : UInt8} {n : Nat} (h : k ≠ UInt8.ofNat n) (hn : n < 256) : ((k.toNat : Int) == (n : Int)) = false := by
  refine beq_eq_false_iff_ne.2 fun e => h ?_
  have e : k.toNat = n := by omega
  rw [← e]; simp
set_option maxHeartbeats 8000000 in
set_option maxRecDepth 100000 in
theorem count_any {base g : Nat} {l : List UInt8} {bv av : Value} {st : Rd} {w : World} (tag : Nat) (k : UInt8) (h : RdIs base g l bv st av w) :
    Calls Tryz.prog 122 #[.pointer (some ⟨g, 0, none⟩), .int .i64 tag, .int .u8 k.toNat] w (RetR base g l bv av w (countS l tag k st) fun n v _ _ => v = .int .i64 n ∧ n < 4294967296) := by
  have HGL := Lib.hid h.cells.lt
  have HVL := Lib.hid (fun q (hq : av.ownBlock = some q) => (h.atoms.lt hq).1)
  by_cases hk : k = 104
  · subst hk
    have HN := Lib.hid (need_any tag 1 h (by omega))
    clear h
    go_enter Tryz.func122, Tryz.ntmps122
    rw [show (((104 : UInt8).toNat : Nat) : Int) = 104 from rfl]
    go_wp2_with fail
    refine HN.out.mono ?_
    intro e w2 hr
    rcases needS_cases l tag 1 st with ⟨k, hk⟩ | ⟨hk, hle, hle6⟩
    · have HS := Lib.hid (show countS l tag 104 st = .bad k by unfold countS; rw [if_pos rfl, hk]; rfl)
      rw [hk] at hr
      obtain ⟨b, rfl, hp⟩ := hr
      have HP := Lib.hid hp
      clear hp hk HN
      go_wp2
      rw [HS.out]
      exact ⟨rfl, b, rfl, HP.out⟩
    have HS := Lib.hid (show countS l tag 104 st = .ok (l.getD st.at_ 0).toNat ⟨st.at_ + 1, st.part, st.atoms⟩ by unfold countS; rw [if_pos rfl, hk]; rfl)
    rw [hk] at hr
    obtain ⟨sv, av2, rfl, hsv, hrr⟩ := hr
    have HRR := Lib.hid hrr
    obtain ⟨sa, sc, rfl⟩ : ∃ a c, sv = .slice a (cutB l st.at_ 1).length c := by obtain ⟨a, c, e, _⟩ := hsv; exact ⟨a, c, e⟩
    obtain ⟨q, o, rfl, hc⟩ := hsv.get 0 (by rw [cutB_len hle]; omega)
    rw [Nat.add_zero, cutB_get 0 (by omega) hle, Nat.add_zero] at hc
    rw [cutB_len hle] at *
    clear hrr hk HN hsv
    have HKB := Lib.hid (l.getD st.at_ 0).toNat_lt
    have hkb : ((l.getD st.at_ 0).toNat : Int) < 256 := by have := HKB.out; omega
    have hkb0 : (0 : Int) ≤ ((l.getD st.at_ 0).toNat : Int) := by omega
    generalize (l.getD st.at_ 0).toNat = kb at *
    go_wp2
    go_ret
    rw [HS.out]
    exact ⟨_, _, rfl, ⟨rfl, by have := HKB.out; omega⟩, HRR.out⟩
  · have q0 : ((k.toNat : Int) == 104) = false := u8_ne (n := 104) hk (by decide)
    have HF := Lib.hid (fourE_any tag h)
    have HST := Lib.hid (fun av2 w2 => etStop_any (LsK g av2) g tag 84 w2)
    have HC := Lib.hid (show countS l tag k st = (fourS l tag st).bind fun n st2 => if k = 108 ∧ n = 0 then .bad [⟨etfL, tag, 84⟩] else .ok n st2 by unfold countS; rw [if_neg hk])
    by_cases h8 : k = 108
    · subst h8
      clear h hk
      have q0 : ((108 : Int) == 104) = false := by decide
      go_enter Tryz.func122, Tryz.ntmps122
      rw [show (((108 : UInt8).toNat : Nat) : Int) = 108 from rfl]
      go_wp2_with fail
      refine HF.out.mono ?_
      intro e w2 hr
      rcases fourS_cases l tag st with ⟨k, hk⟩ | ⟨n, hk, _⟩
      · have HS := Lib.hid (show countS l tag 108 st = .bad k by rw [HC.out, hk]; rfl)
        rw [hk] at hr
        obtain ⟨b, rfl, hp⟩ := hr
        have HP := Lib.hid hp
        clear hp hk HF HC
        go_wp2
        rw [HS.out]
        exact ⟨rfl, b, rfl, HP.out⟩
      · rw [hk] at hr
        obtain ⟨_, av2, rfl, ⟨rfl, hn⟩, hrr⟩ := hr
        have HRR := Lib.hid hrr
        have HN := Lib.hid hn
        by_cases hn0 : n = 0
        · subst hn0
          have HS := Lib.hid (show countS l tag 108 st = .bad [⟨etfL, tag, 84⟩] by rw [HC.out, hk]; rfl)
          clear hk hrr HC HF hn
          rw [show (((0 : Nat)) : Int) = 0 from rfl]
          go_wp2_with fail
          refine (HST.out av2 _).mono ?_
          intro e w3 hp
          have HP := Lib.hid (RdRes.pan HGL.out HVL.out HRR.out hp)
          obtain ⟨b, rfl, _⟩ := hp
          go_wp2
          rw [HS.out]
          exact ⟨rfl, HP.out⟩
        · have HS := Lib.hid (show countS l tag 108 st = .ok n ⟨st.at_ + 4, st.part, st.atoms⟩ by rw [HC.out, hk]; simp only [Res.bind]; rw [if_neg (fun e => hn0 e.2)])
          have q1 : ((n : Int) == 0) = false := beq_eq_false_iff_ne.2 (by omega)
          have q2 : (n : Int) < 4294967296 := by omega
          have q3 : (0 : Int) ≤ (n : Int) := by omega
          clear hk hrr HC HF hn hn0
          go_wp2
          go_ret
          rw [HS.out]
          exact ⟨_, _, rfl, ⟨rfl, HN.out⟩, HRR.out⟩
    · have q1 : ((k.toNat : Int) == 108) = false := u8_ne (n := 108) h8 (by decide)
      have HK8 := Lib.hid h8
      clear h hk h8
      generalize hkv : (k.toNat : Int) = kv at *
      clear hkv
      go_enter Tryz.func122, Tryz.ntmps122
      go_wp2_with fail
      refine HF.out.mono ?_
      intro e w2 hr
      rcases fourS_cases l tag st with ⟨k2, hk⟩ | ⟨n, hk, _⟩
      · have HS := Lib.hid (show countS l tag k st = .bad k2 by rw [HC.out, hk]; rfl)
        rw [hk] at hr
        obtain ⟨b, rfl, hp⟩ := hr
        have HP := Lib.hid hp
        clear hp hk HF HC
        go_wp2
        rw [HS.out]
        exact ⟨rfl, b, rfl, HP.out⟩
      · rw [hk] at hr
        obtain ⟨_, av2, rfl, ⟨rfl, hn⟩, hrr⟩ := hr
        have HRR := Lib.hid hrr
        have HN := Lib.hid hn
        have HS := Lib.hid (show countS l tag k st = .ok n ⟨st.at_ + 4, st.part, st.atoms⟩ by rw [HC.out, hk]; simp only [Res.bind]; rw [if_neg (fun e => HK8.out e.1)])
        have q2 : (n : Int) < 4294967296 := by omega
        have q3 : (0 : Int) ≤ (n : Int) := by omega
        clear hk hrr HC HF hn
        go_wp2
        go_ret
        rw [HS.out]
        exact ⟨_, _, rfl, ⟨rfl, HN.out⟩, HRR.out⟩
end Go.Proofs.YtlahagabcnmdiaaGreatDoor
end
section
/- Package etf: the reader: a pid. Printed by wip/ede.py. -/
open Go Go.RowKit
namespace Go.Proofs.YtlahagabcnmdiaaGreatDoor
set_option linter.unusedVariables false
set_option linter.unusedSimpArgs false

theorem RdIs.frame {base g : Nat} {l : List UInt8} {bv av : Value} {st : Rd} {w w' : World} (h : RdIs base g l bv st av w) (hb : ∀ q, q = g ∨ av.ownBlock = some q ∨ q < base → w'.heap[q]? = w.heap[q]?) : RdIs base g l bv st av w' :=
  ⟨h.hg, (hb g (.inl rfl)).trans h.cells, h.buf.far_keep h.far fun q hq => hb q (.inr (.inr hq)), h.far, h.atoms.frame fun q hq => hb q (.inr (.inl hq)), h.own, h.ok⟩
theorem RdRes.ext {base g : Nat} {l : List UInt8} {bv av av1 : Value} {st : Rd} {w w1 w2 : World} (h : RdRes base g l bv av w st av1 w1) (hb : Below w1.heap.size w1 w2) : RdRes base g l bv av w st av1 w2 := ⟨h.1.below hb, h.2.1.below hb, h.2.2⟩
theorem RdRes.apart {base g : Nat} {l : List UInt8} {bv av av1 : Value} {st : Rd} {w w1 : World} (h : RdRes base g l bv av w st av1 w1) {B : Nat} (hB : B < w.heap.size) (hn : av.ownBlock ≠ some B) : av1.ownBlock ≠ some B := fun e => by
  rcases h.2.2 B e with e | e
  · exact hn e
  · omega
theorem Cells.res {base g B : Nat} {l : List UInt8} {bv av av1 : Value} {st : Rd} {w w1 : World} {T : TypeId} {cs : List Value} (hc : Cells w B T cs) (h : RdRes base g l bv av w st av1 w1) (hg : B ≠ g) (hn : av.ownBlock ≠ some B) : Cells w1 B T cs :=
  hc.keep h.2.1 fun e => by
    rcases e with e | e
    · exact hg e
    · exact hn e
theorem RdRes.late {base g : Nat} {l : List UInt8} {bv av av1 : Value} {st : Rd} {w w1 w2 : World} (h : RdRes base g l bv av w st av1 w1) (hg : g < w.heap.size) {D : Nat → Prop} (k : Keep D w1 w2) (hD : ∀ q, D q → w.heap.size ≤ q ∧ av1.ownBlock ≠ some q) : RdRes base g l bv av w st av1 w2 := by
  refine ⟨h.1.frame fun q hq => ?_, h.2.1.trans k fun q hq e => by have := (hD q e).1; omega, h.2.2⟩
  rcases hq with rfl | hq | hq
  · exact k.block q h.1.cells.lt fun e => by have := (hD q e).1; omega
  · exact k.block q (h.1.atoms.lt hq).1 fun e => (hD q e).2 hq
  · exact k.block q (Nat.lt_of_lt_of_le hq h.1.base_le) fun e => by have := (hD q e).1; have := h.1.hg; omega
theorem TmAt.res {base g : Nat} {l : List UInt8} {bv av av1 : Value} {st : Rd} {w w1 : World} {S : Nat → Prop} {t : Tm} {vs : List Value} (ht : TmAt S t vs w) (h : RdRes base g l bv av w st av1 w1) (hS : ∀ q, q < w.heap.size → S q → q ≠ g ∧ av.ownBlock ≠ some q) : TmAt S t vs w1 :=
  ht.keep h.2.1 fun q hq hs e => by
    rcases e with e | e
    · exact (hS q hq hs).1 e
    · exact (hS q hq hs).2 e
theorem NumsAt.res {base g : Nat} {l : List UInt8} {bv av av1 : Value} {st : Rd} {w w1 : World} {S : Nat → Prop} {v : Value} {ns : List Int} (ht : NumsAt S v ns w) (h : RdRes base g l bv av w st av1 w1) (hS : ∀ q, q < w.heap.size → S q → q ≠ g ∧ av.ownBlock ≠ some q) : NumsAt S v ns w1 :=
  ht.keep h.2.1 fun q hq hs e => by
    rcases e with e | e
    · exact (hS q hq hs).1 e
    · exact (hS q hq hs).2 e
/-- a term that a reading made -/
def TmR (w0 : World) (t : Tm) (v av' : Value) (w' : World) : Prop := ∃ vs, v = .agg vs.toArray ∧ TmAt (fun q => w0.heap.size ≤ q ∧ av'.ownBlock ≠ some q) t vs w'
theorem namS_cases (l : List UInt8) (tag behind : Nat) (st : Rd) : (∃ k, namS l tag behind st = .bad k) ∨ ∃ s n, namS l tag behind st = .ok s ⟨n, st.part, st.atoms ++ [s]⟩ ∧ s.size ≤ 65536 := by
  unfold namS
  rcases needS_cases l tag 1 st with ⟨k, h⟩ | ⟨h, h1, h2⟩
  · exact .inl ⟨k, by rw [h]; rfl⟩
  · rw [h]
    simp only [Res.bind]
    split
    · exact .inl ⟨_, rfl⟩
    · rcases txtS_cases l tag (l.getD st.at_ 0 == 118) behind ⟨st.at_ + 1, st.part, st.atoms⟩ with ⟨k, h3⟩ | ⟨s, n, h3, h4, h5, h6⟩
      · exact .inl ⟨k, by rw [h3]⟩
      · rw [h3]
        dsimp only at *
        split
        · exact .inl ⟨_, rfl⟩
        · exact .inr ⟨s, n, rfl, by omega⟩
theorem nums_lit2 (w : World) (x y : Int) (hx0 : 0 ≤ x) (hx1 : x < 4294967296) (hy0 : 0 ≤ y) (hy1 : y < 4294967296) : NumsAt (fun q => q = w.heap.size) (.slice (some ⟨w.heap.size, 0, none⟩) 2 2) [x, y] (w.alloc (.cells #[.int .u32 x, .int .u32 y] 32 (0, 0))) := by
  refine ⟨_, 2, rfl, ⟨by simp, by simp⟩, by decide, fun i hi => ?_⟩
  have hC := Cells.new w 32 [.int .u32 x, .int .u32 y]
  match i, hi with
  | 0, _ => exact ⟨hx0, hx1, _, 0, rfl, rfl, hC.cell 0⟩
  | 1, _ => exact ⟨hy0, hy1, _, 0, rfl, rfl, hC.cell 1⟩
set_option maxHeartbeats 16000000 in
set_option maxRecDepth 100000 in
theorem pid_any {base g : Nat} {l : List UInt8} {bv av : Value} {st : Rd} {w : World} (tag : Nat) (h : RdIs base g l bv st av w) (hG : GtB base w) :
    Calls Tryz.prog 124 #[.pointer (some ⟨g, 0, none⟩), .int .i64 tag, .int .u8 88] w (RetR base g l bv av w (pidS l tag st) (TmR w)) := by
  have HGL := Lib.hid h.cells.lt
  have HVL := Lib.hid (fun q (hq : av.ownBlock = some q) => (h.atoms.lt hq).1)
  have BX := Lib.hid ((Below.refl w.heap.size w).alloc (Nat.le_refl _) (.cells #[.int .i64 0, .int .i64 0, .string ⟨#[]⟩, .int .u32 0, .slice none 0 0, .slice none 0 0] 35 (0, 0)))
  have R0 := Lib.hid (show Cells (w.alloc (.cells #[.int .i64 0, .int .i64 0, .string ⟨#[]⟩, .int .u32 0, .slice none 0 0, .slice none 0 0] 35 (0, 0))) w.heap.size 35 termZ from Cells.new w 35 termZ)
  have HR := Lib.hid (RdRes.below h BX.out)
  have HG1 := Lib.hid (hG.below BX.out)
  have HNR := Lib.hid (show av.ownBlock ≠ some w.heap.size from fun e => Nat.lt_irrefl _ (HVL.out _ e))
  have HRG := Lib.hid (show w.heap.size ≠ g from fun e => by have := HGL.out; omega)
  have HSR := Lib.hid R0.out.lt
  clear h hG
  have HN := Lib.hid (name_any tag 12 HR.out.1 (by decide) HG1.out)
  go_enter Tryz.func124, Tryz.ntmps124
  go_wp2_with fail
  generalize w.alloc (.cells #[.int .i64 0, .int .i64 0, .string ⟨#[]⟩, .int .u32 0, .slice none 0 0, .slice none 0 0] 35) = w1 at *
  have HS := Lib.hid (show pidS l tag st = (namS l tag 12 st).bind fun s st1 => (fourS l tag st1).bind fun a st2 => (fourS l tag st2).bind fun b st3 => (fourS l tag st3).bind fun c st4 => .ok (.mk 4 0 s c [a, b] []) st4 from rfl)
  refine HN.out.mono ?_
  intro e w2 hr
  rcases namS_cases l tag 12 st with ⟨k, hk⟩ | ⟨s, n, hk, hsz⟩
  · rw [hk] at hr HS
    obtain ⟨b, rfl, he, hne, hkk⟩ := hr
    have HP := Lib.hid (RdRes.pan (e := .panicked _) HGL.out HVL.out HR.out ⟨b, rfl, he, hne, hkk⟩)
    clear he hne hkk hk HN
    go_wp2
    rw [HS.out]
    exact ⟨rfl, HP.out⟩
  rw [hk] at hr HS
  simp only [Res.bind] at HS
  obtain ⟨_, av2, rfl, rfl, hrr⟩ := hr
  have R2 := Lib.hid (R0.out.res hrr HRG.out HNR.out)
  have HNR2 := Lib.hid (hrr.apart HSR.out HNR.out)
  have HRN := Lib.hid (RdRes.trans HGL.out HVL.out HR.out hrr)
  have HSZ := Lib.hid hsz
  have HZ12 := Lib.hid hrr.2.1.size
  clear hk hrr HN hsz HR R0
  have BT := Lib.hid ((Below.refl w2.heap.size w2).alloc (Nat.le_refl _) (.cells #[.int .i64 4, .int .i64 0, .string s, .int .u32 0, .slice none 0 0, .slice none 0 0] 35 (0, 0)))
  have T3 := Lib.hid (Cells.new w2 35 [.int .i64 4, .int .i64 0, .string s, .int .u32 0, .slice none 0 0, .slice none 0 0])
  have HR := Lib.hid (HRN.out.ext BT.out)
  have HNT := Lib.hid (show av2.ownBlock ≠ some w2.heap.size from fun e => Nat.lt_irrefl _ (HRN.out.1.atoms.lt e).1)
  have HTG := Lib.hid (show w2.heap.size ≠ g from fun e => by have := HRN.out.1.cells.lt; omega)
  have R3 := Lib.hid (R2.out.below BT.out)
  have HTR := Lib.hid (show w2.heap.size ≠ w.heap.size from fun e => by have := R2.out.lt; omega)
  have HTS := Lib.hid T3.out.lt
  have HR3S := Lib.hid R3.out.lt
  clear HRN R2
  have HF := Lib.hid (fourE_any tag HR.out.1)
  go_wp2_with fail
  generalize w2.alloc (.cells #[.int .i64 4, .int .i64 0, .string s, .int .u32 0, .slice none 0 0, .slice none 0 0] 35) = w3 at *
  refine HF.out.mono ?_
  intro e w4 hr
  rcases fourS_cases l tag _ with ⟨k, hk⟩ | ⟨x, hk, _⟩
  · rw [hk] at hr HS
    obtain ⟨b, rfl, he, hne, hkk⟩ := hr
    have HP := Lib.hid (RdRes.pan (e := .panicked _) HGL.out HVL.out HR.out ⟨b, rfl, he, hne, hkk⟩)
    clear he hne hkk hk HF 
    go_wp2
    rw [HS.out]
    exact ⟨rfl, HP.out⟩
  rw [hk] at hr HS
  simp only [Res.bind] at HS
  obtain ⟨_, av4, rfl, ⟨rfl, hx⟩, hrr⟩ := hr
  have HXx := Lib.hid hx
  have R4 := Lib.hid (R3.out.res hrr HRG.out HNR2.out)
  have T4 := Lib.hid (T3.out.res hrr HTG.out HNT.out)
  have HNR4 := Lib.hid (hrr.apart R3.out.lt HNR2.out)
  have HNT4 := Lib.hid (hrr.apart T3.out.lt HNT.out)
  have HZ34 := Lib.hid hrr.2.1.size
  clear R3 T3 HNR2 HNT
  have HRN := Lib.hid (RdRes.trans HGL.out HVL.out HR.out hrr)
  clear hk hrr HF hx HR
  have HR := HRN
  clear HRN
  have HF := Lib.hid (fourE_any tag HR.out.1)
  go_wp2_with fail
  refine HF.out.mono ?_
  intro e w5 hr
  rcases fourS_cases l tag _ with ⟨k, hk⟩ | ⟨y, hk, _⟩
  · rw [hk] at hr HS
    obtain ⟨b, rfl, he, hne, hkk⟩ := hr
    have HP := Lib.hid (RdRes.pan (e := .panicked _) HGL.out HVL.out HR.out ⟨b, rfl, he, hne, hkk⟩)
    clear he hne hkk hk HF 
    go_wp2
    rw [HS.out]
    exact ⟨rfl, HP.out⟩
  rw [hk] at hr HS
  simp only [Res.bind] at HS
  obtain ⟨_, av5, rfl, ⟨rfl, hy⟩, hrr⟩ := hr
  have HXy := Lib.hid hy
  have R5 := Lib.hid (R4.out.res hrr HRG.out HNR4.out)
  have T5 := Lib.hid (T4.out.res hrr HTG.out HNT4.out)
  have HNR5 := Lib.hid (hrr.apart R4.out.lt HNR4.out)
  have HNT5 := Lib.hid (hrr.apart T4.out.lt HNT4.out)
  have HZ45 := Lib.hid hrr.2.1.size
  clear R4 T4 HNR4 HNT4
  have HRN := Lib.hid (RdRes.trans HGL.out HVL.out HR.out hrr)
  clear hk hrr HF hy HR
  have HR := HRN
  clear HRN
  have hx0 : (0 : Int) ≤ (x : Int) := by omega
  have hy0 : (0 : Int) ≤ (y : Int) := by omega
  have BN := Lib.hid ((Below.refl w5.heap.size w5).alloc (Nat.le_refl _) (.cells #[.int .u32 x, .int .u32 y] 32 (0, 0)))
  have N6 := Lib.hid (nums_lit2 w5 x y hx0 (by have := HXx.out; omega) hy0 (by have := HXy.out; omega))
  have R6 := Lib.hid (R5.out.below BN.out)
  have T6 := Lib.hid (T5.out.below BN.out)
  have HNN := Lib.hid (show av5.ownBlock ≠ some w5.heap.size from fun e => Nat.lt_irrefl _ (HR.out.1.atoms.lt e).1)
  have HN5 := Lib.hid (show w5.heap.size ≠ g from fun e => by have := HR.out.1.cells.lt; omega)
  have HNR56 := Lib.hid (show w5.heap.size ≠ w.heap.size ∧ w5.heap.size ≠ w2.heap.size from ⟨fun e => by have := R5.out.lt; omega, fun e => by have := T5.out.lt; omega⟩)
  have HR6 := Lib.hid (HR.out.ext BN.out)
  have HN6L := Lib.hid (show w5.heap.size < (w5.alloc (.cells #[.int .u32 x, .int .u32 y] 32 (0, 0))).heap.size by simp)
  clear HR R5 T5
  have HR := HR6
  clear HR6
  have HF := Lib.hid (fourE_any tag HR.out.1)
  go_wp2_with fail
  generalize w5.alloc (.cells #[.int .u32 x, .int .u32 y] 32) = w6 at *
  refine HF.out.mono ?_
  intro e w7 hr
  rcases fourS_cases l tag _ with ⟨k, hk⟩ | ⟨c, hk, _⟩
  · rw [hk] at hr HS
    obtain ⟨b, rfl, he, hne, hkk⟩ := hr
    have HP := Lib.hid (RdRes.pan (e := .panicked _) HGL.out HVL.out HR.out ⟨b, rfl, he, hne, hkk⟩)
    clear he hne hkk hk HF 
    go_wp2
    rw [HS.out]
    exact ⟨rfl, HP.out⟩
  rw [hk] at hr HS
  simp only [Res.bind] at HS
  obtain ⟨_, av7, rfl, ⟨rfl, hc⟩, hrr⟩ := hr
  have HXc := Lib.hid hc
  have R7 := Lib.hid (R6.out.res hrr HRG.out HNR5.out)
  have T7 := Lib.hid (T6.out.res hrr HTG.out HNT5.out)
  have HNR7 := Lib.hid (hrr.apart R6.out.lt HNR5.out)
  have HNT7 := Lib.hid (hrr.apart T6.out.lt HNT5.out)
  have HZ67 := Lib.hid hrr.2.1.size
  clear R6 T6 HNR5 HNT5
  have N7 := Lib.hid (N6.out.res hrr (fun q _ (hq : q = w5.heap.size) => ⟨by rw [hq]; exact HN5.out, by rw [hq]; exact HNN.out⟩))
  have HNN7 := Lib.hid (hrr.apart HN6L.out HNN.out)
  clear N6
  have HRN := Lib.hid (RdRes.trans HGL.out HVL.out HR.out hrr)
  clear hk hrr HF hc HR
  have HR := HRN
  clear HRN
  have t4 := T7.out.frozen 4
  have T8 := Lib.hid (show Cells _ w2.heap.size 35 [.int .i64 4, .int .i64 0, .string s, .int .u32 0, .slice (some ⟨w5.heap.size, 0, none⟩) 2 2, .slice none 0 0] from T7.out.set_ 4 (.slice (some ⟨w5.heap.size, 0, none⟩) 2 2))
  have t3 := T8.out.frozen 3
  have T9 := Lib.hid (show Cells _ w2.heap.size 35 [.int .i64 4, .int .i64 0, .string s, .int .u32 c, .slice (some ⟨w5.heap.size, 0, none⟩) 2 2, .slice none 0 0] from T8.out.set_ 3 (.int .u32 c))
  have k7 := T7.out.cell 4
  have k8 := T8.out.cell 3
  have k0 := T9.out.cell 0
  have k1 := T9.out.cell 1
  have k2 := T9.out.cell 2
  have k3 := T9.out.cell 3
  have k4 := T9.out.cell 4
  have k5 := T9.out.cell 5
  simp only [List.getElem?_cons_zero, List.getElem?_cons_succ] at k0 k1 k2 k3 k4 k5 k7 k8
  have R9 := Lib.hid ((R7.out.far (p := ⟨w2.heap.size, 4, none⟩) (fun e => HTR.out e.symm) (.slice (some ⟨w5.heap.size, 0, none⟩) 2 2)).far (p := ⟨w2.heap.size, 3, none⟩) (fun e => HTR.out e.symm) (.int .u32 c))
  have K9 := Lib.hid (show Keep (fun q => q = w2.heap.size ∨ q = w.heap.size) w7 _ from ((Keep.refl _ w7).setCell (p := ⟨w2.heap.size, 4, none⟩) (fun _ => .inl rfl) (.slice (some ⟨w5.heap.size, 0, none⟩) 2 2)).setCell (p := ⟨w2.heap.size, 3, none⟩) (fun _ => .inl rfl) (.int .u32 c))
  have HS2 := Lib.hid (show pidS l tag st = .ok (.mk 4 0 s c [(x : Int), (y : Int)] []) _ from HS.out)
  clear HS R7
  unfold termZ at R9
  go_wp2_with (refine wpList_store_blk rfl _ (.tmp 6) (.tmp 32) rfl w.heap.size 0 [.int .i64 4, .int .i64 0, .string s, .int .u32 c, .slice (some ⟨w5.heap.size, 0, none⟩) 2 2, .slice none 0 0] (by rfl) (by rfl) (by kernel_rfl) (by simp [Value.oneCell']) 35 _ R9.out (by show 0 + 6 ≤ 6; decide) ?_; intro wz hCz hgz)
  have hCz' : Cells wz w.heap.size 35 [.int .i64 4, .int .i64 0, .string s, .int .u32 c, .slice (some ⟨w5.heap.size, 0, none⟩) 2 2, .slice none 0 0] := hCz
  have z0 := hCz'.cell 0
  have z1 := hCz'.cell 1
  have z2 := hCz'.cell 2
  have z3 := hCz'.cell 3
  have z4 := hCz'.cell 4
  have z5 := hCz'.cell 5
  simp only [List.getElem?_cons_zero, List.getElem?_cons_succ] at z0 z1 z2 z3 z4 z5
  have KZ := Lib.hid (K9.out.grown hgz (fun k hk _ => by cases hk; exact .inr rfl))
  clear hCz hCz' hgz k0 k1 k2 k3 k4 k5 k7 k8 t3 t4
  go_wp2
  refine bodyPost_ret (v := .agg ([.int .i64 4, .int .i64 0, .string s, .int .u32 c, .slice (some ⟨w5.heap.size, 0, none⟩) 2 2, .slice none 0 0]).toArray) (by simp [results, Tryz.results124, go_sem, z0, z1, z2, z3, z4, z5]) rfl ?_
  rw [HS2.out]
  have hlw : w.heap.size ≤ w2.heap.size := by have := BX.out.size; have := HZ12.out; have := HSR.out; omega
  refine ⟨_, av7, rfl, ⟨_, rfl, ?_⟩, RdRes.late HR.out HGL.out KZ.out (fun q hq => by
    rcases hq with rfl | rfl
    · exact ⟨hlw, HNT7.out⟩
    · exact ⟨Nat.le_refl _, HNR7.out⟩)⟩
  refine TmAt.of ⟨show Part (4 : Int) 0 s (c : Int) from ⟨by decide, by decide, by decide, by decide, by have := HSZ.out; omega, by omega, by have := HXc.out; omega⟩, _, _, _, rfl, ?_, ⟨Nat.le_refl _, Nat.zero_le _⟩, by simp [Tm.args], by simp only [Tm.args]; rw [ArgsAt]; trivial⟩
  have hm := N7.out.keep KZ.out (fun q _ (hq : q = w5.heap.size) e => by
    rcases e with e | e
    · exact HNR56.out.2 (hq.symm.trans e)
    · exact HNR56.out.1 (hq.symm.trans e))
  exact hm.mono (fun q _ (hq : q = w5.heap.size) => ⟨by rw [hq]; have := HTS.out; have := HZ34.out; have := HZ45.out; omega, by rw [hq]; exact HNN7.out⟩)
end Go.Proofs.YtlahagabcnmdiaaGreatDoor
end
section
/- Package etf: the reader: a reference; far. Printed by wip/edf.py. -/
open Go Go.RowKit
namespace Go.Proofs.YtlahagabcnmdiaaGreatDoor
set_option linter.unusedVariables false
set_option linter.unusedSimpArgs false

/-- a row of numbers of one's own -/
def NuIs (base : Nat) (v : Value) (l : List Int) (w : World) : Prop := w.ownsRow base 32 1 v l.length (numsV l)
theorem NuIs.nil (base : Nat) (w : World) : NuIs base (.slice none 0 0) [] w := ⟨rfl, .inl ⟨rfl, rfl⟩⟩
theorem NuIs.frame {base : Nat} {v : Value} {l : List Int} {w w' : World} (h : NuIs base v l w) (hb : ∀ g, v.ownBlock = some g → w'.heap[g]? = w.heap[g]?) : NuIs base v l w' := by
  obtain ⟨h1, h2⟩ := h
  refine ⟨h1, h2.imp_right ?_⟩
  rintro ⟨g, cap, cur, hv, hbg, hg, rest⟩
  exact ⟨g, cap, cur, hv, hbg, (hb g (by rw [hv]; rfl)).trans hg, rest⟩
theorem NuIs.block {base : Nat} {v : Value} {l : List Int} {w : World} (h : NuIs base v l w) {g : Nat} (hg : v.ownBlock = some g) : base ≤ g ∧ g < w.heap.size := by
  obtain ⟨_, ⟨hv, _⟩ | ⟨g', cap, cur, hv, hbg, hcell, _⟩⟩ := h
  · rw [hv] at hg; cases hg
  · rw [hv] at hg
    cases hg
    exact ⟨hbg, (Array.getElem?_eq_some_iff.1 hcell).1⟩
theorem NuIs.shape {base : Nat} {v : Value} {l : List Int} {w : World} (h : NuIs base v l w) : ∃ a c, v = .slice a l.length c := by
  obtain ⟨h1, ⟨hv, hn⟩ | ⟨g, cap, cur, hv, _⟩⟩ := h
  · exact ⟨none, 0, by rw [hv, hn]⟩
  · exact ⟨_, cap, hv⟩
theorem NuIs.app {base : Nat} {v : Value} {l : List Int} {w : World} (h : NuIs base v l w) (x : Int) (hl : l.length ≤ 1000) (hB : base ≤ w.heap.size) :
    ∃ v' w', (Builtin.append_ #[33, 33] 33 #[v, .slice (some ⟨w.heap.size, 0, none⟩) 1 1]).run Tryz.prog (w.alloc (.cells #[.int .u32 x] 32 (0, 0))) = .ok v' w' ∧ NuIs base v' (l ++ [x]) w' ∧
      (w.alloc (.cells #[.int .u32 x] 32 (0, 0))).grownBy w' v.ownBlock ∧ (v'.ownBlock = v.ownBlock ∨ v'.ownBlock = some (w.heap.size + 1)) := by
  obtain ⟨i0, hi, hz0, hz1, hz2⟩ := info_parts Tryz.infoU32
  obtain ⟨v', w', hr, h2, h3, _, h5⟩ := run_append_own_at (P := Tryz.prog) (w.alloc (.cells #[.int .u32 x] 32 (0, 0))) base 33 33 32 i0 _ 1 4 Tryz.underlying33 hi hz0 hz1 hz2 rfl (by decide) v l.length (numsV l)
    (h.frame fun q hq => Below.heap_alloc w _ _ (h.block hq).2)
    ⟨w.heap.size, 0, none⟩ 1 1 [.int .u32 x] rfl (by
      intro j u hj
      match j, hj with
      | 0, hj => simp at hj; subst hj; exact World.cell?_alloc_new _ _ _ _
      | j + 1, hj => simp at hj) (by intro u hu; simp at hu; subst hu; rfl) (by unfold maxLen; omega) (by omega) (by simp; omega)
  refine ⟨v', w', hr, ?_, h3, by simpa using h5⟩
  unfold NuIs
  rw [List.length_append]
  simpa [numsV] using h2
theorem NuIs.at_ {base : Nat} {v : Value} {l : List Int} {w : World} (h : NuIs base v l w) (hb : ∀ n ∈ l, 0 ≤ n ∧ n < 4294967296) (hz : l.length * 4 ≤ 140737488351232) : NumsAt (fun q => v.ownBlock = some q) v l w := by
  obtain ⟨h1, ⟨rfl, hn⟩ | ⟨g, cap, cur, rfl, hbg, hcell, hn, hc, hcs, htake⟩⟩ := h
  · exact ⟨none, 0, by rw [hn], ⟨by omega, hz⟩, Nat.zero_le _, fun i hi => absurd hi (by omega)⟩
  · refine ⟨some ⟨g, 0, none⟩, cap, rfl, ⟨hn, hz⟩, hc, fun i hi => ?_⟩
    have hm := hb l[i] (List.getElem_mem hi)
    refine ⟨hm.1, hm.2, g, 0, rfl, rfl, ?_⟩
    have h2 : cur.toList[i]? = some (.int .u32 l[i]) := by
      have := congrArg (fun z : List Value => z[i]?) htake
      simp only [Nat.mul_one] at this
      rw [List.getElem?_take_of_lt hi] at this
      rw [this]
      simp [numsV, hi]
    have h3 : cur[i]? = some (.int .u32 l[i]) := by simpa using h2
    simp [World.cell?, hcell, h3]
theorem bind_assoc {α β γ : Type} (r : Res α) (f : α → Rd → Res β) (k : β → Rd → Res γ) : (r.bind f).bind k = r.bind fun x st => (f x st).bind k := by cases r <;> rfl
set_option maxHeartbeats 16000000 in
set_option maxRecDepth 100000 in
theorem ref_any {base g : Nat} {l : List UInt8} {bv av : Value} {st : Rd} {w : World} (tag : Nat) (kv : Int) (hkv : (kv == 88) = false) (h : RdIs base g l bv st av w) (hG : GtB base w) :
    Calls Tryz.prog 124 #[.pointer (some ⟨g, 0, none⟩), .int .i64 tag, .int .u8 kv] w (RetR base g l bv av w (refS l tag st) (TmR w)) := by
  have HGL := Lib.hid h.cells.lt
  have HVL := Lib.hid (fun q (hq : av.ownBlock = some q) => (h.atoms.lt hq).1)
  have BX := Lib.hid ((Below.refl w.heap.size w).alloc (Nat.le_refl _) (.cells #[.int .i64 0, .int .i64 0, .string ⟨#[]⟩, .int .u32 0, .slice none 0 0, .slice none 0 0] 35 (0, 0)))
  have R0 := Lib.hid (show Cells (w.alloc (.cells #[.int .i64 0, .int .i64 0, .string ⟨#[]⟩, .int .u32 0, .slice none 0 0, .slice none 0 0] 35 (0, 0))) w.heap.size 35 termZ from Cells.new w 35 termZ)
  have HR := Lib.hid (RdRes.below h BX.out)
  have HG1 := Lib.hid (hG.below BX.out)
  have HNR := Lib.hid (show av.ownBlock ≠ some w.heap.size from fun e => Nat.lt_irrefl _ (HVL.out _ e))
  have HRG := Lib.hid (show w.heap.size ≠ g from fun e => by have := HGL.out; omega)
  have HR1 := Lib.hid HR.out.1
  clear h hG
  have HN := Lib.hid (need_any tag 2 HR.out.1 (by omega))
  go_enter Tryz.func124, Tryz.ntmps124
  go_wp2_with fail
  generalize w.alloc (.cells #[.int .i64 0, .int .i64 0, .string ⟨#[]⟩, .int .u32 0, .slice none 0 0, .slice none 0 0] 35) = w1 at *
  have HS := Lib.hid (show refS l tag st = (needS l tag 2 st).bind fun _ st0 =>
    if l.getD st.at_ 0 ≠ 0 ∨ l.getD (st.at_ + 1) 0 ≠ 3 then .bad [⟨etfL, tag, 84⟩]
    else (namS l tag 16 st0).bind fun s st1 => (fourS l tag st1).bind fun c st2 => (numsS l tag 3 st2).bind fun ns st3 => .ok (.mk 3 0 s c ns []) st3 from rfl)
  refine HN.out.mono ?_
  intro e w2 hr
  rcases needS_cases l tag 2 st with ⟨k, hk⟩ | ⟨hk, hle, hle6⟩
  · rw [hk] at hr HS
    obtain ⟨b, rfl, he, hne, hkk⟩ := hr
    have HP := Lib.hid (RdRes.pan (e := .panicked _) HGL.out HVL.out HR.out ⟨b, rfl, he, hne, hkk⟩)
    clear he hne hkk hk HN
    go_wp2
    rw [HS.out]
    exact ⟨rfl, HP.out⟩
  rw [hk] at hr HS
  simp only [Res.bind] at HS
  obtain ⟨sv, av2, rfl, hsv, hrr⟩ := hr
  have R2 := Lib.hid (R0.out.res hrr HRG.out HNR.out)
  have HNR2 := Lib.hid (hrr.apart R0.out.lt HNR.out)
  have HRN := Lib.hid (RdRes.trans HGL.out HVL.out HR.out hrr)
  have HG2 := Lib.hid (HG1.out.res HR1.out hrr.2.1)
  have HZ12 := Lib.hid hrr.2.1.size
  obtain ⟨sa, sc, rfl⟩ : ∃ a c, sv = .slice a (cutB l st.at_ 2).length c := by obtain ⟨a, c, e, _⟩ := hsv; exact ⟨a, c, e⟩
  obtain ⟨q, o, rfl, hc0⟩ := hsv.get 0 (by rw [cutB_len hle]; omega)
  obtain ⟨q', o', he, hc1⟩ := hsv.get 1 (by rw [cutB_len hle]; omega)
  cases he
  rw [Nat.add_zero, cutB_get 0 (by omega) hle, Nat.add_zero] at hc0
  rw [cutB_get 1 (by omega) hle] at hc1
  rw [cutB_len hle] at *
  clear hrr hk HN hsv HR R0 hle hle6
  by_cases hbad : l.getD st.at_ 0 ≠ 0 ∨ l.getD (st.at_ + 1) 0 ≠ 3
  · rw [if_pos hbad] at HS
    have HST := Lib.hid (etStop_any (LsK g av2) g tag 84 w2)
    by_cases h0 : l.getD st.at_ 0 = 0
    · have h1 : l.getD (st.at_ + 1) 0 ≠ 3 := by rcases hbad with h | h; exact absurd h0 h; exact h
      rw [h0] at hc0
      have hc0 : w2.cell? ⟨q, o, none⟩ = some (.int .u8 0) := hc0
      have q1 : (((l.getD (st.at_ + 1) 0).toNat : Int) != 3) = true := by
        have : (l.getD (st.at_ + 1) 0).toNat ≠ 3 := fun e => h1 (UInt8.toNat_inj.1 e)
        exact bne_iff_ne.2 (by omega)
      generalize (l.getD (st.at_ + 1) 0).toNat = kb at *
      clear hbad h0 h1
      go_wp2_with fail
      refine HST.out.mono ?_
      intro e w3 hp
      have HP := Lib.hid (RdRes.pan HGL.out HVL.out HRN.out hp)
      obtain ⟨b, rfl, _⟩ := hp
      go_wp2
      rw [HS.out]
      exact ⟨rfl, HP.out⟩
    · have q1 : (((l.getD st.at_ 0).toNat : Int) != 0) = true := by
        have : (l.getD st.at_ 0).toNat ≠ 0 := fun e => h0 (UInt8.toNat_inj.1 e)
        exact bne_iff_ne.2 (by omega)
      generalize (l.getD st.at_ 0).toNat = kb at *
      clear hbad h0
      go_wp2_with fail
      refine HST.out.mono ?_
      intro e w3 hp
      have HP := Lib.hid (RdRes.pan HGL.out HVL.out HRN.out hp)
      obtain ⟨b, rfl, _⟩ := hp
      go_wp2
      rw [HS.out]
      exact ⟨rfl, HP.out⟩
  rw [if_neg hbad] at HS
  have h0 : l.getD st.at_ 0 = 0 := Classical.byContradiction fun h => hbad (.inl h)
  have h1 : l.getD (st.at_ + 1) 0 = 3 := Classical.byContradiction fun h => hbad (.inr h)
  rw [h0] at hc0
  rw [h1] at hc1
  have hc0 : w2.cell? ⟨q, o, none⟩ = some (.int .u8 0) := hc0
  have hc1 : w2.cell? ⟨q, o + 1, none⟩ = some (.int .u8 3) := hc1
  have HN := Lib.hid (name_any tag 16 HRN.out.1 (by decide) HG2.out)
  clear hbad h0 h1
  go_wp2_with fail
  refine HN.out.mono ?_
  intro e w3 hr
  rcases namS_cases l tag 16 ⟨st.at_ + 2, st.part, st.atoms⟩ with ⟨k, hk⟩ | ⟨s, n, hk, hsz⟩
  · rw [hk] at hr HS
    obtain ⟨b, rfl, he, hne, hkk⟩ := hr
    have HP := Lib.hid (RdRes.pan (e := .panicked _) HGL.out HVL.out HRN.out ⟨b, rfl, he, hne, hkk⟩)
    clear he hne hkk hk HN hc0 hc1
    go_wp2
    rw [HS.out]
    exact ⟨rfl, HP.out⟩
  rw [hk] at hr HS
  simp only [Res.bind] at HS
  obtain ⟨_, av3, rfl, rfl, hrr⟩ := hr
  have R3 := Lib.hid (R2.out.res hrr HRG.out HNR2.out)
  have HNR3 := Lib.hid (hrr.apart R2.out.lt HNR2.out)
  have HR3 := Lib.hid (RdRes.trans HGL.out HVL.out HRN.out hrr)
  have HSZ := Lib.hid hsz
  have HZ23 := Lib.hid hrr.2.1.size
  clear hk hrr HN hsz HRN R2 hc0 hc1
  have BT := Lib.hid ((Below.refl w3.heap.size w3).alloc (Nat.le_refl _) (.cells #[.int .i64 3, .int .i64 0, .string s, .int .u32 0, .slice none 0 0, .slice none 0 0] 35 (0, 0)))
  have T4 := Lib.hid (Cells.new w3 35 [.int .i64 3, .int .i64 0, .string s, .int .u32 0, .slice none 0 0, .slice none 0 0])
  have HR := Lib.hid (HR3.out.ext BT.out)
  have HNT := Lib.hid (show av3.ownBlock ≠ some w3.heap.size from fun e => Nat.lt_irrefl _ (HR3.out.1.atoms.lt e).1)
  have HTG := Lib.hid (show w3.heap.size ≠ g from fun e => by have := HR3.out.1.cells.lt; omega)
  have R4 := Lib.hid (R3.out.below BT.out)
  have HTR := Lib.hid (show w3.heap.size ≠ w.heap.size from fun e => by have := R3.out.lt; omega)
  have HWT := Lib.hid (show w.heap.size ≤ w3.heap.size from by have := R3.out.lt; omega)
  clear HR3 R3
  have HF := Lib.hid (fourE_any tag HR.out.1)
  go_wp2_with fail
  generalize w3.alloc (.cells #[.int .i64 3, .int .i64 0, .string s, .int .u32 0, .slice none 0 0, .slice none 0 0] 35) = w4 at *
  refine HF.out.mono ?_
  intro e w5 hr
  rcases fourS_cases l tag _ with ⟨k, hk⟩ | ⟨c, hk, _⟩
  · rw [hk] at hr HS
    obtain ⟨b, rfl, he, hne, hkk⟩ := hr
    have HP := Lib.hid (RdRes.pan (e := .panicked _) HGL.out HVL.out HR.out ⟨b, rfl, he, hne, hkk⟩)
    clear he hne hkk hk HF 
    go_wp2
    rw [HS.out]
    exact ⟨rfl, HP.out⟩
  rw [hk] at hr HS
  simp only [Res.bind] at HS
  obtain ⟨_, av5, rfl, ⟨rfl, hc⟩, hrr⟩ := hr
  have HXc := Lib.hid hc
  have R5 := Lib.hid (R4.out.res hrr HRG.out HNR3.out)
  have T5 := Lib.hid (T4.out.res hrr HTG.out HNT.out)
  have HNR5 := Lib.hid (hrr.apart R4.out.lt HNR3.out)
  have HNT5 := Lib.hid (hrr.apart T4.out.lt HNT.out)
  have HZ45 := Lib.hid hrr.2.1.size
  clear R4 T4 HNR3 HNT
  have HRN := Lib.hid (RdRes.trans HGL.out HVL.out HR.out hrr)
  clear hk hrr HF hc HR
  have HR := HRN
  clear HRN
  have t3 := T5.out.cell 3
  have f3 := T5.out.frozen 3
  simp only [List.getElem?_cons_zero, List.getElem?_cons_succ] at t3
  have T6 := Lib.hid (show Cells _ w3.heap.size 35 [.int .i64 3, .int .i64 0, .string s, .int .u32 c, .slice none 0 0, .slice none 0 0] from T5.out.set_ 3 (.int .u32 c))
  have R6 := Lib.hid (R5.out.far (p := ⟨w3.heap.size, 3, none⟩) (fun e => HTR.out e.symm) (.int .u32 c))
  have K6 := Lib.hid (show Keep (fun q => q = w3.heap.size) w5 (w5.setCell ⟨w3.heap.size, 3, none⟩ (.int .u32 c)) from (Keep.refl (fun q => q = w3.heap.size) w5).setCell (p := ⟨w3.heap.size, 3, none⟩) (fun _ => rfl) (.int .u32 c))
  have HR6 := Lib.hid (RdRes.late HR.out HGL.out K6.out (fun q (hq : q = w3.heap.size) => by rw [hq]; exact ⟨HWT.out, HNT5.out⟩))
  clear HR R5 T5
  go_wp2_with fail
  generalize w5.setCell ⟨w3.heap.size, 3, none⟩ (.int .u32 c) = w6 at *
  clear t3 f3
  go_loopw [57] (fun i wr => ∃ (k : Nat) (ns : List Int) (stk : Rd) (avk nv : Value), k ≤ 3 ∧ i = .int .i64 k ∧ ns.length = k ∧ (∀ x ∈ ns, 0 ≤ x ∧ x < 4294967296) ∧ RdRes base g l bv av w stk avk wr ∧ Cells wr w.heap.size 35 termZ ∧ Cells wr w3.heap.size 35 [.int .i64 3, .int .i64 0, .string s, .int .u32 c, nv, .slice none 0 0] ∧ avk.ownBlock ≠ some w.heap.size ∧ avk.ownBlock ≠ some w3.heap.size ∧ NuIs (w3.heap.size + 1) nv ns wr ∧ (∀ q, nv.ownBlock = some q → avk.ownBlock ≠ some q) ∧ refS l tag st = (numsS l tag (3 - k) stk).bind fun r st3 => .ok (.mk 3 0 s c (ns ++ r) []) st3) (fun i _ => 3 - (intOf i).toNat)
  case atStart => exact ⟨0, [], _, av5, .slice none 0 0, by omega, rfl, rfl, (fun x hx => nomatch hx), HR6.out, R6.out, T6.out, HNR5.out, HNT5.out, NuIs.nil _ _, (fun q hq => nomatch hq), HS.out⟩
  case round =>
    obtain ⟨k, ns, stk, avk, nv, hk, rfl, hnl, hnb, hres, hRr, hTr, hnr, hnt, hnu, hnuo, hsp⟩ := hrel
    have HRk := Lib.hid hres
    have RR := Lib.hid hRr
    have TT := Lib.hid hTr
    have NR := Lib.hid hnr
    have NT := Lib.hid hnt
    have NU := Lib.hid hnu
    have NUO := Lib.hid hnuo
    have SP := Lib.hid hsp
    have NB := Lib.hid hnb
    clear HS HR6 R6 T6
    obtain ⟨na, nc, e⟩ := hnu.shape
    rw [hnl] at e
    subst e
    have NL := Lib.hid hnl
    clear hres hRr hTr hnr hnt hnu hnuo hsp hnb hnl
    by_cases hlt : k < 3
    · have hki : (k : Int) < 3 := by omega
      have hk0 : (0 : Int) ≤ (k : Int) := by omega
      have SP2 := Lib.hid (show refS l tag st = (fourS l tag stk).bind fun x st2 => (numsS l tag (2 - k) st2).bind fun r st3 => .ok (.mk 3 0 s c (ns ++ ((x : Int) :: r)) []) st3 from by
        rw [SP.out, show 3 - k = (2 - k) + 1 by omega, numsS, bind_assoc]
        congr 1; funext x st2; rw [bind_assoc]; rfl)
      go_wp2_with fail
      refine wp_region_L (S := fun X => Cells X w3.heap.size 35 [.int .i64 3, .int .i64 0, .string s, .int .u32 c, .slice na k nc, .slice none 0 0]) (F := [8]) (by kernel_rfl) (TT.out.below (Below.drew (Below.refl _ _))) (fun hHeld => ?_)
      refine wpAnyL_easy (i := 0) (v := (.pointer (some ⟨w3.heap.size, 4, none⟩))) (by simp only [List.getElem?_toArray, List.getElem?_cons_succ, List.getElem?_cons_zero]; rfl) (by kernel_rfl) (by kernel_rfl) (by kernel_rfl) (by exact fun _ _ _ h => h) (Or.inl ⟨by rfl, fun _ _ => rfl⟩) ?_
      try simp only [Act.put, List.setIfInBounds_toArray, List.set_cons_zero, List.set_cons_succ]
      refine wpAnyL_take (i := 1) (v := (.slice na k nc)) (by simp only [List.getElem?_toArray, List.getElem?_cons_succ, List.getElem?_cons_zero]; rfl) (by kernel_rfl) (by kernel_rfl) (by kernel_rfl) (by kernel_rfl) (by exact fun _ _ _ h => h) (Or.inl ⟨by rfl, by intro W hSw; have x0 := show W.cell? ⟨w3.heap.size, 4, none⟩ = some (.slice na k nc) from hSw.cell 4; go_simp; all_goals first | rfl | exact ⟨rfl, rfl, rfl, rfl, rfl, rfl⟩⟩) (by assumption) ?_
      try simp only [Act.put, List.setIfInBounds_toArray, List.set_cons_zero, List.set_cons_succ]
      refine wpAnyL_easy (i := 2) (v := (.pointer (some ⟨g, 0, none⟩))) (by simp only [List.getElem?_toArray, List.getElem?_cons_succ, List.getElem?_cons_zero]; rfl) (by kernel_rfl) (by kernel_rfl) (by kernel_rfl) (by exact fun _ _ _ h => h) (Or.inl ⟨by rfl, fun _ _ => rfl⟩) ?_
      try simp only [Act.put, List.setIfInBounds_toArray, List.set_cons_zero, List.set_cons_succ]
      refine wpAnyL_easy (i := 3) (v := (.int .i64 tag)) (by simp only [List.getElem?_toArray, List.getElem?_cons_succ, List.getElem?_cons_zero]; rfl) (by kernel_rfl) (by kernel_rfl) (by kernel_rfl) (by exact fun _ _ _ h => h) (Or.inl ⟨by rfl, fun _ _ => rfl⟩) ?_
      try simp only [Act.put, List.setIfInBounds_toArray, List.set_cons_zero, List.set_cons_succ]
      have BD := Lib.hid (show Below wr.heap.size wr wr.drew from Below.drew (Below.refl _ _))
      have HRd := Lib.hid (HRk.out.ext BD.out)
      have RRd := Lib.hid (RR.out.below BD.out)
      have TTd := Lib.hid (TT.out.below BD.out)
      have NUd := Lib.hid (NU.out.frame (fun q hq => BD.out.block q (NU.out.block hq).2))
      clear HRk RR TT NU hHeld SP
      generalize wr.drew = wd at *
      have HF := Lib.hid (fourE_any tag HRd.out.1)
      refine wpAnyL_ready (rs := [4]) (by kernel_rfl) (by simp) ?_
      refine AllReadyL.cons (by simp only [List.getElem?_toArray, List.getElem?_cons_succ, List.getElem?_cons_zero]; rfl) (fun K hK => ?_) AllReadyL.nil
      go_simp
      refine HF.out.mono ?_
      intro e w7 hr
      have HS := SP2
      rcases fourS_cases l tag stk with ⟨k2, hk⟩ | ⟨x, hk, _⟩
      · rw [hk] at hr HS
        obtain ⟨b, rfl, he, hne, hkk⟩ := hr
        have HP := Lib.hid (RdRes.pan (e := .panicked _) HGL.out HVL.out HRd.out ⟨b, rfl, he, hne, hkk⟩)
        clear he hne hkk hk HF
        try go_wp2
        rw [HS.out]
        exact ⟨rfl, HP.out⟩
      rw [hk] at hr HS
      simp only [Res.bind] at HS
      obtain ⟨_, av7, rfl, ⟨rfl, hx⟩, hrr⟩ := hr
      have HX := Lib.hid hx
      have R7 := Lib.hid (RRd.out.res hrr HRG.out NR.out)
      have T7 := Lib.hid (TTd.out.res hrr HTG.out NT.out)
      have NR7 := Lib.hid (hrr.apart RRd.out.lt NR.out)
      have NT7 := Lib.hid (hrr.apart TTd.out.lt NT.out)
      have NU7 := Lib.hid (NUd.out.frame (fun q hq => hrr.2.1.block q (NUd.out.block hq).2 (fun e => by
        rcases e with e | e
        · have := (NUd.out.block hq).1; have := HRd.out.1.cells.lt; have := HGL.out; have := HWT.out; omega
        · exact NUO.out q hq e)))
      have NUO7 := Lib.hid (show ∀ q, (Value.slice na k nc).ownBlock = some q → av7.ownBlock ≠ some q from fun q hq => hrr.apart (NUd.out.block hq).2 (NUO.out q hq))
      have HR7 := Lib.hid (RdRes.trans HGL.out HVL.out HRd.out hrr)
      clear hk hrr HF hx HRd RRd TTd NUd
      refine hK.out _ _ (T7.out) (fun hHeld => ?_)
      try simp only [Act.put, List.setIfInBounds_toArray, List.set_cons_zero, List.set_cons_succ]
      clear hHeld
      refine wpAnyL_ready (rs := [5]) (by kernel_rfl) (by simp) ?_
      refine AllReadyL.cons (by simp only [List.getElem?_toArray, List.getElem?_cons_succ, List.getElem?_cons_zero]; rfl) (fun K hK => ?_) AllReadyL.nil
      go_simp
      have BN := Lib.hid ((Below.refl w7.heap.size w7).alloc (Nat.le_refl _) (.cells #[.int .u32 x] 32 (0, 0)))
      obtain ⟨nv8, w8, hrun, hnu8, hg8, hob8⟩ := NU7.out.app x (by have := NL.out; omega) (by have := T7.out.lt; omega)
      obtain ⟨a8, n8, c8, rfl⟩ : ∃ a n c, nv8 = .slice a n c := by obtain ⟨a, c, e⟩ := hnu8.shape; exact ⟨a, _, c, e⟩
      have HRUN := Lib.hid hrun
      have NU8 := Lib.hid hnu8
      have K8 := Lib.hid (show Keep (fun q => (Value.slice na k nc).ownBlock = some q) w7 w8 from (keepB BN.out).grown hg8 (fun q hq _ => hq))
      have OB8 := Lib.hid hob8
      have T8 := Lib.hid (T7.out.keep K8.out (fun hq => by have := (NU7.out.block hq).1; omega))
      have R8 := Lib.hid (R7.out.keep K8.out (fun hq => by have := (NU7.out.block hq).1; have := HWT.out; omega))
      have HR8 := Lib.hid (RdRes.late HR7.out HGL.out K8.out (fun q hq => ⟨by have := (NU7.out.block hq).1; have := HWT.out; omega, NUO7.out q hq⟩))
      clear hrun hnu8 hg8 hob8
      refine hK.out _ _ (T7.out.below BN.out) (fun hHeld => ?_)
      try simp only [Act.put, List.setIfInBounds_toArray, List.set_cons_zero, List.set_cons_succ]
      refine wpAnyL_ready (rs := [6]) (by kernel_rfl) (by simp) ?_
      refine AllReadyL.cons (by simp only [List.getElem?_toArray, List.getElem?_cons_succ, List.getElem?_cons_zero]; rfl) (fun K hK => ?_) AllReadyL.nil
      refine step_app_eq (by rfl) _ _ _ _ (by rfl) _ _ (.slice a8 n8 c8) w8 (by rfl) (by rfl) HRUN.out ?_
      refine hK.out _ _ (T8.out) (fun hHeld => ?_)
      try simp only [Act.put, List.setIfInBounds_toArray, List.set_cons_zero, List.set_cons_succ]
      clear hHeld
      have d4 := T8.out.cell 4
      have f4 := T8.out.frozen 4
      simp only [List.getElem?_cons_zero, List.getElem?_cons_succ] at d4
      refine wpAnyL_easy (i := 7) (v := (.pointer (some ⟨w3.heap.size, 4, none⟩))) (by simp only [List.getElem?_toArray, List.getElem?_cons_succ, List.getElem?_cons_zero]; rfl) (by kernel_rfl) (by kernel_rfl) (by kernel_rfl) (by exact fun _ _ _ h => h) (Or.inl ⟨by rfl, fun _ _ => rfl⟩) ?_
      try simp only [Act.put, List.setIfInBounds_toArray, List.set_cons_zero, List.set_cons_succ]
      refine wpAnyL_ready (rs := [8]) (by kernel_rfl) (by simp) ?_
      refine AllReadyL.last (by simp only [List.getElem?_toArray, List.getElem?_cons_succ, List.getElem?_cons_zero]; rfl) (by kernel_rfl) (fun K hK => ?_) AllReadyL.nil
      go_simp
      refine hK.out _ _ ?_
      try simp only [Act.put, List.setIfInBounds_toArray, List.set_cons_zero, List.set_cons_succ]
      refine wpAnyL_done (by kernel_rfl) ?_ _
      have T9 := Lib.hid (show Cells _ w3.heap.size 35 [.int .i64 3, .int .i64 0, .string s, .int .u32 c, .slice a8 n8 c8, .slice none 0 0] from T8.out.set_ 4 (.slice a8 n8 c8))
      have R9 := Lib.hid (R8.out.far (p := ⟨w3.heap.size, 4, none⟩) (fun e => HTR.out e.symm) (.slice a8 n8 c8))
      have K9 := Lib.hid (show Keep (fun q => q = w3.heap.size) w8 (w8.setCell ⟨w3.heap.size, 4, none⟩ (.slice a8 n8 c8)) from (Keep.refl (fun q => q = w3.heap.size) w8).setCell (p := ⟨w3.heap.size, 4, none⟩) (fun _ => rfl) (.slice a8 n8 c8))
      have HR9 := Lib.hid (RdRes.late HR8.out HGL.out K9.out (fun q (hq : q = w3.heap.size) => by rw [hq]; exact ⟨HWT.out, NT7.out⟩))
      have OWN := Lib.hid (show ∀ q, (Value.slice a8 n8 c8).ownBlock = some q → w3.heap.size + 1 ≤ q ∧ av7.ownBlock ≠ some q from fun q hq => ⟨(NU8.out.block hq).1, fun e => by
        rcases OB8.out with h | h
        · rw [h] at hq; exact NUO7.out q hq e
        · rw [h] at hq; cases hq; have := (HR7.out.1.atoms.lt e).1; omega⟩)
      have NU9 := Lib.hid (NU8.out.frame (fun q hq => K9.out.block q (NU8.out.block hq).2 (fun (e : q = w3.heap.size) => by have := (OWN.out q hq).1; omega)))
      have NB9 := Lib.hid (show ∀ y ∈ ns ++ [(x : Int)], 0 ≤ y ∧ y < 4294967296 from fun y hy => by
        rcases List.mem_append.1 hy with h | h
        · exact NB.out y h
        · simp at h; subst h; have := HX.out; omega)
      have NL9 := Lib.hid (show (ns ++ [(x : Int)]).length = k + 1 from by rw [List.length_append, NL.out]; rfl)
      have SP9 := Lib.hid (show refS l tag st = (numsS l tag (3 - (k + 1)) ⟨stk.at_ + 4, stk.part, stk.atoms⟩).bind fun r st3 => .ok (.mk 3 0 s c ((ns ++ [(x : Int)]) ++ r) []) st3 from by
        rw [HS.out, show 3 - (k + 1) = 2 - k by omega]; simp only [List.append_assoc, List.singleton_append]; rfl)
      clear d4 f4 T8 R8 HR8 K8
      go_wp2
      go_roundw
      case rel => exact ⟨k + 1, ns ++ [(x : Int)], _, av7, _, by omega, by go_num, NL9.out, NB9.out, HR9.out, R9.out, T9.out, NR7.out, NT7.out, NU9.out, fun q hq => (OWN.out q hq).2, SP9.out⟩
      case measure => simp [intOf]; omega
    · have hki : ¬ (k : Int) < 3 := by omega
      have hk3 : k = 3 := by omega
      have SPE := Lib.hid (show refS l tag st = .ok (.mk 3 0 s c ns []) stk from by
        rw [SP.out, show 3 - k = 0 by omega, numsS]; simp only [Res.bind]; rw [List.append_nil])
      clear hk3 hlt
      have k0 := TT.out.cell 0
      have k1 := TT.out.cell 1
      have k2 := TT.out.cell 2
      have k3 := TT.out.cell 3
      have k4 := TT.out.cell 4
      have k5 := TT.out.cell 5
      simp only [List.getElem?_cons_zero, List.getElem?_cons_succ] at k0 k1 k2 k3 k4 k5
      unfold termZ at RR
      go_wp2_with (refine wpList_store_blk rfl _ (.tmp 6) (.tmp 68) rfl w.heap.size 0 [.int .i64 3, .int .i64 0, .string s, .int .u32 c, .slice na k nc, .slice none 0 0] (by rfl) (by rfl) (by kernel_rfl) (by simp [Value.oneCell']) 35 _ RR.out (by show 0 + 6 ≤ 6; decide) ?_; intro wz hCz hgz)
      have hCz' : Cells wz w.heap.size 35 [.int .i64 3, .int .i64 0, .string s, .int .u32 c, .slice na k nc, .slice none 0 0] := hCz
      have z0 := hCz'.cell 0
      have z1 := hCz'.cell 1
      have z2 := hCz'.cell 2
      have z3 := hCz'.cell 3
      have z4 := hCz'.cell 4
      have z5 := hCz'.cell 5
      simp only [List.getElem?_cons_zero, List.getElem?_cons_succ] at z0 z1 z2 z3 z4 z5
      have KZ := Lib.hid (show Keep (fun q => q = w.heap.size) wr wz from (Keep.refl _ wr).grown hgz (fun k hk _ => by cases hk; rfl))
      clear hCz hCz' hgz k0 k1 k2 k3 k4 k5
      go_wp2
      refine bodyPost_ret (v := .agg ([.int .i64 3, .int .i64 0, .string s, .int .u32 c, .slice na k nc, .slice none 0 0]).toArray) (by simp [results, Tryz.results124, go_sem, z0, z1, z2, z3, z4, z5]) rfl ?_
      rw [SPE.out]
      refine ⟨_, avk, rfl, ⟨_, rfl, ?_⟩, RdRes.late HRk.out HGL.out KZ.out (fun q (hq : q = w.heap.size) => by rw [hq]; exact ⟨Nat.le_refl _, NR.out⟩)⟩
      refine TmAt.of ⟨show Part (3 : Int) 0 s (c : Int) from ⟨by decide, by decide, by decide, by decide, by have := HSZ.out; omega, by omega, by have := HXc.out; omega⟩, _, _, _, rfl, ?_, ⟨Nat.le_refl _, Nat.zero_le _⟩, by simp [Tm.args], by simp only [Tm.args]; rw [ArgsAt]; trivial⟩
      have hm := (NU.out.at_ NB.out (by have := NL.out; omega)).keep KZ.out (fun q _ hq (e : q = w.heap.size) => by have := (NU.out.block hq).1; have := HWT.out; omega)
      exact hm.mono (fun q _ hq => ⟨by have := (NU.out.block hq).1; have := HWT.out; omega, NUO.out q hq⟩)
theorem far_any {base g : Nat} {l : List UInt8} {bv av : Value} {st : Rd} {w : World} (tag : Nat) (k : UInt8) (h : RdIs base g l bv st av w) (hG : GtB base w) :
    Calls Tryz.prog 124 #[.pointer (some ⟨g, 0, none⟩), .int .i64 tag, .int .u8 k.toNat] w (RetR base g l bv av w (farS l tag k st) (TmR w)) := by
  by_cases hk : k = 88
  · subst hk; exact pid_any tag h hG
  · have hs : farS l tag k st = refS l tag st := by unfold farS; rw [if_neg hk]
    rw [hs]
    exact ref_any tag _ (u8_ne (n := 88) hk (by decide)) h hG
end Go.Proofs.YtlahagabcnmdiaaGreatDoor
end
section
/- The reference of layer 4: its reader; fail, has, num. -/
open Go Go.RowKit
namespace Go.Proofs.YtlahagabcnmdiaaGreatDoor
set_option linter.unusedVariables false
set_option linter.unusedSimpArgs false

theorem noR_any (at_ code : Int) (w : World) :
    Calls Tryz.prog 54 #[.int .i64 at_, .int .i64 code] w fun e w' => ∃ v, e = .returned v ∧ LinksIs w.heap.size v [⟨etfL, at_, code⟩] w' ∧ Below w.heap.size w w' := by
  go_enter Tryz.func54, Tryz.ntmps54
  go_wp2_with (go_at_call 16; refine (one_any _ _ _ _).mono ?_; rintro e w' ⟨rfl, rfl⟩)
  go_ret
  exact ⟨_, rfl, LinksIs.lit ⟨etfL, at_, code⟩ (Nat.le_refl _), (Below.refl _ _).alloc (Nat.le_refl _) _⟩
theorem overR_any (at_ : Int) (lv : Value) (k : Lk) (l : List Lk) (base : Nat) (w : World) (hlk : LinksIs base lv (k :: l) w) (hl : l.length ≤ 50) :
    Calls Tryz.prog 52 #[.int .i64 at_, lv] w fun e w' => ∃ v, e = .returned v ∧ LinksIs w.heap.size v (⟨etfL, at_, k.code⟩ :: k :: l) w' ∧ Below w.heap.size w w' := by
  have HO := Lib.hid (mOver_any etfL at_ k.code lv (k :: l) base w hlk (by simp; omega))
  obtain ⟨_, hn⟩ | ⟨g, c, rfl, hbg, hgw, hgc, hgm⟩ := hlk.shape
  · cases hn
  have c2 := hlk.cells 0 (by simp) 2 (by omega)
  simp only [lkV, List.getElem_cons_zero, List.getElem?_cons_zero, List.getElem?_cons_succ, Nat.zero_mul, Nat.zero_add] at c2
  have hlen : (0 : Int) < ((k :: l).length : Int) := by simp
  clear hlk
  go_enter Tryz.func52, Tryz.ntmps52
  go_wp2_with fail
  refine HO.out.mono ?_
  rintro e w1 ⟨v, rfl, h1, hb1⟩
  go_wp2
  go_ret
  exact ⟨_, rfl, h1, hb1⟩
theorem run_neqLinks (a : Option Addr) (n c : Nat) (w : World) : (binOp .neq 45 (.slice a n c) (.slice none 0 0)).run Tryz.prog w = .ok (.bool (!a.isNone)) w := run_neq_slice_nil_any (P := Tryz.prog) w 45 112 a n c 0 0 Tryz.underlying45
theorem run_eqlLinks (a : Option Addr) (n c : Nat) (w : World) : (binOp .eql 45 (.slice a n c) (.slice none 0 0)).run Tryz.prog w = .ok (.bool a.isNone) w := Lib.run_eql_slice_nil (P := Tryz.prog) w 45 112 a n c 0 0 Tryz.underlying45
/-- what the reference's reader keeps in order -/
structure RfOk (l : List UInt8) (st : Rd) : Prop where
  le : st.at_ ≤ 65536
  in_ : st.at_ ≤ l.length
  part : st.part ≤ 4097
  atoms : st.atoms.length ≤ st.part
/-- a reader of the reference: its cells at g, the bytes below base; its atoms and its faults of its own -/
structure RfIs (base g : Nat) (l : List UInt8) (bv : Value) (st : Rd) (av lv : Value) (k : List Lk) (w : World) : Prop where
  hg : base ≤ g
  cells : Cells w g 178 [bv, .int .i64 st.at_, .int .i64 st.part, av, lv]
  buf : RSl bv l w
  far : ∀ (a : Addr) n c, l ≠ [] → bv = .slice (some a) n c → a.block < base
  atoms : StrsIs av st.atoms w
  own : ∀ q, av.ownBlock = some q → base ≤ q
  links : LinksIs base lv k w
  nil : k = [] → lv = .slice none 0 0
  ok : RfOk l st
theorem LinksIs.ne_cells {base g : Nat} {v : Value} {k : List Lk} {w : World} {t : TypeId} {cs : List Value} (h : LinksIs base v k w) (hC : Cells w g t cs) (ht : 112 ≠ t) {q : Nat} (hq : v.ownBlock = some q) : q ≠ g := by
  rintro rfl
  obtain ⟨cur, hc⟩ := h.etype hq
  unfold Cells at hC
  rw [hc] at hC
  injection hC with hC
  injection hC with _ h2
  exact ht h2
theorem RfIs.ne {base g : Nat} {l : List UInt8} {bv av lv : Value} {st : Rd} {k : List Lk} {w : World} (h : RfIs base g l bv st av lv k w) {q : Nat} (hq : av.ownBlock = some q) : q ≠ g := by
  intro e
  rw [e] at hq
  exact h.atoms.ne_cells h.cells (by decide) hq
theorem RfIs.lt {base g : Nat} {l : List UInt8} {bv av lv : Value} {st : Rd} {k : List Lk} {w : World} (h : RfIs base g l bv st av lv k w) {q : Nat} (hq : LsK g av q) : q < w.heap.size ∧ base ≤ q := by
  rcases hq with rfl | hq
  · exact ⟨h.cells.lt, h.hg⟩
  · exact ⟨(h.atoms.lt hq).1, h.own q hq⟩
theorem RfIs.below {base g : Nat} {l : List UInt8} {bv av lv : Value} {st : Rd} {k : List Lk} {w w' : World} (h : RfIs base g l bv st av lv k w) (hb : Below w.heap.size w w') : RfIs base g l bv st av lv k w' :=
  ⟨h.hg, h.cells.below hb, h.buf.below hb, h.far, h.atoms.frame fun q hq => hb.block q (h.atoms.lt hq).1, h.own, h.links.below hb (Nat.le_refl _), h.nil, h.ok⟩
theorem RfIs.form {base g : Nat} {l : List UInt8} {bv av lv : Value} {st : Rd} {k : List Lk} {w : World} (h : RfIs base g l bv st av lv k w) : ∃ a c, bv = .slice a l.length c := by
  obtain ⟨a, c, e, _⟩ := h.buf
  exact ⟨a, c, e⟩
theorem RfIs.aform {base g : Nat} {l : List UInt8} {bv av lv : Value} {st : Rd} {k : List Lk} {w : World} (h : RfIs base g l bv st av lv k w) : ∃ a c, av = .slice a st.atoms.length c := by
  rcases h.atoms.shape with ⟨rfl, e⟩ | ⟨q, c, rfl, _⟩
  · exact ⟨none, 0, by rw [e]; rfl⟩
  · exact ⟨_, c, rfl⟩
theorem RfIs.lform {base g : Nat} {l : List UInt8} {bv av lv : Value} {st : Rd} {k : List Lk} {w : World} (h : RfIs base g l bv st av lv k w) : (k = [] ∧ lv = .slice none 0 0) ∨ (k ≠ [] ∧ ∃ q n c, lv = .slice (some ⟨q, 0, none⟩) n c) := by
  by_cases hk : k = []
  · exact .inl ⟨hk, h.nil hk⟩
  · rcases h.links.shape with ⟨_, e⟩ | ⟨q, c, rfl, _⟩
    · exact absurd e hk
    · exact .inr ⟨hk, q, _, c, rfl⟩
/-- the place is turned -/
theorem RfIs.place {base g : Nat} {l : List UInt8} {bv av lv : Value} {st : Rd} {k : List Lk} {w : World} (h : RfIs base g l bv st av lv k w) (n : Nat) (hn : RfOk l ⟨n, st.part, st.atoms⟩) : RfIs base g l bv ⟨n, st.part, st.atoms⟩ av lv k (w.setCell ⟨g, 1, none⟩ (.int .i64 n)) :=
  ⟨h.hg, by have := h.cells.set_ 1 (.int .i64 n); simpa using this, h.buf.far_keep h.far (fun q hq => Below.heap_setCell _ _ _ _ (by have := h.hg; show q ≠ g; omega)), h.far, h.atoms.frame fun q hq => Below.heap_setCell _ _ _ _ (h.ne hq), h.own, h.links.frame fun q hq => Below.heap_setCell _ _ _ _ (h.links.ne_cells h.cells (by decide) hq), h.nil, hn⟩
theorem RfIs.parted {base g : Nat} {l : List UInt8} {bv av lv : Value} {st : Rd} {k : List Lk} {w : World} (h : RfIs base g l bv st av lv k w) (n : Nat) (hn : RfOk l ⟨st.at_, n, st.atoms⟩) : RfIs base g l bv ⟨st.at_, n, st.atoms⟩ av lv k (w.setCell ⟨g, 2, none⟩ (.int .i64 n)) :=
  ⟨h.hg, by have := h.cells.set_ 2 (.int .i64 n); simpa using this, h.buf.far_keep h.far (fun q hq => Below.heap_setCell _ _ _ _ (by have := h.hg; show q ≠ g; omega)), h.far, h.atoms.frame fun q hq => Below.heap_setCell _ _ _ _ (h.ne hq), h.own, h.links.frame fun q hq => Below.heap_setCell _ _ _ _ (h.links.ne_cells h.cells (by decide) hq), h.nil, hn⟩
/-- a fault is laid -/
theorem RfIs.failed {base g : Nat} {l : List UInt8} {bv av lv lv' : Value} {st : Rd} {k k' : List Lk} {w : World} (h : RfIs base g l bv st av lv k w) (hl : LinksIs base lv' k' w) (hk : k' ≠ []) : RfIs base g l bv st av lv' k' (w.setCell ⟨g, 4, none⟩ lv') :=
  ⟨h.hg, by have := h.cells.set_ 4 lv'; simpa using this, h.buf.far_keep h.far (fun q hq => Below.heap_setCell _ _ _ _ (by have := h.hg; show q ≠ g; omega)), h.far, h.atoms.frame fun q hq => Below.heap_setCell _ _ _ _ (h.ne hq), h.own, hl.frame fun q hq => Below.heap_setCell _ _ _ _ (hl.ne_cells h.cells (by decide) hq), fun e => absurd e hk, h.ok⟩
/-- a reader of the reference behind a call that began in w, with the atoms av -/
structure RfRes (base g : Nat) (l : List UInt8) (bv av : Value) (w : World) (st : Rd) (av' lv : Value) (k : List Lk) (w' : World) : Prop where
  is_ : RfIs base g l bv st av' lv k w'
  keep : Keep (LsK g av) w w'
  own : ∀ q, av'.ownBlock = some q → av.ownBlock = some q ∨ w.heap.size ≤ q
theorem RfRes.trans {base g : Nat} {l : List UInt8} {bv av av1 av2 lv1 lv2 : Value} {k1 k2 : List Lk} {w w1 w2 : World} {st1 st2 : Rd} (hg : g < w.heap.size) (hv : ∀ q, av.ownBlock = some q → q < w.heap.size) (h1 : RfRes base g l bv av w st1 av1 lv1 k1 w1) (h2 : RfRes base g l bv av1 w1 st2 av2 lv2 k2 w2) : RfRes base g l bv av w st2 av2 lv2 k2 w2 :=
  ⟨h2.is_, lsk_trans h1.keep h1.own hg hv h2.keep, fun q hq => by
    rcases h2.own q hq with e | e
    · exact h1.own q e
    · exact .inr (Nat.le_trans h1.keep.size e)⟩
theorem RfRes.refl {base g : Nat} {l : List UInt8} {bv av lv : Value} {k : List Lk} {w : World} {st : Rd} (h : RfIs base g l bv st av lv k w) : RfRes base g l bv av w st av lv k w := ⟨h, Keep.refl _ _, fun _ hq => .inl hq⟩
theorem RfRes.below {base g : Nat} {l : List UInt8} {bv av lv : Value} {k : List Lk} {w w' : World} {st : Rd} (h : RfIs base g l bv st av lv k w) (hb : Below w.heap.size w w') : RfRes base g l bv av w st av lv k w' := ⟨h.below hb, keepB hb, fun _ hq => .inl hq⟩
theorem RfRes.place {base g : Nat} {l : List UInt8} {bv av lv : Value} {k : List Lk} {st : Rd} {w : World} (h : RfIs base g l bv st av lv k w) (n : Nat) (hn : RfOk l ⟨n, st.part, st.atoms⟩) : RfRes base g l bv av w ⟨n, st.part, st.atoms⟩ av lv k (w.setCell ⟨g, 1, none⟩ (.int .i64 n)) :=
  ⟨h.place n hn, (Keep.refl _ _).setCell (p := ⟨g, 1, none⟩) (fun _ => .inl rfl) _, fun _ hq => .inl hq⟩
theorem RfRes.parted {base g : Nat} {l : List UInt8} {bv av lv : Value} {k : List Lk} {st : Rd} {w : World} (h : RfIs base g l bv st av lv k w) (n : Nat) (hn : RfOk l ⟨st.at_, n, st.atoms⟩) : RfRes base g l bv av w ⟨st.at_, n, st.atoms⟩ av lv k (w.setCell ⟨g, 2, none⟩ (.int .i64 n)) :=
  ⟨h.parted n hn, (Keep.refl _ _).setCell (p := ⟨g, 2, none⟩) (fun _ => .inl rfl) _, fun _ hq => .inl hq⟩
theorem RfRes.failed {base g : Nat} {l : List UInt8} {bv av lv lv' : Value} {k k' : List Lk} {st : Rd} {w : World} (h : RfIs base g l bv st av lv k w) (hl : LinksIs base lv' k' w) (hk : k' ≠ []) : RfRes base g l bv av w st av lv' k' (w.setCell ⟨g, 4, none⟩ lv') :=
  ⟨h.failed hl hk, (Keep.refl _ _).setCell (p := ⟨g, 4, none⟩) (fun _ => .inl rfl) _, fun _ hq => .inl hq⟩
theorem RfRes.more {base g : Nat} {l : List UInt8} {bv av av' lv : Value} {k : List Lk} {st : Rd} {w w1 w2 : World} (h : RfRes base g l bv av w st av' lv k w1) (hb : Below w1.heap.size w1 w2) : RfRes base g l bv av w st av' lv k w2 :=
  ⟨h.is_.below hb, h.keep.trans (keepB (S := fun _ => False) hb) (fun _ _ h => h.elim), h.own⟩
/-- a result's own block is written -/
theorem RfIs.res {base g B : Nat} {l : List UInt8} {bv av lv : Value} {k : List Lk} {st : Rd} {w w' : World} {cs : List Value} (h : RfIs base g l bv st av lv k w) (kz : Keep (fun q => q = B) w w') (hB : base ≤ B) (hC : Cells w B 35 cs) : RfIs base g l bv st av lv k w' := by
  have hgB : g ≠ B := fun e => by
    have h1 := h.cells
    unfold Cells at h1 hC
    rw [e, hC] at h1
    injection h1 with h1
    injection h1 with _ h2
    exact absurd h2 (by decide)
  refine ⟨h.hg, h.cells.keep kz hgB, ?_, h.far, h.atoms.frame fun q hq => kz.block q (h.atoms.lt hq).1 (fun e => h.atoms.ne_cells hC (by decide) (e ▸ hq)), h.own, h.links.frame fun q hq => kz.block q (h.links.block hq).2 (h.links.ne_cells hC (by decide) hq), h.nil, h.ok⟩
  by_cases hl : l = []
  · obtain ⟨a, c, e, h1, h2, _⟩ := h.buf
    exact ⟨a, c, e, h1, h2, fun j hj => by rw [hl] at hj; cases hj⟩
  · obtain ⟨a, c, rfl, h1, h2, hc⟩ := h.buf
    refine ⟨a, c, rfl, h1, h2, fun j hj => ?_⟩
    obtain ⟨q, o, ha, hx⟩ := hc j hj
    refine ⟨q, o, ha, ?_⟩
    have := h.far ⟨q, o, none⟩ _ _ hl (by rw [ha])
    have hq : q < w.heap.size := World.block_lt_of_cell? w _ hx
    have e := kz.block q hq (fun e => by have : q < base := this; omega)
    unfold World.cell? at hx ⊢
    rw [e]; exact hx
theorem RfRes.res {base g B : Nat} {l : List UInt8} {bv av av' lv : Value} {k : List Lk} {st : Rd} {w w1 w2 : World} {cs : List Value} (h : RfRes base g l bv av w st av' lv k w1) (kz : Keep (fun q => q = B) w1 w2) (hB : base ≤ B) (hw : w.heap.size ≤ B) (hC : Cells w1 B 35 cs) : RfRes base g l bv av w st av' lv k w2 :=
  ⟨h.is_.res kz hB hC, h.keep.trans kz (fun q hq e => by omega), h.own⟩
theorem RfRes.fails {base g : Nat} {l : List UInt8} {bv av av' lv lv' : Value} {k k' : List Lk} {st : Rd} {w w1 : World} (hg : g < w.heap.size) (hv : ∀ q, av.ownBlock = some q → q < w.heap.size) (h : RfRes base g l bv av w st av' lv k w1) (hl : LinksIs base lv' k' w1) (hk : k' ≠ []) : RfRes base g l bv av w st av' lv' k' (w1.setCell ⟨g, 4, none⟩ lv') :=
  RfRes.trans hg hv h (RfRes.failed h.is_ hl hk)
set_option maxHeartbeats 4000000 in
set_option maxRecDepth 100000 in
theorem rfFail_any {base g : Nat} {l : List UInt8} {bv av lv : Value} {st : Rd} {w : World} (at_ code : Int) (h : RfIs base g l bv st av lv [] w) :
    Calls Tryz.prog 125 #[.pointer (some ⟨g, 0, none⟩), .int .i64 at_, .int .i64 code] w fun e w' => e = .returned (.agg termZ.toArray) ∧ ∃ lv', RfRes base g l bv av w st av lv' [⟨etfL, at_, code⟩] w' := by
  obtain rfl := h.nil rfl
  have HG := Lib.hid h.cells.lt
  have HV := Lib.hid (fun q (hq : av.ownBlock = some q) => (h.atoms.lt hq).1)
  have HBS := Lib.hid (Nat.le_trans h.hg (Nat.le_of_lt h.cells.lt))
  have BX := Lib.hid ((Below.refl w.heap.size w).alloc (Nat.le_refl _) (.cells #[.int .i64 0, .int .i64 0, .string ⟨#[]⟩, .int .u32 0, .slice none 0 0, .slice none 0 0] 35 (0, 0)))
  have R1 := Lib.hid (show Cells (w.alloc (.cells #[.int .i64 0, .int .i64 0, .string ⟨#[]⟩, .int .u32 0, .slice none 0 0, .slice none 0 0] 35 (0, 0))) w.heap.size 35 termZ from Cells.new w 35 termZ)
  have RA := Lib.hid (RfRes.below h BX.out)
  have HNE := Lib.hid (show w.heap.size ≠ g from fun e => by have := HG.out; omega)
  have HNO := Lib.hid (fun W => noR_any at_ code W)
  have hel := run_eqlLinks
  clear h
  go_enter Tryz.func125, Tryz.ntmps125
  go_upto_region 1 with (fail)
  generalize w.alloc (.cells #[.int .i64 0, .int .i64 0, .string ⟨#[]⟩, .int .u32 0, .slice none 0 0, .slice none 0 0] 35 (0, 0)) = w1 at *
  unfold termZ at *
  have c4 := RA.out.is_.cells.cell 4
  simp only [List.getElem?_cons_zero, List.getElem?_cons_succ] at c4
  go_wp2_with fail
  refine (HNO.out _).mono ?_
  rintro e w2 ⟨lv', rfl, hl, hb⟩
  have RB := Lib.hid (RA.out.more hb)
  have R2 := Lib.hid (R1.out.below hb)
  have HL := Lib.hid (hl.base (show base ≤ w1.heap.size from Nat.le_trans HBS.out BX.out.size))
  obtain ⟨sg, sn, sc, rfl⟩ : ∃ g n c, lv' = .slice (some ⟨g, 0, none⟩) n c := by
    rcases hl.shape with ⟨_, e⟩ | ⟨q, c, rfl, _⟩
    · cases e
    · exact ⟨q, _, c, rfl⟩
  have RC := Lib.hid (RfRes.fails HG.out HV.out RB.out HL.out (by simp))
  have R3 := Lib.hid (R2.out.far (p := ⟨g, 4, none⟩) HNE.out (.slice (some ⟨sg, 0, none⟩) sn sc))
  have d4 := RB.out.is_.cells.cell 4
  have f4 := RB.out.is_.cells.frozen 4
  simp only [List.getElem?_cons_zero, List.getElem?_cons_succ] at d4
  clear c4 hl hb
  go_upto_region 3 with (fail)
  generalize w2.setCell ⟨g, 4, none⟩ (.slice (some ⟨sg, 0, none⟩) sn sc) = w3 at *
  clear d4 f4
  go_wp2_with (refine wpList_store_blk rfl _ (.tmp 6) (.tmp 18) rfl w.heap.size 0 [.int .i64 0, .int .i64 0, .string ⟨#[]⟩, .int .u32 0, .slice none 0 0, .slice none 0 0] (by rfl) (by rfl) (by kernel_rfl) (by simp [Value.oneCell']) 35 _ R3.out (by show 0 + 6 ≤ 6; decide) ?_; intro wz hCz hgz; refine stop ?_)
  refine Stopped.of ?_
  have C0 : Cells wz w.heap.size 35 [.int .i64 0, .int .i64 0, .string ⟨#[]⟩, .int .u32 0, .slice none 0 0, .slice none 0 0] := hCz
  have z0 := C0.cell 0
  have z1 := C0.cell 1
  have z2 := C0.cell 2
  have z3 := C0.cell 3
  have z4 := C0.cell 4
  have z5 := C0.cell 5
  simp only [List.getElem?_cons_zero, List.getElem?_cons_succ] at z0 z1 z2 z3 z4 z5
  have KZ := Lib.hid (show Keep (fun q => q = w.heap.size) w3 wz from (Keep.refl _ _).grown hgz (fun k hk _ => by cases hk; rfl))
  clear C0 hCz hgz
  go_wp2
  refine bodyPost_ret (v := .agg #[.int .i64 0, .int .i64 0, .string ⟨#[]⟩, .int .u32 0, .slice none 0 0, .slice none 0 0]) (by simp [results, Tryz.results125, go_sem, z0, z1, z2, z3, z4, z5]) rfl ?_
  exact ⟨rfl, _, RC.out.res KZ.out HBS.out (Nat.le_refl _) R3.out⟩
/-- are so many own bytes there? -/
def hasS (l : List UInt8) (tag n : Nat) : List Lk := if 65536 < tag + n then [⟨etfL, tag, 4⟩] else if l.length < tag + n then [⟨etfL, tag, 82⟩] else []
theorem hasS_need (l : List UInt8) (tag m n : Nat) (p : Nat) (a : List ByteArray) : needS l tag n ⟨tag + m, p, a⟩ = if hasS l tag (m + n) = [] then .ok () ⟨tag + (m + n), p, a⟩ else .bad (hasS l tag (m + n)) := by
  unfold needS hasS
  dsimp only
  rw [Nat.add_assoc]
  split
  · simp
  · split <;> simp
set_option maxHeartbeats 4000000 in
set_option maxRecDepth 100000 in
theorem rfHas_any {base g : Nat} {l : List UInt8} {bv av lv : Value} {st : Rd} {w : World} (tag n : Nat) (h : RfIs base g l bv st av lv [] w) (ht : tag ≤ 100000) (hn : n ≤ 5000000) :
    Calls Tryz.prog 139 #[.pointer (some ⟨g, 0, none⟩), .int .i64 tag, .int .i64 n] w fun e w' => e = .returned (.bool (decide (hasS l tag n = []))) ∧ ∃ lv', RfRes base g l bv av w st av lv' (hasS l tag n) w' := by
  obtain rfl := h.nil rfl
  have H := Lib.hid h
  have hne := run_neqLinks
  have c0 := h.cells.cell 0
  have c4 := h.cells.cell 4
  simp only [List.getElem?_cons_zero, List.getElem?_cons_succ] at c0 c4
  obtain ⟨ba, bc, rfl⟩ := h.form
  have HFA := Lib.hid (fun code => rfFail_any (tag : Int) code h)
  have hll : (l.length : Int) ≤ 9223372036854775807 := by obtain ⟨_, c, _, h1, h2, _⟩ := h.buf; unfold maxLen at h2; omega
  have ht0 : (0 : Int) ≤ (tag : Int) := by omega
  have ht1 : (tag : Int) ≤ 100000 := by omega
  have hn0 : (0 : Int) ≤ (n : Int) := by omega
  have hn1 : (n : Int) ≤ 5000000 := by omega
  clear h
  by_cases h1 : 65536 < tag + n
  · have h1i : (65536 : Int) < (tag : Int) + (n : Int) := by omega
    have HS := Lib.hid (show hasS l tag n = [⟨etfL, tag, 4⟩] by unfold hasS; rw [if_pos h1])
    go_enter Tryz.func139, Tryz.ntmps139
    go_wp2_with fail
    refine (HFA.out _).mono ?_
    rintro e w2 ⟨rfl, lv', hr⟩
    have HR := Lib.hid hr
    clear hr c0 c4
    go_wp2
    go_ret
    rw [HS.out]
    exact ⟨by simp, lv', HR.out⟩
  · have h1i : ¬ (65536 : Int) < (tag : Int) + (n : Int) := by omega
    by_cases h2 : l.length < tag + n
    · have h2i : (l.length : Int) < (tag : Int) + (n : Int) := by omega
      have HS := Lib.hid (show hasS l tag n = [⟨etfL, tag, 82⟩] by unfold hasS; rw [if_neg h1, if_pos h2])
      go_enter Tryz.func139, Tryz.ntmps139
      go_wp2_with fail
      refine (HFA.out _).mono ?_
      rintro e w2 ⟨rfl, lv', hr⟩
      have HR := Lib.hid hr
      clear hr c0 c4
      go_wp2
      go_ret
      rw [HS.out]
      exact ⟨by simp, lv', HR.out⟩
    · have h2i : ¬ (l.length : Int) < (tag : Int) + (n : Int) := by omega
      have HS := Lib.hid (show hasS l tag n = [] by unfold hasS; rw [if_neg h1, if_neg h2])
      clear HFA
      go_enter Tryz.func139, Tryz.ntmps139
      go_wp2
      go_ret
      rw [HS.out]
      exact ⟨by simp, _, RfRes.refl H.out⟩
theorem or_join32 (n c : Int) (h0 : 0 ≤ n) (h1 : n < 16777216) (h2 : 0 ≤ c) (h3 : c < 256) : bits .or .u32 (n * 256) c = n * 256 + c :=
  bits_join .u32 32 (by decide) (fun x hx0 hx1 => by simp [IntKind.wrap, IntKind.bits, IntKind.signed]; omega) 8 _ _ (by omega) (by omega) (by omega) h2 (by omega) (by omega)
set_option maxHeartbeats 4000000 in
set_option maxRecDepth 100000 in
theorem rfNum_any {base g : Nat} {l : List UInt8} {bv av lv : Value} {st : Rd} {k0 : List Lk} {w : World} (from_ n : Nat) (h : RfIs base g l bv st av lv k0 w) (hf : from_ + n ≤ l.length) (hn : n ≤ 4) (hf1 : from_ ≤ 100000) :
    Calls Tryz.prog 140 #[.pointer (some ⟨g, 0, none⟩), .int .i64 from_, .int .i64 n] w fun e w' => e = .returned (.int .u32 (numS (cutB l from_ n))) ∧ w = w' := by
  have H := Lib.hid h
  have c0 := h.cells.cell 0
  simp only [List.getElem?_cons_zero, List.getElem?_cons_succ] at c0
  obtain ⟨ba, bc, rfl⟩ := h.form
  have HBF := Lib.hid h.buf
  have HCL := Lib.hid (show (cutB l from_ n).length = n by unfold cutB; rw [List.length_take, List.length_drop]; omega)
  have hn1 : (n : Int) ≤ 4 := by omega
  have hf0 : (0 : Int) ≤ (from_ : Int) := by omega
  have hf2 : (from_ : Int) ≤ 100000 := by omega
  clear h
  go_enter Tryz.func140, Tryz.ntmps140
  go_wp2_with fail
  go_loopw [7, 8] (fun x i wr => ∃ k : Nat, k ≤ n ∧ i = .int .i64 k ∧ x = .int .u32 (numS (cutB l from_ k)) ∧ wr = w) (fun _ i _ => n - (intOf i).toNat)
  case atStart => exact ⟨0, Nat.zero_le _, rfl, by unfold cutB; simp [numS], rfl⟩
  case round =>
    obtain ⟨k, hk, rfl, rfl, rfl⟩ := hrel
    by_cases hlt : k < n
    · have hki : (k : Int) < (n : Int) := by omega
      have hk0 : (0 : Int) ≤ (k : Int) := by omega
      have hix : ((from_ : Int) + (k : Int)) < (l.length : Int) := by omega
      obtain ⟨q, o, rfl, hc⟩ := HBF.out.get (from_ + k) (by omega)
      have HT := Lib.hid (show numS (cutB l from_ (k + 1)) = numS (cutB l from_ k) * 256 + (l.getD (from_ + k) 0).toNat from by
        have h1 := numS_take (cutB l from_ n) k (by rw [HCL.out]; exact hlt)
        rw [cutB_take _ _ _ _ (by omega), cutB_take _ _ _ _ (by omega)] at h1
        rw [h1]
        congr 2
        unfold cutB
        simp [List.getD_eq_getElem?_getD, List.getElem?_take, hlt])
      have hb0 : ((numS (cutB l from_ k) : Nat) : Int) < 16777216 := by
        have h1 := numS_lt (cutB l from_ k)
        have h2 : (cutB l from_ k).length ≤ 3 := by unfold cutB; rw [List.length_take]; omega
        have h3 := Nat.pow_le_pow_right (n := 256) (by decide) h2
        have h4 : numS (cutB l from_ k) < 256 ^ 3 := Nat.lt_of_lt_of_le h1 h3
        have : (256 : Nat) ^ 3 = 16777216 := by decide
        omega
      have hb1 : (0 : Int) ≤ ((numS (cutB l from_ k) : Nat) : Int) := by omega
      have hc0 : (((l.getD (from_ + k) 0).toNat : Nat) : Int) < 256 := by have := (l.getD (from_ + k) 0).toNat_lt; omega
      have hc1 : (0 : Int) ≤ (((l.getD (from_ + k) 0).toNat : Nat) : Int) := by omega
      generalize (l.getD (from_ + k) 0).toNat = cv at *
      generalize hNV : numS (cutB l from_ k) = nv at *
      have hor := or_join32 nv cv hb1 hb0 hc1 hc0
      have hw1 : IntKind.u32.wrap ((nv : Int) * 256) = (nv : Int) * 256 := by simp [IntKind.wrap, IntKind.bits, IntKind.signed]; omega
      clear hNV
      go_wp2
      go_roundw
      case rel => exact ⟨k + 1, by omega, by go_num, by rw [HT.out]; go_num, trivial⟩
      case measure => simp [intOf]; omega
    · have hki : ¬ (k : Int) < (n : Int) := by omega
      have HE := Lib.hid (show k = n by omega)
      go_wp2
      go_ret
      rw [← HE.out]
      exact ⟨rfl, rfl⟩
end Go.Proofs.YtlahagabcnmdiaaGreatDoor
end
section
/- The reference of layer 4: its reader: atom, named. Printed by wip/rfb.py. -/
open Go Go.RowKit
namespace Go.Proofs.YtlahagabcnmdiaaGreatDoor
set_option linter.unusedVariables false
set_option linter.unusedSimpArgs false

theorem RSl.len_le {v : Value} {l : List UInt8} {w : World} (h : RSl v l w) : (l.length : Int) ≤ 9223372036854775807 := by
  obtain ⟨_, c, _, h1, h2, _⟩ := h; unfold maxLen at h2; omega
/-- a part of bytes that lie in a block, and its text -/
theorem RSl.sub2 {q o c : Nat} {l : List UInt8} {w : World} (h : RSl (.slice (some ⟨q, o, none⟩) l.length c) l w) (lo n : Nat) (h2 : lo + n ≤ l.length) :
    ∃ o' c', (∀ w', (Instr.slice 40 (.slice (some ⟨q, o, none⟩) l.length c) (some (.int .i64 (lo : Int))) (some (.int .i64 ((lo + n : Nat) : Int))) none).run Tryz.prog w' = .ok (.slice (some ⟨q, o', none⟩) n c') w') ∧
      (convert 40 9 (.slice (some ⟨q, o', none⟩) n c')).run Tryz.prog w = .ok (.string ⟨(cutB l lo n).toArray⟩) w := by
  obtain ⟨a, c, e, hc1, hc2, hc⟩ := h
  cases e
  have he : Tryz.prog.underlying 40 = some (.slice (Tryz.prog.elem 40)) := by kernel_rfl
  have hs : ∀ w', (sizeOf (Tryz.prog.elem 40)).run Tryz.prog w' = .ok 1 w' := fun w' => by kernel_rfl
  have hlen : (cutB l lo n).length = n := by unfold cutB; rw [List.length_take, List.length_drop]; omega
  refine ⟨if c = lo then o else o + lo, c - lo, fun w' => ?_, ?_⟩
  · rw [run_slice_lh (P := Tryz.prog) w' 40 (some ⟨q, o, none⟩) l.length c he .i64 .i64 (lo : Int) ((lo + n : Nat) : Int) (by omega) (by omega) (by omega), hs]
    by_cases hcl : c = lo
    · subst hcl
      simp [Result.andThen, sliced]
      omega
    · simp [Result.andThen, sliced, hcl, Addr.add]
      omega
  · rw [← strOfNums_bytes]
    refine run_convert_bytes_arg w 40 5 Tryz.underlying40 Tryz.underlying5 q _ n (c - lo) _ (by simp [hlen]) ?_ 9 Tryz.underlying9
    intro i hi
    obtain ⟨g', o', e, hx⟩ := hc (lo + i) (by omega)
    cases e
    rw [if_neg (by omega), Nat.add_assoc, hx]
    have hg : (cutB l lo n)[i]? = some l[lo + i] := by
      unfold cutB
      rw [List.getElem?_take_of_lt hi, List.getElem?_drop, List.getElem?_eq_getElem (by omega)]
    simp [byteV, List.getD, hg]
/-- behind a call of atom -/
def AtR (base g : Nat) (l : List UInt8) (bv av : Value) (w : World) (st : Rd) (r : Res ByteArray) (e : Ending) (w' : World) : Prop :=
  ∃ (s : ByteArray) (nx : Nat) (av' lv' : Value) (st' : Rd) (k : List Lk), e = .returned (.tuple #[.string s, .int .i64 nx]) ∧ RfRes base g l bv av w st' av' lv' k w' ∧ nx ≤ 200000 ∧ st'.part = st.part ∧
    match r with
    | .ok x s2 => k = [] ∧ s = x ∧ nx = s2.at_ ∧ st' = ⟨st.at_, st.part, s2.atoms⟩
    | .bad kk => k = kk ∧ kk ≠ []
theorem hasS_len {l : List UInt8} {tag n : Nat} (h : hasS l tag n = []) : tag + n ≤ l.length ∧ tag + n ≤ 65536 := by
  unfold hasS at h
  split at h
  · cases h
  · split at h
    · cases h
    · omega
theorem txtS_has (l : List UInt8) (tag m more p : Nat) (a : List ByteArray) (wide : Bool) (hd n1 : Nat) (h1 : hd = if wide then 3 else 2) (h2 : n1 = if wide then 2 else 1) : txtS l tag wide more ⟨tag + m + 1, p, a⟩ =
    if hasS l tag (m + hd) = [] then (if hasS l tag (m + hd + numS (cutB l (tag + m + 1) n1) + more) = [] then .ok ⟨(cutB l (tag + m + hd) (numS (cutB l (tag + m + 1) n1))).toArray⟩ ⟨tag + m + hd + numS (cutB l (tag + m + 1) n1), p, a⟩
      else .bad (hasS l tag (m + hd + numS (cutB l (tag + m + 1) n1) + more))) else .bad (hasS l tag (m + hd)) := by
  have e1 : (if wide = true then 2 else 1) = n1 := h2.symm
  have e2 : hd = n1 + 1 := by rw [h1, h2]; split <;> rfl
  unfold txtS
  rw [e1, show tag + m + 1 = tag + (m + 1) by omega, hasS_need, show m + 1 + n1 = m + hd by omega]
  by_cases hs : hasS l tag (m + hd) = []
  · rw [if_pos hs, if_pos hs]
    simp only [Res.bind]
    rw [show tag + (m + hd) = tag + (m + hd) from rfl, hasS_need]
    generalize numS (cutB l (tag + (m + 1)) n1) = nn
    rw [show m + hd + (nn + more) = m + hd + nn + more by omega]
    by_cases h3 : hasS l tag (m + hd + nn + more) = []
    · rw [if_pos h3, if_pos h3]
      simp only
      rw [show tag + (m + hd) = tag + m + hd by omega]
      congr 2
      omega
    · rw [if_neg h3, if_neg h3]
  · rw [if_neg hs, if_neg hs]
    rfl
set_option maxHeartbeats 16000000 in
set_option maxRecDepth 100000 in
theorem rfAtom_wide {base g : Nat} {l : List UInt8} {bv av lv : Value} {st : Rd} {w : World} (tag m more : Nat) (h : RfIs base g l bv st av lv [] w) (hm : tag + m < l.length) (ht : tag + m ≤ 65536) (hmo : more ≤ 100) (hw : (l.getD (tag + m) 0 == 118) = true) :
    Calls Tryz.prog 141 #[.pointer (some ⟨g, 0, none⟩), .int .i64 tag, .int .i64 (tag + m : Nat), .int .i64 more] w (AtR base g l bv av w st (txtS l tag true more ⟨tag + m + 1, st.part, st.atoms⟩)) := by
  have HG := Lib.hid h.cells.lt
  have HV := Lib.hid (fun q (hq : av.ownBlock = some q) => (h.atoms.lt hq).1)
  have HOK := Lib.hid h.ok
  have HI := Lib.hid h
  have HLL := Lib.hid h.buf.len_le
  have c0 := h.cells.cell 0
  simp only [List.getElem?_cons_zero, List.getElem?_cons_succ] at c0
  obtain ⟨ba, bc, rfl⟩ := h.form
  obtain ⟨q, o, rfl, hx⟩ := h.buf.get (tag + m) hm
  have hcv : ((((l.getD (tag + m) 0).toNat : Nat) : Int) == 118) = true := by
    rw [beq_iff_eq.1 hw]; decide
  have hmi : ((tag : Int) + (m : Int)) < (l.length : Int) := by omega
  have ht0 : (0 : Int) ≤ (tag : Int) := by omega
  have ht1 : (tag : Int) ≤ 65536 := by omega
  have hm0 : (0 : Int) ≤ (m : Int) := by omega
  have hm1 : (m : Int) ≤ 65536 := by omega
  have hmo0 : (0 : Int) ≤ (more : Int) := by omega
  have hmo1 : (more : Int) ≤ 100 := by omega
  have hsub : (tag : Int) + (m : Int) - (tag : Int) = (m : Int) := by omega
  have hll : (l.length : Int) ≤ 9223372036854775807 := HLL.out
  have HH1 := Lib.hid (show Calls Tryz.prog 139 #[.pointer (some ⟨g, 0, none⟩), .int .i64 tag, .int .i64 ((m : Int) + 3)] w _ from rfHas_any tag (m + 3) h (by omega) (by omega))
  generalize (l.getD (tag + m) 0).toNat = cv at *
  rw [show ((tag + m : Nat) : Int) = (tag : Int) + (m : Int) by omega]
  clear h hw
  go_enter Tryz.func141, Tryz.ntmps141
  go_wp2_with fail
  refine HH1.out.mono ?_
  rintro e w2 ⟨rfl, lv2, hr⟩
  have HT := Lib.hid (txtS_has l tag m more st.part st.atoms true 3 2 rfl rfl)
  by_cases hs1 : hasS l tag (m + 3) = []
  · rw [hs1] at hr
    obtain rfl := hr.is_.nil rfl
    rw [decide_eq_true hs1]
    have R2 := Lib.hid hr
    have HT2 := Lib.hid (HT.out.trans (if_pos hs1))
    have HL1 := Lib.hid (hasS_len hs1)
    have HN := Lib.hid (show Calls Tryz.prog 140 #[.pointer (some ⟨g, 0, none⟩), .int .i64 ((tag : Int) + (m : Int) + 1), .int .i64 2] w2 _ from rfNum_any (tag + m + 1) 2 R2.out.is_ (by have := HL1.out.1; omega) (by omega) (by omega))
    have hnb : numS (cutB l (tag + m + 1) 2) < 65536 := by
      have h1 := numS_lt (cutB l (tag + m + 1) 2)
      have h2 : (cutB l (tag + m + 1) 2).length ≤ 2 := by unfold cutB; rw [List.length_take]; omega
      have h3 := Nat.pow_le_pow_right (n := 256) (by decide) h2
      have h4 : numS (cutB l (tag + m + 1) 2) < 256 ^ 2 := Nat.lt_of_lt_of_le h1 h3
      have : (256 : Nat) ^ 2 = 65536 := by decide
      omega
    clear hs1 hr HH1 hx c0
    generalize numS (cutB l (tag + m + 1) 2) = nn at *
    have hn0 : (0 : Int) ≤ (nn : Int) := by omega
    have hn1 : (nn : Int) < 65536 := by omega
    go_wp2_with fail
    refine HN.out.mono ?_
    rintro e _ ⟨rfl, rfl⟩
    have HH2 := Lib.hid (show Calls Tryz.prog 139 #[.pointer (some ⟨g, 0, none⟩), .int .i64 tag, .int .i64 ((m : Int) + 3 + (nn : Int) + (more : Int))] w2 _ from rfHas_any tag (m + 3 + nn + more) R2.out.is_ (by omega) (by omega))
    go_wp2_with fail
    refine HH2.out.mono ?_
    rintro e w4 ⟨rfl, lv4, hr⟩
    by_cases hs2 : hasS l tag (m + 3 + nn + more) = []
    · rw [hs2] at hr
      obtain rfl := hr.is_.nil rfl
      rw [decide_eq_true hs2]
      have R4 := Lib.hid (RfRes.trans HG.out HV.out R2.out hr)
      have HT3 := Lib.hid (HT2.out.trans (if_pos hs2))
      have HL2 := Lib.hid (hasS_len hs2)
      obtain ⟨o2, c2, hrun, hcon⟩ := R4.out.is_.buf.sub2 (tag + m + 3) nn (by have := HL2.out.1; omega)
      have hrun2 : ∀ w', (Instr.slice 40 (.slice (some ⟨q, o, none⟩) l.length bc) (some (.int .i64 ((tag : Int) + (m : Int) + 3))) (some (.int .i64 ((tag : Int) + (m : Int) + 3 + (nn : Int)))) none).run Tryz.prog w' = .ok (.slice (some ⟨q, o2, none⟩) nn c2) w' := hrun
      have d0 := R4.out.is_.cells.cell 0
      simp only [List.getElem?_cons_zero, List.getElem?_cons_succ] at d0
      generalize (⟨(cutB l (tag + m + 3) nn).toArray⟩ : ByteArray) = str at *
      clear hs2 hr hrun HH2 HN R2
      go_wp2
      go_ret2
      rw [HT3.out]
      exact ⟨_, tag + m + 3 + nn, _, _, _, _, rfl, R4.out, by omega, rfl, rfl, rfl, rfl, rfl⟩
    · rw [decide_eq_false hs2]
      have R4 := Lib.hid (RfRes.trans HG.out HV.out R2.out hr)
      have HT3 := Lib.hid (HT2.out.trans (if_neg hs2))
      have HS2 := Lib.hid hs2
      clear hs2 hr HH2 HN R2
      go_wp2
      go_ret2
      rw [HT3.out]
      exact ⟨_, 0, _, _, _, _, rfl, R4.out, by omega, rfl, rfl, HS2.out⟩
  · rw [decide_eq_false hs1]
    have R4 := Lib.hid hr
    have HT3 := Lib.hid (HT.out.trans (if_neg hs1))
    have HS2 := Lib.hid hs1
    clear hs1 hr HH1 hx c0
    go_wp2
    go_ret2
    rw [HT3.out]
    exact ⟨_, 0, _, _, _, _, rfl, R4.out, by omega, rfl, rfl, HS2.out⟩
set_option maxHeartbeats 16000000 in
set_option maxRecDepth 100000 in
theorem rfAtom_thin {base g : Nat} {l : List UInt8} {bv av lv : Value} {st : Rd} {w : World} (tag m more : Nat) (h : RfIs base g l bv st av lv [] w) (hm : tag + m < l.length) (ht : tag + m ≤ 65536) (hmo : more ≤ 100) (hw : (l.getD (tag + m) 0 == 118) = false) :
    Calls Tryz.prog 141 #[.pointer (some ⟨g, 0, none⟩), .int .i64 tag, .int .i64 (tag + m : Nat), .int .i64 more] w (AtR base g l bv av w st (txtS l tag false more ⟨tag + m + 1, st.part, st.atoms⟩)) := by
  have HG := Lib.hid h.cells.lt
  have HV := Lib.hid (fun q (hq : av.ownBlock = some q) => (h.atoms.lt hq).1)
  have HOK := Lib.hid h.ok
  have HI := Lib.hid h
  have HLL := Lib.hid h.buf.len_le
  have c0 := h.cells.cell 0
  simp only [List.getElem?_cons_zero, List.getElem?_cons_succ] at c0
  obtain ⟨ba, bc, rfl⟩ := h.form
  obtain ⟨q, o, rfl, hx⟩ := h.buf.get (tag + m) hm
  have hcv : ((((l.getD (tag + m) 0).toNat : Nat) : Int) == 118) = false := by
    refine beq_eq_false_iff_ne.2 fun e => ?_
    have e2 : l.getD (tag + m) 0 = 118 := UInt8.toNat_inj.1 (by show _ = 118; omega)
    rw [e2] at hw; exact absurd hw (by decide)
  have hmi : ((tag : Int) + (m : Int)) < (l.length : Int) := by omega
  have ht0 : (0 : Int) ≤ (tag : Int) := by omega
  have ht1 : (tag : Int) ≤ 65536 := by omega
  have hm0 : (0 : Int) ≤ (m : Int) := by omega
  have hm1 : (m : Int) ≤ 65536 := by omega
  have hmo0 : (0 : Int) ≤ (more : Int) := by omega
  have hmo1 : (more : Int) ≤ 100 := by omega
  have hsub : (tag : Int) + (m : Int) - (tag : Int) = (m : Int) := by omega
  have hll : (l.length : Int) ≤ 9223372036854775807 := HLL.out
  have HH1 := Lib.hid (show Calls Tryz.prog 139 #[.pointer (some ⟨g, 0, none⟩), .int .i64 tag, .int .i64 ((m : Int) + 2)] w _ from rfHas_any tag (m + 2) h (by omega) (by omega))
  generalize (l.getD (tag + m) 0).toNat = cv at *
  rw [show ((tag + m : Nat) : Int) = (tag : Int) + (m : Int) by omega]
  clear h hw
  go_enter Tryz.func141, Tryz.ntmps141
  go_wp2_with fail
  refine HH1.out.mono ?_
  rintro e w2 ⟨rfl, lv2, hr⟩
  have HT := Lib.hid (txtS_has l tag m more st.part st.atoms false 2 1 rfl rfl)
  by_cases hs1 : hasS l tag (m + 2) = []
  · rw [hs1] at hr
    obtain rfl := hr.is_.nil rfl
    rw [decide_eq_true hs1]
    have R2 := Lib.hid hr
    have HT2 := Lib.hid (HT.out.trans (if_pos hs1))
    have HL1 := Lib.hid (hasS_len hs1)
    have HN := Lib.hid (show Calls Tryz.prog 140 #[.pointer (some ⟨g, 0, none⟩), .int .i64 ((tag : Int) + (m : Int) + 1), .int .i64 1] w2 _ from rfNum_any (tag + m + 1) 1 R2.out.is_ (by have := HL1.out.1; omega) (by omega) (by omega))
    have hnb : numS (cutB l (tag + m + 1) 1) < 65536 := by
      have h1 := numS_lt (cutB l (tag + m + 1) 1)
      have h2 : (cutB l (tag + m + 1) 1).length ≤ 2 := by unfold cutB; rw [List.length_take]; omega
      have h3 := Nat.pow_le_pow_right (n := 256) (by decide) h2
      have h4 : numS (cutB l (tag + m + 1) 1) < 256 ^ 2 := Nat.lt_of_lt_of_le h1 h3
      have : (256 : Nat) ^ 2 = 65536 := by decide
      omega
    clear hs1 hr HH1 hx c0
    generalize numS (cutB l (tag + m + 1) 1) = nn at *
    have hn0 : (0 : Int) ≤ (nn : Int) := by omega
    have hn1 : (nn : Int) < 65536 := by omega
    go_wp2_with fail
    refine HN.out.mono ?_
    rintro e _ ⟨rfl, rfl⟩
    have HH2 := Lib.hid (show Calls Tryz.prog 139 #[.pointer (some ⟨g, 0, none⟩), .int .i64 tag, .int .i64 ((m : Int) + 2 + (nn : Int) + (more : Int))] w2 _ from rfHas_any tag (m + 2 + nn + more) R2.out.is_ (by omega) (by omega))
    go_wp2_with fail
    refine HH2.out.mono ?_
    rintro e w4 ⟨rfl, lv4, hr⟩
    by_cases hs2 : hasS l tag (m + 2 + nn + more) = []
    · rw [hs2] at hr
      obtain rfl := hr.is_.nil rfl
      rw [decide_eq_true hs2]
      have R4 := Lib.hid (RfRes.trans HG.out HV.out R2.out hr)
      have HT3 := Lib.hid (HT2.out.trans (if_pos hs2))
      have HL2 := Lib.hid (hasS_len hs2)
      obtain ⟨o2, c2, hrun, hcon⟩ := R4.out.is_.buf.sub2 (tag + m + 2) nn (by have := HL2.out.1; omega)
      have hrun2 : ∀ w', (Instr.slice 40 (.slice (some ⟨q, o, none⟩) l.length bc) (some (.int .i64 ((tag : Int) + (m : Int) + 2))) (some (.int .i64 ((tag : Int) + (m : Int) + 2 + (nn : Int)))) none).run Tryz.prog w' = .ok (.slice (some ⟨q, o2, none⟩) nn c2) w' := hrun
      have d0 := R4.out.is_.cells.cell 0
      simp only [List.getElem?_cons_zero, List.getElem?_cons_succ] at d0
      generalize (⟨(cutB l (tag + m + 2) nn).toArray⟩ : ByteArray) = str at *
      clear hs2 hr hrun HH2 HN R2
      go_wp2
      go_ret2
      rw [HT3.out]
      exact ⟨_, tag + m + 2 + nn, _, _, _, _, rfl, R4.out, by omega, rfl, rfl, rfl, rfl, rfl⟩
    · rw [decide_eq_false hs2]
      have R4 := Lib.hid (RfRes.trans HG.out HV.out R2.out hr)
      have HT3 := Lib.hid (HT2.out.trans (if_neg hs2))
      have HS2 := Lib.hid hs2
      clear hs2 hr HH2 HN R2
      go_wp2
      go_ret2
      rw [HT3.out]
      exact ⟨_, 0, _, _, _, _, rfl, R4.out, by omega, rfl, rfl, HS2.out⟩
  · rw [decide_eq_false hs1]
    have R4 := Lib.hid hr
    have HT3 := Lib.hid (HT.out.trans (if_neg hs1))
    have HS2 := Lib.hid hs1
    clear hs1 hr HH1 hx c0
    go_wp2
    go_ret2
    rw [HT3.out]
    exact ⟨_, 0, _, _, _, _, rfl, R4.out, by omega, rfl, rfl, HS2.out⟩
end Go.Proofs.YtlahagabcnmdiaaGreatDoor
end
section
/- Package etf: the reader: rows of terms; how many parts a reading takes. No function of the program is looked at here. -/
open Go Go.RowKit
namespace Go.Proofs.YtlahagabcnmdiaaGreatDoor
set_option linter.unusedVariables false
set_option linter.unusedSimpArgs false

def Sx (B0 : Nat) (av lv : Value) (w : World) : Nat → Prop := fun q => B0 ≤ q ∧ q < w.heap.size ∧ av.ownBlock ≠ some q ∧ lv.ownBlock ≠ some q
/-- a row of terms that a reading made, apart from the reader's atoms -/
structure RowR (B0 : Nat) (av lv : Value) (rows : List Tm) (w : World) : Prop where
  ts : TsIs B0 (Sx B0 av lv w) lv rows w
  ne : ∀ q, lv.ownBlock = some q → av.ownBlock ≠ some q
theorem RowR.nil (B0 : Nat) (av : Value) (w : World) : RowR B0 av (.slice none 0 0) [] w := ⟨TsIs.nil _ _ _, fun q hq => by cases hq⟩
theorem RowR.shape {B0 : Nat} {av lv : Value} {rows : List Tm} {w : World} (h : RowR B0 av lv rows w) : ∃ a c, lv = .slice a rows.length c := by
  rcases h.ts.shape with ⟨rfl, rfl⟩ | ⟨g, c, rfl, _⟩
  · exact ⟨none, 0, rfl⟩
  · exact ⟨_, c, rfl⟩
theorem RowR.keep {B0 : Nat} {av lv : Value} {rows : List Tm} {w w' : World} {D : Nat → Prop} (h : RowR B0 av lv rows w) (k : Keep D w w') (hD : ∀ q, D q → q < B0 ∨ (av.ownBlock = some q)) : RowR B0 av lv rows w' := by
  refine ⟨(h.ts.keep k (fun q hq e => ?_) (fun q _ hq e => ?_)).mono (Nat.le_refl _) (fun q _ hq => ⟨hq.1, Nat.lt_of_lt_of_le hq.2.1 k.size, hq.2.2⟩), h.ne⟩
  · rcases hD q e with h1 | h1
    · have := (h.ts.block hq).1; omega
    · exact h.ne q hq h1
  · rcases hD q e with h1 | h1
    · have := hq.1; omega
    · exact hq.2.2.1 h1
theorem RowR.below {B0 : Nat} {av lv : Value} {rows : List Tm} {w w' : World} (h : RowR B0 av lv rows w) (hb : Below w.heap.size w w') : RowR B0 av lv rows w' := h.keep (keepB (S := fun _ => False) hb) fun q hq => hq.elim
theorem RowR.res {base g B0 : Nat} {l : List UInt8} {bv av av1 lv : Value} {st : Rd} {w w1 : World} {rows : List Tm} (h : RowR B0 av lv rows w) (hr : RdRes base g l bv av w st av1 w1) (hg : g < B0) : RowR B0 av1 lv rows w1 := by
  have h1 := h.keep hr.2.1 (fun q e => by
    rcases e with e | e
    · exact .inl (by rw [e]; exact hg)
    · exact .inr e)
  refine ⟨?_, fun q hq => hr.apart (h.ts.block hq).2.1 (h.ne q hq)⟩
  have h2 := h.ts.keep hr.2.1 (fun q hq e => by
    rcases e with e | e
    · have := (h.ts.block hq).1; omega
    · exact h.ne q hq e) (fun q _ hq e => by
    rcases e with e | e
    · have := hq.1; omega
    · exact hq.2.2.1 e)
  exact h2.mono (Nat.le_refl _) fun q _ hq => ⟨hq.1, Nat.lt_of_lt_of_le hq.2.1 hr.2.1.size, hr.apart hq.2.1 hq.2.2.1, hq.2.2.2⟩
theorem RowR.app {B0 : Nat} {av lv : Value} {rows : List Tm} {w : World} {S3 : Nat → Prop} {t : Tm} {vs : List Value} (h : RowR B0 av lv rows w) (ht : TmAt S3 t vs w) (hS : ∀ q, q < w.heap.size → S3 q → B0 ≤ q ∧ av.ownBlock ≠ some q ∧ lv.ownBlock ≠ some q) (hl : rows.length ≤ 100000) (hB : B0 ≤ w.heap.size) (hav : ∀ q, av.ownBlock = some q → q < w.heap.size) :
    ∃ a' n' c' w', (Builtin.append_ #[26, 26] 26 #[lv, .slice (some ⟨w.heap.size, 0, none⟩) 1 1]).run Tryz.prog (w.alloc (.cells vs.toArray 35 (0, 0))) = .ok (.slice a' n' c') w' ∧ RowR B0 av (.slice a' n' c') (rows ++ [t]) w' ∧ Keep (fun q => lv.ownBlock = some q) w w' := by
  have hb1 : Below w.heap.size w (w.alloc (.cells vs.toArray 35 (0, 0))) := (Below.refl _ _).alloc (Nat.le_refl _) _
  have hsz : (w.alloc (.cells vs.toArray 35 (0, 0))).heap.size = w.heap.size + 1 := by simp
  have hT : TmAt (Sx B0 av lv w) t vs w := ht.mono fun q hq hs => ⟨(hS q hq hs).1, hq, (hS q hq hs).2⟩
  have hC := Cells.new w 35 vs
  obtain ⟨v', w', hr, h2, h3, h4⟩ := (h.ts.below hb1 (Nat.le_refl _)).app (hT.below hb1) w.heap.size 0 1 (fun j hj => by rw [Nat.zero_add]; exact hC.cell j) (by omega) (by rw [hsz]; omega) (fun k hk hs => hs.2.2.2 hk)
  obtain ⟨a', n', c', rfl⟩ : ∃ a n c, v' = .slice a n c := by
    rcases h2.shape with ⟨rfl, _⟩ | ⟨_, _, rfl, _⟩ <;> exact ⟨_, _, _, rfl⟩
  rw [hsz] at h4
  refine ⟨a', n', c', w', hr, ⟨h2.mono (Nat.le_refl _) fun q _ hq => ⟨hq.1, Nat.lt_of_lt_of_le hq.2.1 (Nat.le_trans hb1.size h3.size), hq.2.2.1, fun e => ?_⟩, fun q hq e => ?_⟩, (keepB hb1).grown h3 (fun k hk _ => hk)⟩
  · rcases h4 with h | h
    · rw [h] at e; exact hq.2.2.2 e
    · rw [h] at e; cases e; have := hq.2.1; omega
  · rcases h4 with h' | h'
    · rw [h'] at hq; exact h.ne q hq e
    · rw [h'] at hq; cases hq; have := hav _ e; omega
theorem RowR.appRow {B0 : Nat} {av lv : Value} {rows d : List Tm} {w : World} {a : Option Addr} {c : Nat} {S3 : Nat → Prop} (h : RowR B0 av lv rows w) (hd : ArgsAt S3 d a w) (hne : d ≠ []) (hS : ∀ q, q < w.heap.size → S3 q → B0 ≤ q ∧ av.ownBlock ≠ some q ∧ lv.ownBlock ≠ some q) (hl : rows.length + d.length ≤ 200000) (hB : B0 ≤ w.heap.size) (hav : ∀ q, av.ownBlock = some q → q < w.heap.size) :
    ∃ a' n' c' w', (Builtin.append_ #[26, 26] 26 #[lv, .slice a d.length c]).run Tryz.prog w = .ok (.slice a' n' c') w' ∧ RowR B0 av (.slice a' n' c') (rows ++ d) w' ∧ Keep (fun q => lv.ownBlock = some q) w w' := by
  obtain ⟨g0, o0, rfl⟩ : ∃ g o, a = some ⟨g, o, none⟩ := by
    cases d with
    | nil => exact absurd rfl hne
    | cons t r => rw [ArgsAt] at hd; obtain ⟨g, o, _, e, _⟩ := hd; exact ⟨g, o, e⟩
  have hd2 : RowAt (Sx B0 av lv w) g0 o0 d w := fun i hi => by
    obtain ⟨g2, o2, vs, e, _, hcs, ht⟩ := hd.get i hi
    cases e
    exact ⟨vs, fun j hj => hcs j hj, ht.mono fun q hq hs => ⟨(hS q hq hs).1, hq, (hS q hq hs).2⟩⟩
  obtain ⟨v', w', hr, h2, h3, h4⟩ := h.ts.appAll g0 o0 c hd2 (by omega) hB (fun k hk hs => hs.2.2.2 hk)
  obtain ⟨a', n', c', rfl⟩ : ∃ a n c, v' = .slice a n c := by
    rcases h2.shape with ⟨rfl, _⟩ | ⟨_, _, rfl, _⟩ <;> exact ⟨_, _, _, rfl⟩
  refine ⟨a', n', c', w', hr, ⟨h2.mono (Nat.le_refl _) fun q _ hq => ⟨hq.1, Nat.lt_of_lt_of_le hq.2.1 h3.size, hq.2.2.1, fun e => ?_⟩, fun q hq e => ?_⟩, (Keep.refl _ w).grown h3 (fun k hk _ => hk)⟩
  · rcases h4 with h | h
    · rw [h] at e; exact hq.2.2.2 e
    · rw [h] at e; cases e; have := hq.2.1; omega
  · rcases h4 with h' | h'
    · rw [h'] at hq; exact h.ne q hq e
    · rw [h'] at hq; cases hq; have := hav _ e; omega
/-- as a term's arguments -/
theorem RowR.args {B0 : Nat} {av lv : Value} {rows : List Tm} {w : World} (h : RowR B0 av lv rows w) : ∃ a cap, lv = .slice a rows.length cap ∧ (rows.length ≤ cap ∧ cap ≤ maxLen) ∧ ArgsAt (fun q => B0 ≤ q ∧ av.ownBlock ≠ some q) rows a w :=
  h.ts.args (fun q _ hq => ⟨hq.1, hq.2.2.1⟩) (fun q hq => ⟨(h.ts.block hq).1, h.ne q hq⟩)

/-! ### parts -/
theorem bind_ok {α β : Type} {r : Res α} {f : α → Rd → Res β} {y : β} {st : Rd} (h : r.bind f = .ok y st) : ∃ x st1, r = .ok x st1 ∧ f x st1 = .ok y st := by
  cases r with
  | ok x st1 => exact ⟨x, st1, rfl, h⟩
  | bad k => cases h
theorem needS_ok {l : List UInt8} {tag n : Nat} {st st2 : Rd} {x : Unit} (h : needS l tag n st = .ok x st2) : st2 = ⟨st.at_ + n, st.part, st.atoms⟩ := by
  rcases needS_cases l tag n st with ⟨k, e⟩ | ⟨e, _⟩
  · rw [e] at h; cases h
  · rw [e] at h; cases h; rfl
theorem fourS_ok {l : List UInt8} {tag n : Nat} {st st2 : Rd} (h : fourS l tag st = .ok n st2) : st2.part = st.part := by
  rcases fourS_cases l tag st with ⟨k, e⟩ | ⟨m, e, _⟩
  · rw [e] at h; cases h
  · rw [e] at h; cases h; rfl
theorem numsS_ok {l : List UInt8} {tag : Nat} : ∀ {n : Nat} {st st2 : Rd} {r : List Int}, numsS l tag n st = .ok r st2 → st2.part = st.part
  | 0, st, st2, r, h => by rw [numsS] at h; cases h; rfl
  | n + 1, st, st2, r, h => by
    rw [numsS] at h
    obtain ⟨x, s1, h1, h⟩ := bind_ok h
    obtain ⟨y, s2, h2, h⟩ := bind_ok h
    cases h
    rw [numsS_ok h2, fourS_ok h1]
theorem txtS_ok {l : List UInt8} {tag behind : Nat} {wide : Bool} {st st2 : Rd} {s : ByteArray} (h : txtS l tag wide behind st = .ok s st2) : st2.part = st.part := by
  rcases txtS_cases l tag wide behind st with ⟨k, e⟩ | ⟨s, n, e, _⟩
  · rw [e] at h; cases h
  · rw [e] at h; cases h; rfl
theorem namS_ok {l : List UInt8} {tag behind : Nat} {st st2 : Rd} {s : ByteArray} (h : namS l tag behind st = .ok s st2) : st2.part = st.part := by
  rcases namS_cases l tag behind st with ⟨k, e⟩ | ⟨s, n, e, _⟩
  · rw [e] at h; cases h
  · rw [e] at h; cases h; rfl
theorem countS_ok {l : List UInt8} {tag n : Nat} {k : UInt8} {st st2 : Rd} (h : countS l tag k st = .ok n st2) : st2.part = st.part := by
  unfold countS at h
  split at h
  · obtain ⟨x, s1, h1, h⟩ := bind_ok h
    cases h
    rw [needS_ok h1]
  · obtain ⟨x, s1, h1, h⟩ := bind_ok h
    split at h
    · cases h
    · cases h; exact fourS_ok h1
theorem farS_ok {l : List UInt8} {tag : Nat} {k : UInt8} {st st2 : Rd} {t : Tm} (h : farS l tag k st = .ok t st2) : st2.part = st.part ∧ t.args = [] ∧ t.kind ≠ 7 := by
  unfold farS at h
  split at h
  · unfold pidS at h
    obtain ⟨x1, s1, h1, h⟩ := bind_ok h
    obtain ⟨x2, s2, h2, h⟩ := bind_ok h
    obtain ⟨x3, s3, h3, h⟩ := bind_ok h
    obtain ⟨x4, s4, h4, h⟩ := bind_ok h
    cases h
    exact ⟨by rw [fourS_ok h4, fourS_ok h3, fourS_ok h2, namS_ok h1], rfl, fun e => by cases e⟩
  · unfold refS at h
    obtain ⟨x0, s0, h0, h⟩ := bind_ok h
    split at h
    · cases h
    · obtain ⟨x1, s1, h1, h⟩ := bind_ok h
      obtain ⟨x2, s2, h2, h⟩ := bind_ok h
      obtain ⟨x3, s3, h3, h⟩ := bind_ok h
      cases h
      exact ⟨by rw [numsS_ok h3, fourS_ok h2, namS_ok h1, needS_ok h0], rfl, fun e => by cases e⟩
/-- what a reader of terms takes -/
def Grows (rd : Rd → Res Tm) : Prop := ∀ st t st2, rd st = .ok t st2 → st.part + 1 + t.args.length ≤ st2.part ∧ (t.kind = 7 → t.args ≠ [])
theorem rowS_ok {rd : Rd → Res Tm} (hrd : Grows rd) : ∀ {n : Nat} {st st2 : Rd} {r : List Tm}, rowS rd n st = .ok r st2 → st.part + r.length ≤ st2.part ∧ r.length = n
  | 0, st, st2, r, h => by rw [rowS] at h; cases h; exact ⟨Nat.le_refl _, rfl⟩
  | n + 1, st, st2, r, h => by
    rw [rowS] at h
    obtain ⟨x, s1, h1, h⟩ := bind_ok h
    obtain ⟨y, s2, h2, h⟩ := bind_ok h
    cases h
    have := (hrd _ _ _ h1).1
    have := rowS_ok hrd h2
    rw [List.length_cons]
    omega
theorem countS_pos {l : List UInt8} {tag n : Nat} {st st2 : Rd} (h : countS l tag 108 st = .ok n st2) : 0 < n := by
  unfold countS at h
  rw [if_neg (by decide)] at h
  obtain ⟨x, s1, h1, h⟩ := bind_ok h
  split at h
  · cases h
  · rename_i hn
    cases h
    refine Nat.pos_of_ne_zero fun e => hn ⟨rfl, e⟩
theorem bodyS_ok {l : List UInt8} {rd : Rd → Res Tm} (hrd : Grows rd) {tag : Nat} {k : UInt8} {st st2 : Rd} {t : Tm} (h : bodyS l rd tag k st = .ok t st2) : st.part + t.args.length ≤ st2.part ∧ (t.kind = 7 → t.args ≠ []) := by
  unfold bodyS at h
  split at h
  · obtain ⟨x, s1, h1, h⟩ := bind_ok h
    cases h
    rw [needS_ok h1]; exact ⟨Nat.le_refl _, fun e => by cases e⟩
  · split at h
    · obtain ⟨x, s1, h1, h⟩ := bind_ok h
      cases h
      rw [fourS_ok h1]; exact ⟨Nat.le_refl _, fun e => by cases e⟩
    · split at h
      · obtain ⟨x, s1, h1, h⟩ := bind_ok h
        split at h
        · cases h
        · cases h
          show st.part + 0 ≤ s1.part ∧ _
          rw [txtS_ok h1]; exact ⟨Nat.le_refl _, fun e => by cases e⟩
      · split at h
        · obtain ⟨x, s1, h1, h⟩ := bind_ok h
          obtain ⟨y, s2, h2, h⟩ := bind_ok h
          cases h
          have := rowS_ok hrd h2
          rw [countS_ok h1] at this
          exact ⟨this.1, fun e => by cases e⟩
        · split at h
          · cases h; exact ⟨Nat.le_refl _, fun e => by cases e⟩
          · split at h
            · rename_i h108
              obtain ⟨x, s1, h1, h⟩ := bind_ok h
              obtain ⟨y, s2, h2, h⟩ := bind_ok h
              obtain ⟨z, s3, h3, h⟩ := bind_ok h
              cases h
              have h4 := rowS_ok hrd h2
              have h5 := (hrd _ _ _ h3).1
              have h6 := countS_ok h1
              subst h108
              have h7 := countS_pos h1
              have h8 : (joinS y z).args = y ++ if z.kind = 7 then z.args else [z] := rfl
              refine ⟨?_, fun _ e => ?_⟩
              · rw [h8, List.length_append]
                have : (if z.kind = 7 then z.args else [z]).length ≤ 1 + z.args.length := by split <;> simp <;> omega
                omega
              · rw [h8] at e
                have := congrArg List.length e
                rw [List.length_append, List.length_nil] at this
                omega
            · obtain ⟨e1, e2, e3⟩ := farS_ok h
              rw [e1, e2]
              exact ⟨Nat.le_refl _, fun e => absurd e e3⟩
theorem termS_ok {l : List UInt8} : ∀ (f : Nat), Grows (termS l f)
  | 0, st, t, st2, h => by rw [termS] at h; split at h <;> cases h
  | f + 1, st, t, st2, h => by
    rw [termS] at h
    split at h
    · cases h
    · split at h
      · cases h
      · split at h
        · cases h
        · obtain ⟨x, s1, h1, h⟩ := bind_ok h
          have := bodyS_ok (termS_ok f) h
          rw [needS_ok h1] at this
          dsimp only at this
          exact ⟨by omega, this.2⟩
end Go.Proofs.YtlahagabcnmdiaaGreatDoor
end
section
/- Package etf: the reader: a list. Printed by wip/edh.py. -/
open Go Go.RowKit
namespace Go.Proofs.YtlahagabcnmdiaaGreatDoor
set_option linter.unusedVariables false
set_option linter.unusedSimpArgs false

/-- the contract of a term's reading, as deep as f goes -/
def TermC (l : List UInt8) (f : Nat) : Prop := ∀ (base g : Nat) (bv av : Value) (st : Rd) (w : World), RdIs base g l bv st av w → GtB base w →
  Calls Tryz.prog 98 #[.pointer (some ⟨g, 0, none⟩), .int .i64 (257 - (f : Int))] w (RetR base g l bv av w (termS l f st) (TmR w))
def listS (l : List UInt8) (f tag : Nat) (st : Rd) : Res Tm := (countS l tag 108 st).bind fun n st2 => (rowS (termS l f) n st2).bind fun r st3 => (termS l f st3).bind fun t st4 => .ok (joinS r t) st4
theorem TmR.six {w0 : World} {t : Tm} {v av : Value} {w : World} (h : TmR w0 t v av w) : ∃ na nc a cap, v = .agg #[.int .i64 t.kind, .int .i64 t.int, .string t.text, .int .u32 t.cr, .slice na t.nums.length nc, .slice a t.args.length cap] ∧
    TmAt (fun q => w0.heap.size ≤ q ∧ av.ownBlock ≠ some q) t [.int .i64 t.kind, .int .i64 t.int, .string t.text, .int .u32 t.cr, .slice na t.nums.length nc, .slice a t.args.length cap] w := by
  obtain ⟨vs, rfl, ht⟩ := h
  have HT := ht
  obtain ⟨_, nv, a, cap, rfl, hnn, _⟩ := ht.parts
  obtain ⟨na, nc, rfl, _, _⟩ := hnn.slice
  exact ⟨na, nc, a, cap, rfl, HT⟩
theorem GtB.far {base : Nat} {w w' : World} (h : GtB base w) (hb : ∀ q, q < base → w'.heap[q]? = w.heap[q]?) : GtB base w' := ⟨h.gt.frame fun b hB => hb b (h.lt b hB), h.lt⟩
theorem TmAt.argsOf {S : Nat → Prop} {t : Tm} {v1 v2 v3 v4 v5 : Value} {a : Option Addr} {n c : Nat} {w : World} (h : TmAt S t [v1, v2, v3, v4, v5, .slice a n c] w) : ArgsAt S t.args a w := by
  obtain ⟨_, nv', a', cap', e, _, _, _, hA⟩ := h.parts
  injection e with _ e
  injection e with _ e
  injection e with _ e
  injection e with _ e
  injection e with _ e
  injection e with e _
  cases e
  exact hA
set_option maxHeartbeats 32000000 in
set_option maxRecDepth 100000 in
theorem list_any {base g : Nat} {l : List UInt8} {bv av : Value} {st : Rd} {w : World} (f tag : Nat) (dv : Int) (hih : TermC l f) (hdv : dv + 1 = 257 - (f : Int)) (h0 : 0 ≤ dv) (h1 : dv ≤ 256) (h : RdIs base g l bv st av w) (hG : GtB base w) :
    Calls Tryz.prog 123 #[.pointer (some ⟨g, 0, none⟩), .int .i64 tag, .int .i64 dv] w (RetR base g l bv av w (listS l f tag st) (TmR w)) := by
  have HIH := Lib.hid hih
  have HDV := Lib.hid hdv
  have HGL := Lib.hid h.cells.lt
  have HVL := Lib.hid (fun q (hq : av.ownBlock = some q) => (h.atoms.lt hq).1)
  have BX := Lib.hid (((Below.refl w.heap.size w).alloc (Nat.le_refl _) (.cells #[.int .i64 0, .int .i64 0, .string ⟨#[]⟩, .int .u32 0, .slice none 0 0, .slice none 0 0] 35 (0, 0))).alloc (by simp) (.cells #[.int .i64 7, .int .i64 0, .string ⟨#[]⟩, .int .u32 0, .slice none 0 0, .slice none 0 0] 35 (0, 0)))
  have R1 := Lib.hid (show Cells ((w.alloc (.cells #[.int .i64 0, .int .i64 0, .string ⟨#[]⟩, .int .u32 0, .slice none 0 0, .slice none 0 0] 35 (0, 0))).alloc (.cells #[.int .i64 7, .int .i64 0, .string ⟨#[]⟩, .int .u32 0, .slice none 0 0, .slice none 0 0] 35 (0, 0))) w.heap.size 35 termZ from (Cells.new w 35 termZ).alloc _)
  have T1 := Lib.hid (show Cells ((w.alloc (.cells #[.int .i64 0, .int .i64 0, .string ⟨#[]⟩, .int .u32 0, .slice none 0 0, .slice none 0 0] 35 (0, 0))).alloc (.cells #[.int .i64 7, .int .i64 0, .string ⟨#[]⟩, .int .u32 0, .slice none 0 0, .slice none 0 0] 35 (0, 0))) (w.heap.size + 1) 35 [.int .i64 7, .int .i64 0, .string ⟨#[]⟩, .int .u32 0, .slice none 0 0, .slice none 0 0] from by
    have := Cells.new (w.alloc (.cells #[.int .i64 0, .int .i64 0, .string ⟨#[]⟩, .int .u32 0, .slice none 0 0, .slice none 0 0] 35 (0, 0))) 35 [.int .i64 7, .int .i64 0, .string ⟨#[]⟩, .int .u32 0, .slice none 0 0, .slice none 0 0]
    rwa [World.size_alloc] at this)
  have HR := Lib.hid (RdRes.below h BX.out)
  have HG1 := Lib.hid (hG.below BX.out)
  have HNR := Lib.hid (show av.ownBlock ≠ some w.heap.size from fun e => Nat.lt_irrefl _ (HVL.out _ e))
  have HNT := Lib.hid (show av.ownBlock ≠ some (w.heap.size + 1) from fun e => by have := HVL.out _ e; omega)
  have HRG := Lib.hid (show w.heap.size ≠ g from fun e => by have := HGL.out; omega)
  have HTG := Lib.hid (show w.heap.size + 1 ≠ g from fun e => by have := HGL.out; omega)
  have HGT := Lib.hid (show g < w.heap.size + 1 from by have := HGL.out; omega)
  have HWT := Lib.hid (show w.heap.size ≤ w.heap.size + 1 from Nat.le_succ _)
  have HTR := Lib.hid (show w.heap.size + 1 ≠ w.heap.size from by omega)
  have HC := Lib.hid (count_any tag 108 HR.out.1)
  have HS := Lib.hid (show listS l f tag st = (countS l tag 108 st).bind fun n st2 => (rowS (termS l f) n st2).bind fun r st3 => (termS l f st3).bind fun t st4 => .ok (joinS r t) st4 from rfl)
  have hcw : IntKind.i64.wrap (dv + 1) = dv + 1 := IntWalk.i64_in _ (by omega)
  clear h hG hih hdv
  go_enter Tryz.func123, Tryz.ntmps123
  go_wp2_with fail
  generalize (w.alloc (.cells #[.int .i64 0, .int .i64 0, .string ⟨#[]⟩, .int .u32 0, .slice none 0 0, .slice none 0 0] 35)).alloc (.cells #[.int .i64 7, .int .i64 0, .string ⟨#[]⟩, .int .u32 0, .slice none 0 0, .slice none 0 0] 35) = w1 at *
  refine HC.out.mono ?_
  intro e w2 hr
  cases hk : countS l tag 108 st with
  | bad k2 =>
    rw [hk] at hr HS
    obtain ⟨b, rfl, he, hne, hkk⟩ := hr
    have HP := Lib.hid (RdRes.pan (e := .panicked _) HGL.out HVL.out HR.out ⟨b, rfl, he, hne, hkk⟩)
    clear he hne hkk hk HC
    go_wp2
    rw [HS.out]
    exact ⟨rfl, HP.out⟩
  | ok n st2 =>
    rw [hk] at hr HS
    simp only [Res.bind] at HS
    obtain ⟨_, av2, rfl, ⟨rfl, hn⟩, hrr⟩ := hr
    have HNN := Lib.hid hn
    have HG0 := Lib.hid (HG1.out.res HR.out.1 hrr.2.1)
    have R0 := Lib.hid (R1.out.res hrr HRG.out HNR.out)
    have T0 := Lib.hid (T1.out.res hrr HTG.out HNT.out)
    have NR0 := Lib.hid (hrr.apart R1.out.lt HNR.out)
    have NT0 := Lib.hid (hrr.apart T1.out.lt HNT.out)
    have HR0 := Lib.hid (RdRes.trans HGL.out HVL.out HR.out hrr)
    clear hk hrr HC hn HR HG1 R1 T1 HNR HNT
    go_wp2_with fail
    go_loopw [8] (fun i wr => ∃ (k : Nat) (rows : List Tm) (stk : Rd) (avk lv : Value), k ≤ n ∧ i = .int .i64 ((n - k : Nat) : Int) ∧ RdRes base g l bv av w stk avk wr ∧ GtB base wr ∧ Cells wr w.heap.size 35 termZ ∧ Cells wr (w.heap.size + 1) 35 [.int .i64 7, .int .i64 0, .string ⟨#[]⟩, .int .u32 0, .slice none 0 0, lv] ∧ avk.ownBlock ≠ some w.heap.size ∧ avk.ownBlock ≠ some (w.heap.size + 1) ∧ RowR (w.heap.size + 1 + 1) avk lv rows wr ∧ rows.length ≤ stk.part ∧ listS l f tag st = (rowS (termS l f) (n - k) stk).bind fun r st3 => (termS l f st3).bind fun t st4 => .ok (joinS (rows ++ r) t) st4) (fun i _ => (intOf i).toNat)
    case atStart => exact ⟨0, [], _, _, .slice none 0 0, Nat.zero_le _, rfl, HR0.out, HG0.out, R0.out, T0.out, NR0.out, NT0.out, RowR.nil _ _ _, Nat.zero_le _, HS.out⟩
    case round =>
      obtain ⟨k, rows, stk, avk, lv, hk, rfl, hres, hg, hRr, hTr, hnr, hnt, hrow, hlen, hsp⟩ := hrel
      have HRk := Lib.hid hres
      have HGk := Lib.hid hg
      have RR := Lib.hid hRr
      have TT := Lib.hid hTr
      have NR := Lib.hid hnr
      have NT := Lib.hid hnt
      have ROW := Lib.hid hrow
      have HLEN := Lib.hid hlen
      have SP := Lib.hid hsp
      clear HS HR0 HG0 R0 T0 NR0 NT0
      obtain ⟨la, lc, e⟩ := hrow.shape
      subst e
      clear hres hg hRr hTr hnr hnt hrow hlen hsp
      by_cases hlt : k < n
      · have hki : (0 : Int) < ((n - k : Nat) : Int) := by omega
        have hkx : ((n - k : Nat) : Int) ≤ 4294967296 := by have := HNN.out; omega
        have HKK := Lib.hid hlt
        have SP2 := Lib.hid (show listS l f tag st = (termS l f stk).bind fun x st2 => (rowS (termS l f) (n - (k + 1)) st2).bind fun r st3 => (termS l f st3).bind fun t st4 => .ok (joinS (rows ++ (x :: r)) t) st4 from by
          rw [SP.out, show n - k = (n - (k + 1)) + 1 by omega, rowS, bind_assoc]
          congr 1; funext x st2; rw [bind_assoc]; rfl)
        clear hlt SP
        go_wp2_with fail
        refine wp_region_L (S := fun X => Cells X (w.heap.size + 1) 35 [.int .i64 7, .int .i64 0, .string ⟨#[]⟩, .int .u32 0, .slice none 0 0, .slice la rows.length lc]) (F := [9]) (by kernel_rfl) (TT.out.below (Below.drew (Below.refl _ _))) (fun hHeld => ?_)
        refine wpAnyL_easy (i := 0) (v := (.pointer (some ⟨w.heap.size + 1, 5, none⟩))) (by simp only [List.getElem?_toArray, List.getElem?_cons_succ, List.getElem?_cons_zero]; rfl) (by kernel_rfl) (by kernel_rfl) (by kernel_rfl) (by exact fun _ _ _ h => h) (Or.inl ⟨by rfl, fun _ _ => rfl⟩) ?_
        try simp only [Act.put, List.setIfInBounds_toArray, List.set_cons_zero, List.set_cons_succ]
        refine wpAnyL_take (i := 1) (v := (.slice la rows.length lc)) (by simp only [List.getElem?_toArray, List.getElem?_cons_succ, List.getElem?_cons_zero]; rfl) (by kernel_rfl) (by kernel_rfl) (by kernel_rfl) (by kernel_rfl) (by exact fun _ _ _ h => h) (Or.inl ⟨by rfl, by intro W hSw; have x0 := show W.cell? ⟨w.heap.size + 1, 5, none⟩ = some (.slice la rows.length lc) from hSw.cell 5; go_simp; all_goals first | rfl | exact ⟨rfl, rfl, rfl, rfl, rfl, rfl⟩⟩) (by assumption) ?_
        try simp only [Act.put, List.setIfInBounds_toArray, List.set_cons_zero, List.set_cons_succ]
        refine wpAnyL_easy (i := 2) (v := (.pointer (some ⟨g, 0, none⟩))) (by simp only [List.getElem?_toArray, List.getElem?_cons_succ, List.getElem?_cons_zero]; rfl) (by kernel_rfl) (by kernel_rfl) (by kernel_rfl) (by exact fun _ _ _ h => h) (Or.inl ⟨by rfl, fun _ _ => rfl⟩) ?_
        try simp only [Act.put, List.setIfInBounds_toArray, List.set_cons_zero, List.set_cons_succ]
        refine wpAnyL_easy (i := 3) (v := (.int .i64 dv)) (by simp only [List.getElem?_toArray, List.getElem?_cons_succ, List.getElem?_cons_zero]; rfl) (by kernel_rfl) (by kernel_rfl) (by kernel_rfl) (by exact fun _ _ _ h => h) (Or.inl ⟨by rfl, fun _ _ => rfl⟩) ?_
        try simp only [Act.put, List.setIfInBounds_toArray, List.set_cons_zero, List.set_cons_succ]
        refine wpAnyL_easy (i := 4) (v := (.int .i64 (dv + 1))) (by simp only [List.getElem?_toArray, List.getElem?_cons_succ, List.getElem?_cons_zero]; rfl) (by kernel_rfl) (by kernel_rfl) (by kernel_rfl) (by exact fun _ _ _ h => h) (Or.inl ⟨by rfl, by intro W _; go_simp; all_goals first | rfl | exact ⟨rfl, rfl, rfl, rfl, rfl, rfl⟩⟩) ?_
        try simp only [Act.put, List.setIfInBounds_toArray, List.set_cons_zero, List.set_cons_succ]
        have BD := Lib.hid (show Below wr.heap.size wr wr.drew from Below.drew (Below.refl _ _))
        have HRd := Lib.hid (HRk.out.ext BD.out)
        have HGd := Lib.hid (HGk.out.below BD.out)
        have RRd := Lib.hid (RR.out.below BD.out)
        have TTd := Lib.hid (TT.out.below BD.out)
        have ROWd := Lib.hid (ROW.out.below BD.out)
        clear HRk HGk RR TT ROW hHeld
        generalize wr.drew = wd at *
        have HF := Lib.hid (HIH.out base g bv avk stk wd HRd.out.1 HGd.out)
        rw [← HDV.out] at HF
        refine wpAnyL_ready (rs := [5]) (by kernel_rfl) (by simp) ?_
        refine AllReadyL.cons (by simp only [List.getElem?_toArray, List.getElem?_cons_succ, List.getElem?_cons_zero]; rfl) (fun K hK => ?_) AllReadyL.nil
        go_simp
        refine HF.out.mono ?_
        intro e w7 hr
        have HS := SP2
        cases hk : termS l f stk with
        | bad k2 =>
          rw [hk] at hr HS
          obtain ⟨b, rfl, he, hne, hkk⟩ := hr
          have HP := Lib.hid (RdRes.pan (e := .panicked _) HGL.out HVL.out HRd.out ⟨b, rfl, he, hne, hkk⟩)
          clear he hne hkk hk HF
          try go_wp2
          rw [HS.out]
          exact ⟨rfl, HP.out⟩
        | ok x st7 =>
          rw [hk] at hr HS
          simp only [Res.bind] at HS
          obtain ⟨_, av7, rfl, htm, hrr⟩ := hr
          obtain ⟨na7, nc7, a7, cap7, rfl, ht7⟩ := htm.six
          have HOKX := Lib.hid (termS_ok f _ _ _ hk).1
          have R7 := Lib.hid (RRd.out.res hrr HRG.out NR.out)
          have T7 := Lib.hid (TTd.out.res hrr HTG.out NT.out)
          have NR7 := Lib.hid (hrr.apart RRd.out.lt NR.out)
          have NT7 := Lib.hid (hrr.apart TTd.out.lt NT.out)
          have ROW7 := Lib.hid (ROWd.out.res hrr (by have := HGT.out; omega))
          have HR7 := Lib.hid (RdRes.trans HGL.out HVL.out HRd.out hrr)
          have HG7 := Lib.hid (HGd.out.res HRd.out.1 hrr.2.1)
          have HT7 := Lib.hid ht7
          have HLV := Lib.hid (show ∀ q, (Value.slice la rows.length lc).ownBlock = some q → q < wd.heap.size from fun q hq => (ROWd.out.ts.block hq).2.1)
          have HTW := Lib.hid TTd.out.lt
          clear hk hrr htm ht7 HF HRd RRd TTd ROWd HGd
          refine hK.out _ _ (T7.out) (fun hHeld => ?_)
          try simp only [Act.put, List.setIfInBounds_toArray, List.set_cons_zero, List.set_cons_succ]
          clear hHeld
          refine wpAnyL_ready (rs := [6]) (by kernel_rfl) (by simp) ?_
          refine AllReadyL.cons (by simp only [List.getElem?_toArray, List.getElem?_cons_succ, List.getElem?_cons_zero]; rfl) (fun K hK => ?_) AllReadyL.nil
          go_simp
          have BN := Lib.hid ((Below.refl w7.heap.size w7).alloc (Nat.le_refl _) (.cells #[.int .i64 x.kind, .int .i64 x.int, .string x.text, .int .u32 x.cr, .slice na7 x.nums.length nc7, .slice a7 x.args.length cap7] 35 (0, 0)))
          obtain ⟨a8, n8, c8, w8, hrun, hrow8, hk8⟩ := ROW7.out.app HT7.out (fun q hq hs => ⟨by have := HTW.out; have := hs.1; omega, hs.2, fun e => by have := HLV.out q e; have := hs.1; omega⟩) (by have := HLEN.out; have := HOKX.out; have := HR7.out.1.ok.part; omega) (by have := T7.out.lt; omega) (fun q hq => (HR7.out.1.atoms.lt hq).1)
          have HRUN := Lib.hid hrun
          have ROW8 := Lib.hid hrow8
          have K8 := Lib.hid hk8
          have T8 := Lib.hid (T7.out.keep K8.out (fun hq => by have := (ROW7.out.ts.block hq).1; omega))
          have R8 := Lib.hid (R7.out.keep K8.out (fun hq => by have := (ROW7.out.ts.block hq).1; have := HWT.out; omega))
          have HR8 := Lib.hid (RdRes.late HR7.out HGL.out K8.out (fun q hq => ⟨by have := (ROW7.out.ts.block hq).1; have := HWT.out; omega, ROW7.out.ne q hq⟩))
          have HG8 := Lib.hid (HG7.out.far (fun q hq => K8.out.block q (by have := HR7.out.1.base_le; omega) (fun e => by have := (ROW7.out.ts.block e).1; have := HWT.out; have := HGL.out; have := HR7.out.1.hg; omega)))
          clear hrun hrow8 hk8
          refine hK.out _ _ (T7.out.below BN.out) (fun hHeld => ?_)
          try simp only [Act.put, List.setIfInBounds_toArray, List.set_cons_zero, List.set_cons_succ]
          refine wpAnyL_ready (rs := [7]) (by kernel_rfl) (by simp) ?_
          refine AllReadyL.cons (by simp only [List.getElem?_toArray, List.getElem?_cons_succ, List.getElem?_cons_zero]; rfl) (fun K hK => ?_) AllReadyL.nil
          refine step_app_eq (by rfl) _ _ _ _ (by rfl) _ _ (.slice a8 n8 c8) w8 (by rfl) (by rfl) HRUN.out ?_
          refine hK.out _ _ (T8.out) (fun hHeld => ?_)
          try simp only [Act.put, List.setIfInBounds_toArray, List.set_cons_zero, List.set_cons_succ]
          clear hHeld
          have d5 := T8.out.cell 5
          have f5 := T8.out.frozen 5
          simp only [List.getElem?_cons_zero, List.getElem?_cons_succ] at d5
          refine wpAnyL_easy (i := 8) (v := (.pointer (some ⟨w.heap.size + 1, 5, none⟩))) (by simp only [List.getElem?_toArray, List.getElem?_cons_succ, List.getElem?_cons_zero]; rfl) (by kernel_rfl) (by kernel_rfl) (by kernel_rfl) (by exact fun _ _ _ h => h) (Or.inl ⟨by rfl, fun _ _ => rfl⟩) ?_
          try simp only [Act.put, List.setIfInBounds_toArray, List.set_cons_zero, List.set_cons_succ]
          refine wpAnyL_ready (rs := [9]) (by kernel_rfl) (by simp) ?_
          refine AllReadyL.last (by simp only [List.getElem?_toArray, List.getElem?_cons_succ, List.getElem?_cons_zero]; rfl) (by kernel_rfl) (fun K hK => ?_) AllReadyL.nil
          go_simp
          refine hK.out _ _ ?_
          try simp only [Act.put, List.setIfInBounds_toArray, List.set_cons_zero, List.set_cons_succ]
          refine wpAnyL_done (by kernel_rfl) ?_ _
          have T9 := Lib.hid (show Cells _ (w.heap.size + 1) 35 [.int .i64 7, .int .i64 0, .string ⟨#[]⟩, .int .u32 0, .slice none 0 0, .slice a8 n8 c8] from T8.out.set_ 5 (.slice a8 n8 c8))
          have R9 := Lib.hid (R8.out.far (p := ⟨w.heap.size + 1, 5, none⟩) (fun e => HTR.out e.symm) (.slice a8 n8 c8))
          have K9 := Lib.hid (show Keep (fun q => q = w.heap.size + 1) w8 (w8.setCell ⟨w.heap.size + 1, 5, none⟩ (.slice a8 n8 c8)) from (Keep.refl (fun q => q = w.heap.size + 1) w8).setCell (p := ⟨w.heap.size + 1, 5, none⟩) (fun _ => rfl) (.slice a8 n8 c8))
          have HR9 := Lib.hid (RdRes.late HR8.out HGL.out K9.out (fun q (hq : q = w.heap.size + 1) => by rw [hq]; exact ⟨HWT.out, NT7.out⟩))
          have HG9 := Lib.hid (HG8.out.far (fun q hq => K9.out.block q (by have := HR8.out.1.base_le; omega) (fun (e : q = w.heap.size + 1) => by have := HWT.out; have := HGL.out; have := HR8.out.1.hg; omega)))
          have ROW9 := Lib.hid (ROW8.out.keep K9.out (fun q (hq : q = w.heap.size + 1) => .inl (by omega)))
          have LEN9 := Lib.hid (show (rows ++ [x]).length ≤ st7.part from by have := HLEN.out; have := HOKX.out; rw [List.length_append, List.length_singleton]; omega)
          have SP9 := Lib.hid (show listS l f tag st = (rowS (termS l f) (n - (k + 1)) st7).bind fun r st3 => (termS l f st3).bind fun t st4 => .ok (joinS ((rows ++ [x]) ++ r) t) st4 from by
            rw [HS.out]; simp only [List.append_assoc, List.singleton_append]; rfl)
          have e9 : ((n - k : Nat) : Int) - 1 = ((n - (k + 1) : Nat) : Int) := by have := HKK.out; omega
          clear d5 f5 T8 R8 HR8 K8 HG8
          go_wp2
          go_roundw
          case rel => exact ⟨k + 1, rows ++ [x], _, av7, _, by have := HKK.out; omega, by go_num, HR9.out, HG9.out, R9.out, T9.out, NR7.out, NT7.out, ROW9.out, LEN9.out, SP9.out⟩
          case measure => simp [intOf]; have := HKK.out; omega
      · have hki : ¬ (0 : Int) < ((n - k : Nat) : Int) := by omega
        have SPE := Lib.hid (show listS l f tag st = (termS l f stk).bind fun t st4 => .ok (joinS rows t) st4 from by
          rw [SP.out, show n - k = 0 by omega, rowS]; simp only [Res.bind]; rw [List.append_nil])
        clear hlt SP
        have HF := Lib.hid (HIH.out base g bv avk stk wr HRk.out.1 HGk.out)
        rw [← HDV.out] at HF
        have HLV := Lib.hid (show ∀ q, (Value.slice la rows.length lc).ownBlock = some q → q < wr.heap.size from fun q hq => (ROW.out.ts.block hq).2.1)
        have HTW := Lib.hid TT.out.lt
        go_wp2_with fail
        refine HF.out.mono ?_
        intro e w7 hr
        cases hk : termS l f stk with
        | bad k2 =>
          rw [hk] at hr SPE
          obtain ⟨b, rfl, he, hne, hkk⟩ := hr
          have HP := Lib.hid (RdRes.pan (e := .panicked _) HGL.out HVL.out HRk.out ⟨b, rfl, he, hne, hkk⟩)
          clear he hne hkk hk HF
          go_wp2
          rw [SPE.out]
          exact ⟨rfl, HP.out⟩
        | ok x st7 =>
          rw [hk] at hr SPE
          simp only [Res.bind] at SPE
          obtain ⟨_, av7, rfl, htm, hrr⟩ := hr
          obtain ⟨na7, nc7, a7, cap7, rfl, ht7⟩ := htm.six
          have HOKX := Lib.hid (termS_ok f _ _ _ hk)
          have BU := Lib.hid ((Below.refl w7.heap.size w7).alloc (Nat.le_refl _) (.cells #[.int .i64 x.kind, .int .i64 x.int, .string x.text, .int .u32 x.cr, .slice na7 x.nums.length nc7, .slice a7 x.args.length cap7] 35 (0, 0)))
          have U8 := Lib.hid (Cells.new w7 35 [.int .i64 x.kind, .int .i64 x.int, .string x.text, .int .u32 x.cr, .slice na7 x.nums.length nc7, .slice a7 x.args.length cap7])
          have R8 := Lib.hid ((RR.out.res hrr HRG.out NR.out).below BU.out)
          have T8 := Lib.hid ((TT.out.res hrr HTG.out NT.out).below BU.out)
          have NR7 := Lib.hid (hrr.apart RR.out.lt NR.out)
          have NT7 := Lib.hid (hrr.apart TT.out.lt NT.out)
          have ROW8 := Lib.hid ((ROW.out.res hrr (by have := HGT.out; omega)).below BU.out)
          have HR8 := Lib.hid ((RdRes.trans HGL.out HVL.out HRk.out hrr).ext BU.out)
          have HT8 := Lib.hid (ht7.below BU.out)
          clear hk hrr htm ht7 HF HRk RR TT ROW HGk
          go_upto_region 7 with (fail)
          generalize w7.alloc (.cells #[.int .i64 x.kind, .int .i64 x.int, .string x.text, .int .u32 x.cr, .slice na7 x.nums.length nc7, .slice a7 x.args.length cap7] 35) = w8 at *
          have m0 := U8.out.cell 0
          have m1 := U8.out.cell 1
          have m2 := U8.out.cell 2
          have m3 := U8.out.cell 3
          have m4 := U8.out.cell 4
          have m5 := U8.out.cell 5
          have t5 := T8.out.cell 5
          simp only [List.getElem?_cons_zero, List.getElem?_cons_succ] at m0 m1 m2 m3 m4 m5 t5
          by_cases h7 : x.kind = 7
          · have q7 : (x.kind == 7) = true := beq_iff_eq.2 h7
            have LENF := Lib.hid (show (rows ++ x.args).length ≤ 100000 from by have := HLEN.out; have := HOKX.out.1; have := HR8.out.1.ok.part; rw [List.length_append]; omega)
            have SPF := Lib.hid (show listS l f tag st = .ok (.mk 7 0 ⟨#[]⟩ 0 [] (rows ++ x.args)) st7 from by rw [SPE.out]; unfold joinS; rw [if_pos h7])
            obtain ⟨a9, n9, c9, w9, hrun, hrow9, hk9⟩ := ROW8.out.appRow (c := cap7) HT8.out.argsOf (HOKX.out.2 h7) (fun q hq hs => ⟨by have := HTW.out; have := hs.1; omega, hs.2, fun e => by have := HLV.out q e; have := hs.1; omega⟩) (by have := LENF.out; rw [List.length_append] at this; omega) (by have := T8.out.lt; omega) (fun q hq => (HR8.out.1.atoms.lt hq).1)
            have HRUN := Lib.hid hrun
            have ROW9 := Lib.hid hrow9
            have K9 := Lib.hid hk9
            have T9 := Lib.hid (T8.out.keep K9.out (fun hq => by have := (ROW8.out.ts.block hq).1; omega))
            have R9 := Lib.hid (R8.out.keep K9.out (fun hq => by have := (ROW8.out.ts.block hq).1; have := HWT.out; omega))
            have HR9 := Lib.hid (RdRes.late HR8.out HGL.out K9.out (fun q hq => ⟨by have := (ROW8.out.ts.block hq).1; have := HWT.out; omega, ROW8.out.ne q hq⟩))
            clear hrun hrow9 hk9 h7 SPE
            go_wp2_with (at_builtin; refine stop ?_)
            refine Stopped.of ?_
            refine wp_app_eq rfl (.tmp 35) (.tmp 37) _ _ rfl _ _ (.slice a9 n9 c9) w9 rfl rfl HRUN.out ?_
            have d5 := T9.out.cell 5
            have f5 := T9.out.frozen 5
            simp only [List.getElem?_cons_zero, List.getElem?_cons_succ] at d5
            have TA := Lib.hid (show Cells _ (w.heap.size + 1) 35 [.int .i64 7, .int .i64 0, .string ⟨#[]⟩, .int .u32 0, .slice none 0 0, .slice a9 n9 c9] from T9.out.set_ 5 (.slice a9 n9 c9))
            have RA := Lib.hid (R9.out.far (p := ⟨w.heap.size + 1, 5, none⟩) (fun e => HTR.out e.symm) (.slice a9 n9 c9))
            have KA := Lib.hid (show Keep (fun q => q = w.heap.size + 1) w9 (w9.setCell ⟨w.heap.size + 1, 5, none⟩ (.slice a9 n9 c9)) from (Keep.refl (fun q => q = w.heap.size + 1) w9).setCell (p := ⟨w.heap.size + 1, 5, none⟩) (fun _ => rfl) (.slice a9 n9 c9))
            have HRA := Lib.hid (RdRes.late HR9.out HGL.out KA.out (fun q (hq : q = w.heap.size + 1) => by rw [hq]; exact ⟨HWT.out, NT7.out⟩))
            have ROWA := Lib.hid (ROW9.out.keep KA.out (fun q (hq : q = w.heap.size + 1) => .inl (by omega)))
            clear m0 m1 m2 m3 m4 m5 t5
            go_upto_region 10 with (fail)
            generalize w9.setCell ⟨w.heap.size + 1, 5, none⟩ (.slice a9 n9 c9) = wa at *
            clear d5 f5
            have k0 := TA.out.cell 0
            have k1 := TA.out.cell 1
            have k2 := TA.out.cell 2
            have k3 := TA.out.cell 3
            have k4 := TA.out.cell 4
            have k5 := TA.out.cell 5
            simp only [List.getElem?_cons_zero, List.getElem?_cons_succ] at k0 k1 k2 k3 k4 k5
            have RF := RA
            unfold termZ at RF
            go_wp2_with (refine wpList_store_blk rfl _ (.tmp 6) (.tmp 46) rfl w.heap.size 0 [.int .i64 7, .int .i64 0, .string ⟨#[]⟩, .int .u32 0, .slice none 0 0, .slice a9 n9 c9] (by rfl) (by rfl) (by kernel_rfl) (by simp [Value.oneCell']) 35 _ RF.out (by show 0 + 6 ≤ 6; decide) ?_; intro wz hCz hgz)
            have hCz' : Cells wz w.heap.size 35 [.int .i64 7, .int .i64 0, .string ⟨#[]⟩, .int .u32 0, .slice none 0 0, .slice a9 n9 c9] := hCz
            have z0 := hCz'.cell 0
            have z1 := hCz'.cell 1
            have z2 := hCz'.cell 2
            have z3 := hCz'.cell 3
            have z4 := hCz'.cell 4
            have z5 := hCz'.cell 5
            simp only [List.getElem?_cons_zero, List.getElem?_cons_succ] at z0 z1 z2 z3 z4 z5
            have KZ := Lib.hid (show Keep (fun q => q = w.heap.size) wa wz from (Keep.refl _ _).grown hgz (fun k hk _ => by cases hk; rfl))
            clear hCz hCz' hgz k0 k1 k2 k3 k4 k5
            go_wp2
            refine bodyPost_ret (v := .agg ([.int .i64 7, .int .i64 0, .string ⟨#[]⟩, .int .u32 0, .slice none 0 0, .slice a9 n9 c9]).toArray) (by simp [results, Tryz.results123, go_sem, z0, z1, z2, z3, z4, z5]) rfl ?_
            rw [SPF.out]
            refine ⟨_, _, rfl, ⟨_, rfl, ?_⟩, RdRes.late HRA.out HGL.out KZ.out (fun q (hq : q = w.heap.size) => by rw [hq]; exact ⟨Nat.le_refl _, NR7.out⟩)⟩
            obtain ⟨ra, rc, re, rcap, rargs⟩ := (ROWA.out.keep KZ.out (fun q (hq : q = w.heap.size) => .inl (by have := HWT.out; omega))).args
            refine TmAt.of ⟨show Part (7 : Int) 0 ⟨#[]⟩ 0 from ⟨by decide, by decide, by decide, by decide, by decide, by decide, by decide⟩, _, ra, rc, by rw [re]; rfl, (show NumsAt _ (.slice none 0 0) [] wz from ⟨none, 0, rfl, ⟨Nat.le_refl _, by decide⟩, Nat.zero_le _, fun i hi => absurd hi (Nat.not_lt_zero _)⟩), rcap, by show (rows ++ x.args).length * 88 ≤ 140737488351232; have := LENF.out; omega, ?_⟩
            exact rargs.mono (fun q _ hq => ⟨by have := HWT.out; have := hq.1; omega, hq.2⟩)
          · have q7 : (x.kind == 7) = false := beq_eq_false_iff_ne.2 h7
            have LENF := Lib.hid (show (rows ++ [x]).length ≤ 100000 from by have := HLEN.out; have := HOKX.out.1; have := HR8.out.1.ok.part; rw [List.length_append, List.length_singleton]; omega)
            have SPF := Lib.hid (show listS l f tag st = .ok (.mk 7 0 ⟨#[]⟩ 0 [] (rows ++ [x])) st7 from by rw [SPE.out]; unfold joinS; rw [if_neg h7])
            obtain ⟨a9, n9, c9, w9, hrun, hrow9, hk9⟩ := ROW8.out.app HT8.out (fun q hq hs => ⟨by have := HTW.out; have := hs.1; omega, hs.2, fun e => by have := HLV.out q e; have := hs.1; omega⟩) (by have := LENF.out; rw [List.length_append, List.length_singleton] at this; omega) (by have := T8.out.lt; omega) (fun q hq => (HR8.out.1.atoms.lt hq).1)
            have HRUN := Lib.hid hrun
            have ROW9 := Lib.hid hrow9
            have K9 := Lib.hid hk9
            have T9 := Lib.hid (T8.out.keep K9.out (fun hq => by have := (ROW8.out.ts.block hq).1; omega))
            have R9 := Lib.hid (R8.out.keep K9.out (fun hq => by have := (ROW8.out.ts.block hq).1; have := HWT.out; omega))
            have HR9 := Lib.hid (RdRes.late HR8.out HGL.out K9.out (fun q hq => ⟨by have := (ROW8.out.ts.block hq).1; have := HWT.out; omega, ROW8.out.ne q hq⟩))
            clear hrun hrow9 hk9 h7 SPE
            go_wp2_with (at_builtin; refine stop ?_)
            refine Stopped.of ?_
            refine wp_app_eq rfl (.tmp 41) (.tmp 43) _ _ rfl _ _ (.slice a9 n9 c9) w9 rfl rfl HRUN.out ?_
            have d5 := T9.out.cell 5
            have f5 := T9.out.frozen 5
            simp only [List.getElem?_cons_zero, List.getElem?_cons_succ] at d5
            have TA := Lib.hid (show Cells _ (w.heap.size + 1) 35 [.int .i64 7, .int .i64 0, .string ⟨#[]⟩, .int .u32 0, .slice none 0 0, .slice a9 n9 c9] from T9.out.set_ 5 (.slice a9 n9 c9))
            have RA := Lib.hid (R9.out.far (p := ⟨w.heap.size + 1, 5, none⟩) (fun e => HTR.out e.symm) (.slice a9 n9 c9))
            have KA := Lib.hid (show Keep (fun q => q = w.heap.size + 1) w9 (w9.setCell ⟨w.heap.size + 1, 5, none⟩ (.slice a9 n9 c9)) from (Keep.refl (fun q => q = w.heap.size + 1) w9).setCell (p := ⟨w.heap.size + 1, 5, none⟩) (fun _ => rfl) (.slice a9 n9 c9))
            have HRA := Lib.hid (RdRes.late HR9.out HGL.out KA.out (fun q (hq : q = w.heap.size + 1) => by rw [hq]; exact ⟨HWT.out, NT7.out⟩))
            have ROWA := Lib.hid (ROW9.out.keep KA.out (fun q (hq : q = w.heap.size + 1) => .inl (by omega)))
            clear m0 m1 m2 m3 m4 m5 t5
            go_upto_region 10 with (fail)
            generalize w9.setCell ⟨w.heap.size + 1, 5, none⟩ (.slice a9 n9 c9) = wa at *
            clear d5 f5
            have k0 := TA.out.cell 0
            have k1 := TA.out.cell 1
            have k2 := TA.out.cell 2
            have k3 := TA.out.cell 3
            have k4 := TA.out.cell 4
            have k5 := TA.out.cell 5
            simp only [List.getElem?_cons_zero, List.getElem?_cons_succ] at k0 k1 k2 k3 k4 k5
            have RF := RA
            unfold termZ at RF
            go_wp2_with (refine wpList_store_blk rfl _ (.tmp 6) (.tmp 46) rfl w.heap.size 0 [.int .i64 7, .int .i64 0, .string ⟨#[]⟩, .int .u32 0, .slice none 0 0, .slice a9 n9 c9] (by rfl) (by rfl) (by kernel_rfl) (by simp [Value.oneCell']) 35 _ RF.out (by show 0 + 6 ≤ 6; decide) ?_; intro wz hCz hgz)
            have hCz' : Cells wz w.heap.size 35 [.int .i64 7, .int .i64 0, .string ⟨#[]⟩, .int .u32 0, .slice none 0 0, .slice a9 n9 c9] := hCz
            have z0 := hCz'.cell 0
            have z1 := hCz'.cell 1
            have z2 := hCz'.cell 2
            have z3 := hCz'.cell 3
            have z4 := hCz'.cell 4
            have z5 := hCz'.cell 5
            simp only [List.getElem?_cons_zero, List.getElem?_cons_succ] at z0 z1 z2 z3 z4 z5
            have KZ := Lib.hid (show Keep (fun q => q = w.heap.size) wa wz from (Keep.refl _ _).grown hgz (fun k hk _ => by cases hk; rfl))
            clear hCz hCz' hgz k0 k1 k2 k3 k4 k5
            go_wp2
            refine bodyPost_ret (v := .agg ([.int .i64 7, .int .i64 0, .string ⟨#[]⟩, .int .u32 0, .slice none 0 0, .slice a9 n9 c9]).toArray) (by simp [results, Tryz.results123, go_sem, z0, z1, z2, z3, z4, z5]) rfl ?_
            rw [SPF.out]
            refine ⟨_, _, rfl, ⟨_, rfl, ?_⟩, RdRes.late HRA.out HGL.out KZ.out (fun q (hq : q = w.heap.size) => by rw [hq]; exact ⟨Nat.le_refl _, NR7.out⟩)⟩
            obtain ⟨ra, rc, re, rcap, rargs⟩ := (ROWA.out.keep KZ.out (fun q (hq : q = w.heap.size) => .inl (by have := HWT.out; omega))).args
            refine TmAt.of ⟨show Part (7 : Int) 0 ⟨#[]⟩ 0 from ⟨by decide, by decide, by decide, by decide, by decide, by decide, by decide⟩, _, ra, rc, by rw [re]; rfl, (show NumsAt _ (.slice none 0 0) [] wz from ⟨none, 0, rfl, ⟨Nat.le_refl _, by decide⟩, Nat.zero_le _, fun i hi => absurd hi (Nat.not_lt_zero _)⟩), rcap, by show (rows ++ [x]).length * 88 ≤ 140737488351232; have := LENF.out; omega, ?_⟩
            exact rargs.mono (fun q _ hq => ⟨by have := HWT.out; have := hq.1; omega, hq.2⟩)
end Go.Proofs.YtlahagabcnmdiaaGreatDoor
end
