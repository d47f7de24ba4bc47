/- Texts laid together: NodeB, AtomN, AtomO, AtomQ, AtomR, AtomS. -/
import Derived.Test.YtkipjbmckpmmfaaDoorV17
import Derived.Test.YtkipjbmckpmmfaaDoorV7
import Derived.Test.YtkipjbmckpmmfaaDoorShelf
section
/- The reference of layer 1: bytes of words; one link. -/
open Go Go.RowKit
namespace Go.Proofs.YtkipjbmckpmmfaaDoor

theorem small_any (c : Int) (w : World) : Calls Tryd.prog 63 #[.int .u8 c] w fun e w' => e = .returned (.bool (kindS c == 1)) ∧ w' = w := by
  by_cases h1 : 97 ≤ c
  · by_cases h2 : c ≤ 122
    · have P := Lib.hid (show (kindS c == 1) = true by unfold kindS; rw [if_pos ⟨h1, h2⟩]; rfl)
      go_enter Tryd.func63, Tryd.ntmps63
      go_wp2
      go_ret
      exact ⟨ret_bool P.out.symm, rfl⟩
    · have P := Lib.hid (show (kindS c == 1) = false by unfold kindS; rw [if_neg (by omega)]; (repeat' split) <;> rfl)
      go_enter Tryd.func63, Tryd.ntmps63
      go_wp2
      go_ret
      exact ⟨ret_bool P.out.symm, rfl⟩
  · have P := Lib.hid (show (kindS c == 1) = false by unfold kindS; rw [if_neg (by omega)]; (repeat' split) <;> rfl)
    go_enter Tryd.func63, Tryd.ntmps63
    go_wp2
    go_ret
    exact ⟨ret_bool P.out.symm, rfl⟩

theorem kindS_ne (c : Int) : (kindS c != 0) = (decide (97 ≤ c ∧ c ≤ 122) || (decide (65 ≤ c ∧ c ≤ 90) || (decide (48 ≤ c ∧ c ≤ 57) || (decide (c = 95 ∨ c = 64))))) := by
  unfold kindS
  by_cases h1 : 97 ≤ c ∧ c ≤ 122
  · simp [h1]
  · by_cases h2 : 65 ≤ c ∧ c ≤ 90
    · simp [h1, h2]
    · by_cases h3 : 48 ≤ c ∧ c ≤ 57
      · simp [h1, h2, h3]
      · by_cases h4 : c = 95 ∨ c = 64
        · simp [h1, h2, h3, h4]
        · simp [h1, h2, h3, h4]

set_option maxHeartbeats 4000000 in
theorem inWord_any (c : Int) (w : World) : Calls Tryd.prog 56 #[.int .u8 c] w fun e w' => e = .returned (.bool (kindS c != 0)) ∧ w' = w := by
  by_cases h1 : kindS c = 1
  · have hb : (kindS c == 1) = true := by simp [h1]
    have P := Lib.hid (show (kindS c != 0) = true by rw [h1]; rfl)
    clear h1
    go_enter Tryd.func56, Tryd.ntmps56
    go_wp2_with (go_at_call 63; refine (small_any _ _).mono ?_; rintro e w' ⟨rfl, rfl⟩)
    go_ret
    exact ⟨ret_bool P.out.symm, rfl⟩
  · have hb : (kindS c == 1) = false := by simp [h1]
    have h97 := Lib.hid (show ¬ (97 ≤ c ∧ c ≤ 122) from fun h => h1 (by unfold kindS; rw [if_pos h]))
    have c95 : (c == 95) = true ∨ (c == 95) = false := by cases (c == 95) <;> simp
    have c64 : (c == 64) = true ∨ (c == 64) = false := by cases (c == 64) <;> simp
    clear h1
    rcases c95 with c95 | c95 <;> rcases c64 with c64 | c64
    all_goals
      go_enter Tryd.func56, Tryd.ntmps56
      go_wp2_with (go_at_call 63; refine (small_any _ _).mono ?_; rintro e w' ⟨rfl, rfl⟩)
    all_goals
      go_ret
      refine ⟨ret_bool ?_, rfl⟩
      have := h97.out
      rw [kindS_ne]
      simp only [beq_iff_eq, beq_eq_false_iff_ne] at c95 c64
      first | (symm; simp; omega) | (simp; omega) | (rw [Bool.eq_iff_iff]; simp; omega)

theorem no01_any (at_ code : Int) (w : World) :
    Calls Tryd.prog 52 #[.int .i64 at_, .int .i64 code] w fun e w' => ∃ v, e = .returned v ∧ LinksIs w.heap.size v [⟨atomL, at_, code⟩] w' ∧ Below w.heap.size w w' := by
  go_enter Tryd.func52, Tryd.ntmps52
  go_wp2_with (go_at_call 13; refine (one_any _ _ _ _).mono ?_; rintro e w' ⟨rfl, rfl⟩)
  go_ret
  exact ⟨_, rfl, LinksIs.lit ⟨atomL, at_, code⟩ (Nat.le_refl _), (Below.refl _ _).alloc (Nat.le_refl _) _⟩
end Go.Proofs.YtkipjbmckpmmfaaDoor
end
section
/- strings.Cut at one byte; package atom's Node and its reference: the pure part. -/
open Go Go.RowKit
namespace Go.Proofs.YtkipjbmckpmmfaaDoor

/-- Cut at a byte: the two parts, and whether the byte is there -/
def cutS (s : ByteArray) (c : UInt8) : ByteArray × ByteArray × Bool :=
  if 0 ≤ Lib.indexByte s.data.toList c then (s.extract 0 (Lib.indexByte s.data.toList c).toNat, s.extract ((Lib.indexByte s.data.toList c).toNat + 1) s.size, true) else (s, ⟨#[]⟩, false)

theorem run_to {P : Program} {t : TypeId} (h : P.underlying t = some .string) (s : ByteArray) (b : Nat) (hb : b ≤ s.size) (w : World) :
    (Instr.slice t (.string s) none (some (.int .i64 b)) none).run P w = .ok (.string (s.extract 0 b)) w := by
  simp [Instr.slice, run_underlying h, Instr.sliceBounds, Instr.sliceBound, asIntOf, hb]
theorem run_from {P : Program} {t : TypeId} (h : P.underlying t = some .string) (s : ByteArray) (a : Nat) (ha : a ≤ s.size) {x : Int} (hx : x = a) (w : World) :
    (Instr.slice t (.string s) (some (.int .i64 x)) none none).run P w = .ok (.string (s.extract a s.size)) w := by
  subst hx
  simp [Instr.slice, run_underlying h, Instr.sliceBounds, Instr.sliceBound, asIntOf, ha]

set_option maxRecDepth 100000 in
theorem icut_any (s : ByteArray) (c : UInt8) (w : World) (hs : s.size ≤ 140737488351232) :
    Calls Tryd.prog 78 #[.string s, .string ⟨#[c]⟩] w fun e w' => e = .returned (.tuple #[.string (cutS s c).1, .string (cutS s c).2.1, .bool (cutS s c).2.2]) ∧ ∃ n, w' = w.drewN n := by
  have HI := Lib.hid (fun w => Tryd.stringslite_Index_one s c w)
  by_cases h : 0 ≤ Lib.indexByte s.data.toList c
  · have e : cutS s c = (s.extract 0 (Lib.indexByte s.data.toList c).toNat, s.extract ((Lib.indexByte s.data.toList c).toNat + 1) s.size, true) := by unfold cutS; rw [if_pos h]
    obtain ⟨k, hk⟩ : ∃ k : Nat, Lib.indexByte s.data.toList c = k := ⟨(Lib.indexByte s.data.toList c).toNat, by omega⟩
    rw [hk, Int.toNat_natCast] at e
    have HE := Lib.hid e
    have hlt : k < s.size := by
      have := (Lib.indexByte_some hk).1
      have := (List.getElem?_eq_some_iff.1 this).1
      simpa using this
    rw [hk] at HI
    have hs1 := fun w => run_to (P := Tryd.prog) Tryd.underlying9 s k (by omega) w
    have hs2 := fun w => run_from (P := Tryd.prog) Tryd.underlying9 s (k + 1) (by omega) (x := (k : Int) + 1) (by omega) w
    clear e h hk
    go_enter Tryd.func78, Tryd.ntmps78
    go_wp2_with (go_at_call 81; refine (HI.out _).mono ?_; rintro e w' ⟨rfl, rfl⟩)
    go_quiet (fail)
    go_wp2
    go_ret3
    rw [HE.out]
    exact ⟨rfl, _, rfl⟩
  · have e : cutS s c = (s, ⟨#[]⟩, false) := by unfold cutS; rw [if_neg h]
    have HE := Lib.hid e
    clear e
    go_enter Tryd.func78, Tryd.ntmps78
    go_wp2_with (go_at_call 81; refine (HI.out _).mono ?_; rintro e w' ⟨rfl, rfl⟩)
    go_ret3
    rw [HE.out]
    exact ⟨rfl, 0, rfl⟩
theorem cut_any (s : ByteArray) (c : UInt8) (w : World) (hs : s.size ≤ 140737488351232) :
    Calls Tryd.prog 72 #[.string s, .string ⟨#[c]⟩] w fun e w' => e = .returned (.tuple #[.string (cutS s c).1, .string (cutS s c).2.1, .bool (cutS s c).2.2]) ∧ ∃ n, w' = w.drewN n := by
  have H := Lib.hid (icut_any s c w hs)
  go_enter Tryd.func72, Tryd.ntmps72
  go_wp2_with (go_at_call 78; refine H.out.mono ?_; rintro e w' ⟨rfl, n, rfl⟩)
  go_ret3
  exact ⟨rfl, n, rfl⟩
end Go.Proofs.YtkipjbmckpmmfaaDoor
end
section
/- Package atom: Node. -/
open Go Go.RowKit
namespace Go.Proofs.YtkipjbmckpmmfaaDoor

def okN (c : UInt8) : Bool := (kindS c.toNat != 0) || (c.toNat == 45)
def okH (c : UInt8) : Bool := (kindS c.toNat != 0) || (c.toNat == 45) || (c.toNat == 46)
/-- what is asked of the two parts ahead of their letters -/
def goodS (s : ByteArray) : Bool :=
  (cutS s 64).2.2 && !(cutS s 64).1.toList.isEmpty && !(cutS s 64).2.1.toList.isEmpty && decide (s.size ≤ 64) && !decide (0 ≤ Lib.indexByte (cutS s 64).2.1.data.toList 64)
def goodAll (s : ByteArray) : Bool := goodS s && (cutS s 64).1.data.toList.all okN && (cutS s 64).2.1.data.toList.all okH
def nodeS (s : ByteArray) : ByteArray × ByteArray × List Lk := if goodAll s then ((cutS s 64).1, (cutS s 64).2.1, []) else (⟨#[]⟩, ⟨#[]⟩, [⟨atomL, 0, 24⟩])

theorem cut_size (s : ByteArray) (c : UInt8) : (cutS s c).1.size ≤ s.size ∧ (cutS s c).2.1.size ≤ s.size := by
  unfold cutS; split
  · simp [ByteArray.size_extract]; omega
  · exact ⟨Nat.le_refl _, Nat.zero_le _⟩

set_option maxHeartbeats 16000000 in
set_option maxRecDepth 100000 in
theorem node_any (s : ByteArray) (w : World) (hs : s.size ≤ 140737488351232) :
    Calls Tryd.prog 67 #[.string s] w fun e w' => ∃ ev, e = .returned (.tuple #[.string (nodeS s).1, .string (nodeS s).2.1, ev]) ∧ ErrIs w' ev (nodeS s).2.2 ∧ Below w.heap.size w w' := by
  have HC := Lib.hid (cut_any s 64 w hs)
  have hz := cut_size s 64
  have HI := fun w => Lib.hid (Tryd.strings_Contains_one (cutS s 64).2.1 64 w)
  have HG : goodS s = ((cutS s 64).2.2 && !(cutS s 64).1.toList.isEmpty && !(cutS s 64).2.1.toList.isEmpty && decide (s.size ≤ 64) && !decide (0 ≤ Lib.indexByte (cutS s 64).2.1.data.toList 64)) := rfl
  have HN : nodeS s = (if (goodS s && (cutS s 64).1.data.toList.all okN && (cutS s 64).2.1.data.toList.all okH) then ((cutS s 64).1, (cutS s 64).2.1, []) else (⟨#[]⟩, ⟨#[]⟩, [⟨atomL, 0, 24⟩])) := rfl
  generalize hcut : cutS s 64 = ct at *
  obtain ⟨a, b, ok⟩ := ct
  simp only at *
  have hcv1 := fun w => Lib.run_convert_string_bytes (P := Tryd.prog) w 9 127 5 a Tryd.underlying9 Tryd.underlying127 Tryd.underlying5
  have hcv2 := fun w => Lib.run_convert_string_bytes (P := Tryd.prog) w 9 127 5 b Tryd.underlying9 Tryd.underlying127 Tryd.underlying5
  have H : (ok = false ∧ goodS s = false) ∨ (ok = true ∧ a.toList.isEmpty = true ∧ goodS s = false) ∨ (ok = true ∧ a.toList.isEmpty = false ∧ b.toList.isEmpty = true ∧ goodS s = false) ∨
      (ok = true ∧ a.toList.isEmpty = false ∧ b.toList.isEmpty = false ∧ ¬ (s.size : Int) ≤ 64 ∧ goodS s = false) ∨
      (ok = true ∧ a.toList.isEmpty = false ∧ b.toList.isEmpty = false ∧ (s.size : Int) ≤ 64 ∧ goodS s = !decide (0 ≤ Lib.indexByte b.data.toList 64)) := by
    rw [HG]
    cases ok <;> cases a.toList.isEmpty <;> cases b.toList.isEmpty <;> by_cases h : s.size ≤ 64 <;> simp [h] <;> omega
  generalize hgd : goodS s = gd at *
  generalize hix : decide (0 ≤ Lib.indexByte b.data.toList 64) = ix at *
  have HNN := Lib.hid HN
  clear HN HG hcut hgd hix
  rcases H with ⟨rfl, hg⟩ | ⟨rfl, h1, hg⟩ | ⟨rfl, h1, h2, hg⟩ | ⟨rfl, h1, h2, h3, hg⟩ | ⟨rfl, h1, h2, h3, hg⟩
  all_goals
    have HGD := Lib.hid hg
    clear hg
    go_enter Tryd.func67, Tryd.ntmps67
    go_wp2_with fail
    refine HC.out.mono ?_
    rintro e w1 ⟨rfl, n1, rfl⟩
    go_wp2_with (go_at_call 73; refine (HI _).out.mono ?_; rintro e w2 ⟨rfl, rfl⟩)
    obtain ⟨W, hW⟩ : ∃ W, W = w.drewN n1 := ⟨_, rfl⟩
    have hbW : Below w.heap.size w W := by rw [hW]; exact below_drewN (Below.refl _ _) _
    have HWS := Lib.hid (show W.heap.size = w.heap.size by rw [hW]; rfl)
    rw [← hW]
    clear hW
    have HW := Lib.hid hbW
    clear hbW
    go_loopw [8, 41] (fun g i wr => ∃ k : Nat, k ≤ a.size ∧ i = .int .i64 k ∧ g = .bool (gd && (a.data.toList.take k).all okN) ∧ ConvRow w.heap.size a wr ∧ Below w.heap.size w wr) (fun _ i _ => a.size - (intOf i).toNat)
    case atStart =>
      exact ⟨0, Nat.zero_le _, rfl, by rw [HGD.out]; simp, HWS.out ▸ ConvRow.mk W a, below_bytesWorld HW.out HW.out.size _ _⟩
    case round =>
      obtain ⟨k, hk, rfl, rfl, hc, hbw⟩ := hrel
      by_cases hlt : k < a.size
      · have hki : (k : Int) < (a.size : Int) := by omega
        have hcell := hc.cell k hlt
        have hnx := Lib.hid (show (gd && (a.data.toList.take (k + 1)).all okN) = ((gd && (a.data.toList.take k).all okN) && okN a[k]) by
          rw [List.take_succ_eq_append_getElem (by simpa using hlt), List.all_append, Bool.and_assoc]; simp; rfl)
        have HCV := Lib.hid hc
        have HB := Lib.hid hbw
        clear hc hbw HGD
        generalize (gd && (a.data.toList.take k).all okN) = f at *
        generalize a[k] = c at *
        cases f with
        | false =>
          go_wp2
          go_roundw
          case rel => exact ⟨k + 1, by omega, by go_num, by rw [hnx.out]; rfl, HCV.out, HB.out⟩
          case measure => simp [intOf]; omega
        | true =>
          have HKD := Lib.hid (fun w => kind_any (c.toNat : Int) w)
          have hok := Lib.hid (show okN c = ((kindS (c.toNat : Int) != 0) || ((c.toNat : Int) == 45)) by unfold okN; congr 1; rw [Bool.eq_iff_iff]; simp; omega)
          by_cases c1 : (kindS (c.toNat : Int) != 0) = true
          · go_wp2_with (go_at_call 74; refine (HKD.out _).mono ?_; rintro e w3 ⟨rfl, rfl⟩)
            go_roundw
            case rel => exact ⟨k + 1, by omega, by go_num, by rw [hnx.out, hok.out, c1]; rfl, HCV.out, HB.out⟩
            case measure => simp [intOf]; omega
          · have c1' : (kindS (c.toNat : Int) != 0) = false := by simpa using c1
            clear c1
            go_wp2_with (go_at_call 74; refine (HKD.out _).mono ?_; rintro e w3 ⟨rfl, rfl⟩)
            go_roundw
            case rel => exact ⟨k + 1, by omega, by go_num, by rw [hnx.out, hok.out, c1']; rfl, HCV.out, HB.out⟩
            case measure => simp [intOf]; omega
      · have hkn : ¬ (k : Int) < (a.size : Int) := by omega
        rw [show (a.data.toList.take k) = a.data.toList from List.take_of_length_le (by simp; omega)]
        have HB := Lib.hid hbw
        clear hc hbw HGD
        generalize hf2 : (gd && a.data.toList.all okN) = f2 at *
        go_wp2_with fail
        go_loopw [8, 59] (fun g i wr2 => ∃ k : Nat, k ≤ b.size ∧ i = .int .i64 k ∧ g = .bool (f2 && (b.data.toList.take k).all okH) ∧ ConvRow wr.heap.size b wr2 ∧ Below w.heap.size w wr2) (fun _ i _ => b.size - (intOf i).toNat)
        case atStart =>
          exact ⟨0, Nat.zero_le _, rfl, by simp, ConvRow.mk wr b, below_bytesWorld HB.out HB.out.size _ _⟩
        case round =>
          obtain ⟨k2, hk2, rfl, rfl, hc, hbw⟩ := hrel
          by_cases hlt2 : k2 < b.size
          · have hki2 : (k2 : Int) < (b.size : Int) := by omega
            have hcell := hc.cell k2 hlt2
            have hnx := Lib.hid (show (f2 && (b.data.toList.take (k2 + 1)).all okH) = ((f2 && (b.data.toList.take k2).all okH) && okH b[k2]) by
              rw [List.take_succ_eq_append_getElem (by simpa using hlt2), List.all_append, Bool.and_assoc]; simp; rfl)
            have HCV := Lib.hid hc
            have HB2 := Lib.hid hbw
            clear hc hbw hf2
            generalize (f2 && (b.data.toList.take k2).all okH) = f at *
            generalize b[k2] = c at *
            cases f with
            | false =>
              go_wp2
              go_roundw
              case rel => exact ⟨k2 + 1, by omega, by go_num, by rw [hnx.out]; rfl, HCV.out, HB2.out⟩
              case measure => simp [intOf]; omega
            | true =>
              have HKD := Lib.hid (fun w => kind_any (c.toNat : Int) w)
              have hok := Lib.hid (show okH c = ((kindS (c.toNat : Int) != 0) || ((c.toNat : Int) == 45) || ((c.toNat : Int) == 46)) by
                unfold okH; congr 1
                · congr 1; rw [Bool.eq_iff_iff]; simp; omega
                · rw [Bool.eq_iff_iff]; simp; omega)
              by_cases c1 : (kindS (c.toNat : Int) != 0) = true
              · go_wp2_with (go_at_call 74; refine (HKD.out _).mono ?_; rintro e w3 ⟨rfl, rfl⟩)
                go_roundw
                case rel => exact ⟨k2 + 1, by omega, by go_num, by rw [hnx.out, hok.out, c1]; rfl, HCV.out, HB2.out⟩
                case measure => simp [intOf]; omega
              · have c1' : (kindS (c.toNat : Int) != 0) = false := by simpa using c1
                clear c1
                by_cases c2 : ((c.toNat : Int) == 45) = true
                · go_wp2_with (go_at_call 74; refine (HKD.out _).mono ?_; rintro e w3 ⟨rfl, rfl⟩)
                  go_roundw
                  case rel => exact ⟨k2 + 1, by omega, by go_num, by rw [hnx.out, hok.out, c1', c2]; rfl, HCV.out, HB2.out⟩
                  case measure => simp [intOf]; omega
                · have c2' : ((c.toNat : Int) == 45) = false := by simpa using c2
                  clear c2
                  go_wp2_with (go_at_call 74; refine (HKD.out _).mono ?_; rintro e w3 ⟨rfl, rfl⟩)
                  go_roundw
                  case rel => exact ⟨k2 + 1, by omega, by go_num, by rw [hnx.out, hok.out, c1', c2']; rfl, HCV.out, HB2.out⟩
                  case measure => simp [intOf]; omega
          · have hkn2 : ¬ (k2 : Int) < (b.size : Int) := by omega
            rw [show (b.data.toList.take k2) = b.data.toList from List.take_of_length_le (by simp; omega)]
            have HB2 := Lib.hid hbw
            clear hc hbw
            have HFin := Lib.hid HNN.out
            clear hf2 HNN
            generalize (f2 && b.data.toList.all okH) = f at *
            cases f with
            | false =>
              go_wp2_with (go_at_call 69; refine (refused_any _ _ _).mono ?_; rintro e w4 ⟨rfl, rfl⟩)
              go_ret3
              rw [HFin.out]
              exact ⟨_, rfl, ErrIs.one, HB2.out.alloc HB2.out.size _⟩
            | true =>
              go_wp2
              go_ret3
              rw [HFin.out]
              exact ⟨_, rfl, rfl, HB2.out⟩
end Go.Proofs.YtkipjbmckpmmfaaDoor
end
section
/- The reference's Node: the pure part, and that it is what package atom's Node is. -/
open Go Go.RowKit
namespace Go.Proofs.YtkipjbmckpmmfaaDoor

/-- one byte of the reference's loop: the place of the last '@', and whether all is well -/
def stepN (st : Int × Bool) (k : Nat) (c : UInt8) : Int × Bool :=
  if ((c.toNat : Int) == 64) = true then (k, st.2 && decide (st.1 < 0)) else (st.1, st.2 && ((kindS c.toNat != 0) || ((c.toNat : Int) == 45) || (((c.toNat : Int) == 46) && decide (0 ≤ st.1))))
def runN : List UInt8 → Nat → Int × Bool → Int × Bool
  | [], _, st => st
  | c :: r, k, st => runN r (k + 1) (stepN st k c)
def endN (s : ByteArray) : Int × Bool := runN s.data.toList 0 (-1, decide (3 ≤ (s.size : Int)) && decide ((s.size : Int) ≤ 64))
def nodeRS (s : ByteArray) : ByteArray × ByteArray × List Lk :=
  if (!(endN s).2 || decide ((endN s).1 < 1) || ((endN s).1 == (s.size : Int) - 1)) = true then (⟨#[]⟩, ⟨#[]⟩, [⟨atomL, 0, 24⟩])
  else (s.extract 0 (endN s).1.toNat, s.extract ((endN s).1.toNat + 1) s.size, [])

theorem okN_eq (c : UInt8) : okN c = ((kindS c.toNat != 0) || ((c.toNat : Int) == 45)) := by
  unfold okN; congr 1; rw [Bool.eq_iff_iff]; simp; omega
theorem okH_eq (c : UInt8) : okH c = ((kindS c.toNat != 0) || ((c.toNat : Int) == 45) || ((c.toNat : Int) == 46)) := by
  unfold okH; congr 1
  · congr 1; rw [Bool.eq_iff_iff]; simp; omega
  · rw [Bool.eq_iff_iff]; simp; omega
theorem is64 (c : UInt8) : (((c.toNat : Int) == 64) = true) ↔ c = 64 := by
  constructor
  · intro h
    have : c.toNat = 64 := by simp at h; omega
    exact UInt8.toNat_inj.1 this
  · rintro rfl; rfl

theorem runN_append (l1 : List UInt8) : ∀ (l2 : List UInt8) (k : Nat) (st : Int × Bool), runN (l1 ++ l2) k st = runN l2 (k + l1.length) (runN l1 k st) := by
  induction l1 with
  | nil => intro l2 k st; rfl
  | cons c r ih =>
    intro l2 k st
    rw [List.cons_append, runN, runN, ih]
    congr 1
    simp; omega
theorem runN_before (l : List UInt8) (h : 64 ∉ l) : ∀ (k : Nat) (g : Bool), runN l k (-1, g) = (-1, g && l.all okN) := by
  induction l with
  | nil => intro k g; simp [runN]
  | cons c r ih =>
    intro k g
    have hc : ¬ c = 64 := fun e => h (by simp [e])
    rw [runN, stepN, if_neg (by rw [is64]; exact hc), ih (fun e => h (by simp [e])), List.all_cons, okN_eq]
    simp [Bool.and_assoc]
theorem runN_after (l : List UInt8) (h : 64 ∉ l) (a : Int) (ha : 0 ≤ a) : ∀ (k : Nat) (g : Bool), runN l k (a, g) = (a, g && l.all okH) := by
  induction l with
  | nil => intro k g; simp [runN]
  | cons c r ih =>
    intro k g
    have hc : ¬ c = 64 := fun e => h (by simp [e])
    rw [runN, stepN, if_neg (by rw [is64]; exact hc), ih (fun e => h (by simp [e])), List.all_cons, okH_eq]
    simp [Bool.and_assoc, ha]
theorem runN_bad (l : List UInt8) : ∀ (k : Nat) (a : Int), (runN l k (a, false)).2 = false := by
  induction l with
  | nil => intro k a; rfl
  | cons c r ih =>
    intro k a
    rw [runN, stepN]
    split <;> simp only [Bool.false_and] <;> exact ih _ _
theorem runN_twice (l : List UInt8) (h : 64 ∈ l) : ∀ (k : Nat) (a : Int) (g : Bool), 0 ≤ a → (runN l k (a, g)).2 = false := by
  induction l with
  | nil => exact absurd h (by simp)
  | cons c r ih =>
    intro k a g ha
    rw [runN, stepN]
    by_cases hc : c = 64
    · rw [if_pos ((is64 c).2 hc)]
      have : decide (a < 0) = false := decide_eq_false (by omega)
      simp only [this, Bool.and_false]
      exact runN_bad r _ _
    · rw [if_neg (by rw [is64]; exact hc)]
      have hr : 64 ∈ r := by
        rcases List.mem_cons.1 h with e | e
        · exact absurd e.symm hc
        · exact e
      exact ih hr _ _ _ ha
end Go.Proofs.YtkipjbmckpmmfaaDoor
end
section
/- The reference's Node is package atom's Node. -/
open Go Go.RowKit
namespace Go.Proofs.YtkipjbmckpmmfaaDoor

theorem extract_list (s : ByteArray) (a b : Nat) : (s.extract a b).data.toList = (s.data.toList.drop a).take (b - a) := by
  rw [ByteArray.data_extract, Array.toList_extract, List.extract_eq_take_drop]
theorem isEmpty_list (s : ByteArray) : s.toList.isEmpty = decide (s.size = 0) := by
  rw [toList_data]
  cases h : s.data.toList with
  | nil => have : s.size = 0 := by simpa using congrArg List.length h
           simp [this]
  | cons a b => have : s.size = b.length + 1 := by simpa using congrArg List.length h
                simp [this]
theorem idx_neg (l : List UInt8) (c : UInt8) : Lib.indexByte l c < 0 ↔ c ∉ l := by
  constructor
  · intro h hm
    have h1 : Lib.indexByte l c = -1 := by have := Lib.indexByte_ge l c; omega
    obtain ⟨k, hk, hkk⟩ := List.getElem_of_mem hm
    exact Lib.indexByte_none h1 k (by rw [List.getElem?_eq_getElem hk, hkk])
  · intro h
    rcases Int.lt_or_le (Lib.indexByte l c) 0 with h1 | h1
    · exact h1
    · have := (Lib.indexByte_some (l := l) (c := c) (o := (Lib.indexByte l c).toNat) (by omega)).1
      exact absurd (List.mem_of_getElem? this) h

theorem nodeRS_eq (s : ByteArray) : nodeRS s = nodeS s := by
  by_cases h : Lib.indexByte s.data.toList 64 < 0
  · have hm := (idx_neg _ _).1 h
    have he : endN s = (-1, (decide (3 ≤ (s.size : Int)) && decide ((s.size : Int) ≤ 64)) && s.data.toList.all okN) := runN_before _ hm 0 _
    have hc : cutS s 64 = (s, ⟨#[]⟩, false) := by unfold cutS; rw [if_neg (by omega)]
    unfold nodeRS nodeS goodAll goodS
    rw [he, hc]
    simp
  · obtain ⟨k, hk⟩ : ∃ k : Nat, Lib.indexByte s.data.toList 64 = k := ⟨(Lib.indexByte s.data.toList 64).toNat, by omega⟩
    have hsome := Lib.indexByte_some hk
    have hlt : k < s.size := by
      have := (List.getElem?_eq_some_iff.1 hsome.1).1
      simpa using this
    have hc : cutS s 64 = (s.extract 0 k, s.extract (k + 1) s.size, true) := by
      unfold cutS; rw [if_pos (by omega), hk]; rfl
    have hla : (s.extract 0 k).data.toList = s.data.toList.take k := by rw [extract_list]; simp
    have hlb : (s.extract (k + 1) s.size).data.toList = s.data.toList.drop (k + 1) := by
      rw [extract_list]
      exact List.take_of_length_le (by simp)
    have hsza : (s.extract 0 k).size = k := by simp [ByteArray.size_extract]; omega
    have hszb : (s.extract (k + 1) s.size).size = s.size - (k + 1) := by simp [ByteArray.size_extract]
    have hsplit : s.data.toList = s.data.toList.take k ++ (64 :: s.data.toList.drop (k + 1)) := by
      have h1 : s.data.toList.drop k = 64 :: s.data.toList.drop (k + 1) := by
        rw [List.drop_eq_getElem_cons (by simpa using hlt)]
        congr 1
        have := hsome.1
        rw [List.getElem?_eq_getElem (by simpa using hlt)] at this
        exact Option.some.inj this
      rw [← h1, List.take_append_drop]
    have hpre : 64 ∉ s.data.toList.take k := by
      intro hm
      obtain ⟨j, hj, hjj⟩ := List.getElem_of_mem hm
      rw [List.length_take] at hj
      have := hsome.2 j (by omega)
      rw [List.getElem_take] at hjj
      exact this (by rw [List.getElem?_eq_getElem (by omega), hjj])
    have hlen : (s.data.toList.take k).length = k := by rw [List.length_take]; simp; omega
    have he : endN s = runN (s.data.toList.drop (k + 1)) (k + 1) ((k : Int), (decide (3 ≤ (s.size : Int)) && decide ((s.size : Int) ≤ 64)) && (s.data.toList.take k).all okN) := by
      unfold endN
      generalize (decide (3 ≤ (s.size : Int)) && decide ((s.size : Int) ≤ 64)) = g0
      generalize hA : s.data.toList.take k = A at *
      generalize hB : s.data.toList.drop (k + 1) = B at *
      rw [hsplit, runN_append, runN_before _ hpre, runN, hlen, Nat.zero_add]
      rw [stepN, if_pos ((is64 64).2 rfl)]
      simp
    unfold nodeRS nodeS goodAll goodS
    rw [he, hc]
    simp only [hla, hlb, isEmpty_list, hsza, hszb]
    by_cases h2 : 64 ∈ s.data.toList.drop (k + 1)
    · have h3 : 0 ≤ Lib.indexByte (s.data.toList.drop (k + 1)) 64 := by
        rcases Int.lt_or_le (Lib.indexByte (s.data.toList.drop (k + 1)) 64) 0 with h4 | h4
        · exact absurd h2 ((idx_neg _ _).1 h4)
        · exact h4
      rw [runN_twice _ h2 _ _ _ (by omega)]
      simp [h3]
    · have h3 : ¬ 0 ≤ Lib.indexByte (s.data.toList.drop (k + 1)) 64 := by
        have := (idx_neg _ _).2 h2; omega
      rw [runN_after _ h2 _ (by omega)]
      generalize (s.data.toList.take k).all okN = A1
      generalize (s.data.toList.drop (k + 1)).all okH = A2
      simp only [decide_eq_false h3, Bool.not_false, Bool.and_true, Bool.true_and]
      by_cases c1 : k = 0
      · subst c1; simp
      · by_cases c2 : s.size = k + 1
        · have : ((k : Int) == (s.size : Int) - 1) = true := by simp; omega
          simp [c2]
        · have h5 : ((k : Int) == (s.size : Int) - 1) = false := by simp; omega
          have h6 : decide ((k : Int) < 1) = false := by simp; omega
          have h7 : decide (3 ≤ (s.size : Int)) = true := by simp; omega
          have h8 : decide (s.size - (k + 1) = 0) = false := by simp; omega
          have h9 : decide (k = 0) = false := by simp [c1]
          have h10 : decide ((s.size : Int) ≤ 64) = decide (s.size ≤ 64) := by
            by_cases h : s.size ≤ 64
            · simp [h]; omega
            · simp [h]; omega
          rw [h5, h6, h7, h8, h9, h10]
          cases decide (s.size ≤ 64) <;> cases A1 <;> cases A2 <;> simp
end Go.Proofs.YtkipjbmckpmmfaaDoor
end
section
/- The reference's Node, walked; the statement AtomNodes. -/
open Go Go.RowKit
namespace Go.Proofs.YtkipjbmckpmmfaaDoor

theorem runN_bd (l : List UInt8) : ∀ (k : Nat) (st : Int × Bool), -1 ≤ st.1 → st.1 < k → -1 ≤ (runN l k st).1 ∧ (runN l k st).1 < k + l.length := by
  induction l with
  | nil => intro k st h1 h2; exact ⟨h1, by simpa [runN] using h2⟩
  | cons c r ih =>
    intro k st h1 h2
    rw [runN]
    have := ih (k + 1) (stepN st k c) (by unfold stepN; split <;> simp <;> omega) (by unfold stepN; split <;> simp <;> omega)
    refine ⟨this.1, ?_⟩
    have := this.2
    simp; omega
theorem runN_snoc (s : ByteArray) (k : Nat) (h : k < s.size) (st : Int × Bool) : runN (s.data.toList.take (k + 1)) 0 st = stepN (runN (s.data.toList.take k) 0 st) k s[k] := by
  rw [List.take_succ_eq_append_getElem (by simpa using h), runN_append]
  have : (s.data.toList.take k).length = k := by simp; omega
  rw [this, Nat.zero_add]
  rfl

theorem run_slice_string_to {P : Program} {t : TypeId} (h : P.underlying t = some .string) (s : ByteArray) (b : Nat) (hb : b ≤ s.size) (w : World) :
    (Instr.slice t (.string s) none (some (.int .i64 (b : Int))) none).run P w = .ok (.string (s.extract 0 b)) w := by
  simp [Instr.slice, run_underlying h, Instr.sliceBounds, Instr.sliceBound, asIntOf, hb]
theorem run_slice_string_from {P : Program} {t : TypeId} (h : P.underlying t = some .string) (s : ByteArray) (a : Nat) (ha : a ≤ s.size) (w : World) :
    (Instr.slice t (.string s) (some (.int .i64 (a : Int))) none none).run P w = .ok (.string (s.extract a s.size)) w := by
  simp [Instr.slice, run_underlying h, Instr.sliceBounds, Instr.sliceBound, asIntOf, ha]

def RetSSN (B : Nat) (w : World) (r : ByteArray × ByteArray × List Lk) (e : Ending) (w' : World) : Prop := ∃ lv, e = .returned (.tuple #[.string r.1, .string r.2.1, lv]) ∧ LinksIs B lv r.2.2 w' ∧ Below B w w' ∧ (r.2.2 = [] → lv = .slice none 0 0)
set_option maxHeartbeats 800000 in
set_option maxRecDepth 100000 in
theorem nodeR_nil (s : ByteArray) (w : World) (hs : s.size ≤ 140737488351232) :
    Calls Tryd.prog 43 #[.string s] w (RetSSN w.heap.size w (nodeRS s)) := by
  have HFin := Lib.hid (show nodeRS s = (if (!(endN s).2 || decide ((endN s).1 < 1) || ((endN s).1 == (s.size : Int) - 1)) = true then (⟨#[]⟩, ⟨#[]⟩, [⟨atomL, 0, 24⟩])
    else (s.extract 0 (endN s).1.toNat, s.extract ((endN s).1.toNat + 1) s.size, [])) from rfl)
  have HE := Lib.hid (show endN s = runN s.data.toList 0 (-1, decide (3 ≤ (s.size : Int)) && decide ((s.size : Int) ≤ 64)) from rfl)
  have hg0 : (3 ≤ (s.size : Int) ∧ (decide (3 ≤ (s.size : Int)) && decide ((s.size : Int) ≤ 64)) = decide ((s.size : Int) ≤ 64)) ∨ (¬ 3 ≤ (s.size : Int) ∧ (decide (3 ≤ (s.size : Int)) && decide ((s.size : Int) ≤ 64)) = false) := by
    by_cases h : 3 ≤ (s.size : Int)
    · exact .inl ⟨h, by simp [h]⟩
    · exact .inr ⟨h, by simp [h]⟩
  generalize hgg : (decide (3 ≤ (s.size : Int)) && decide ((s.size : Int) ≤ 64)) = g0 at *
  clear hgg
  rcases hg0 with ⟨h3, hg⟩ | ⟨h3, hg⟩
  all_goals
    have HG := Lib.hid hg
    clear hg
    go_enter Tryd.func43, Tryd.ntmps43
    go_wp2_with fail
    go_loop [5, 6, 7] (fun a g i => ∃ k : Nat, k ≤ s.size ∧ i = .int .i64 k ∧ a = .int .i64 (runN (s.data.toList.take k) 0 (-1, g0)).1 ∧ g = .bool (runN (s.data.toList.take k) 0 (-1, g0)).2) (fun _ _ i => s.size - (intOf i).toNat)
    case atStart => exact ⟨0, Nat.zero_le _, rfl, rfl, by rw [HG.out]; rfl⟩
    case round =>
      clear HG
      obtain ⟨k, hk, rfl, rfl, rfl⟩ := hrel
      have hbd := runN_bd (s.data.toList.take k) 0 (-1, g0) (by simp) (by simp)
      have hlen : (s.data.toList.take k).length ≤ k := List.length_take_le _ _
      by_cases hlt : k < s.size
      · have hki : (k : Int) < (s.size : Int) := by omega
        have hnx := Lib.hid (runN_snoc s k hlt (-1, g0))
        generalize runN (s.data.toList.take k) 0 (-1, g0) = st at *
        obtain ⟨a, g⟩ := st
        have hsc : s[k].toNat < 256 := s[k].toNat_lt
        clear HE HFin
        simp only at hbd
        by_cases c64 : ((s[k].toNat : Int) == 64) = true
        · have P : ∀ b, (a < 0 → b = g) → (¬ a < 0 → b = false) → stepN (a, g) k s[k] = ((k : Int), b) := by
            intro b h1 h2
            unfold stepN
            rw [if_pos c64]
            by_cases ha : a < 0
            · rw [h1 ha]; simp [ha]
            · rw [h2 ha]; simp [ha]
          have HP := Lib.hid P
          clear P
          cases g with
          | false =>
            go_wp2
            go_round
            case rel => exact ⟨k + 1, by omega, by go_num, by rw [hnx.out, HP.out false (fun _ => rfl) (fun _ => rfl)], by rw [hnx.out, HP.out false (fun _ => rfl) (fun _ => rfl)]⟩
            case measure => simp [intOf]; omega
          | true =>
            by_cases ha : a < 0
            · have HA := Lib.hid (HP.out true (fun _ => rfl) (fun h => absurd ha h))
              go_wp2
              go_round
              case rel => exact ⟨k + 1, by omega, by go_num, by rw [hnx.out, HA.out], by rw [hnx.out, HA.out]⟩
              case measure => simp [intOf]; omega
            · have HA := Lib.hid (HP.out false (fun h => absurd h ha) (fun _ => rfl))
              go_wp2
              go_round
              case rel => exact ⟨k + 1, by omega, by go_num, by rw [hnx.out, HA.out], by rw [hnx.out, HA.out]⟩
              case measure => simp [intOf]; omega
        · have P : stepN (a, g) k s[k] = (a, g && ((kindS (s[k].toNat : Int) != 0) || ((s[k].toNat : Int) == 45) || (((s[k].toNat : Int) == 46) && decide (0 ≤ a)))) := by
            unfold stepN
            rw [if_neg c64]
          have HP := Lib.hid P
          have c64' : ((s[k].toNat : Int) == 64) = false := by simpa using c64
          clear P c64
          cases g with
          | false =>
            go_wp2
            go_round
            case rel => exact ⟨k + 1, by omega, by go_num, by rw [hnx.out, HP.out], by rw [hnx.out, HP.out]; rfl⟩
            case measure => simp [intOf]; omega
          | true =>
            have HKD := Lib.hid (fun w => inWord_any (s[k].toNat : Int) w)
            by_cases c1 : (kindS (s[k].toNat : Int) != 0) = true
            · go_wp2_with (go_at_call 56; refine (HKD.out _).mono ?_; rintro e w3 ⟨rfl, rfl⟩)
              go_round
              case rel => exact ⟨k + 1, by omega, by go_num, by rw [hnx.out, HP.out], by rw [hnx.out, HP.out, c1]; rfl⟩
              case measure => simp [intOf]; omega
            · have c1' : (kindS (s[k].toNat : Int) != 0) = false := by simpa using c1
              clear c1
              by_cases c2 : ((s[k].toNat : Int) == 45) = true
              · go_wp2_with (go_at_call 56; refine (HKD.out _).mono ?_; rintro e w3 ⟨rfl, rfl⟩)
                go_round
                case rel => exact ⟨k + 1, by omega, by go_num, by rw [hnx.out, HP.out], by rw [hnx.out, HP.out, c1', c2]; rfl⟩
                case measure => simp [intOf]; omega
              · have c2' : ((s[k].toNat : Int) == 45) = false := by simpa using c2
                clear c2
                by_cases c3 : ((s[k].toNat : Int) == 46) = true
                · by_cases ha : 0 ≤ a
                  · go_wp2_with (go_at_call 56; refine (HKD.out _).mono ?_; rintro e w3 ⟨rfl, rfl⟩)
                    go_round
                    case rel => exact ⟨k + 1, by omega, by go_num, by rw [hnx.out, HP.out], by rw [hnx.out, HP.out, c1', c2', c3, decide_eq_true ha]; rfl⟩
                    case measure => simp [intOf]; omega
                  · go_wp2_with (go_at_call 56; refine (HKD.out _).mono ?_; rintro e w3 ⟨rfl, rfl⟩)
                    go_round
                    case rel => exact ⟨k + 1, by omega, by go_num, by rw [hnx.out, HP.out], by rw [hnx.out, HP.out, c1', c2', c3]; simp⟩
                    case measure => simp [intOf]; omega
                · have c3' : ((s[k].toNat : Int) == 46) = false := by simpa using c3
                  clear c3
                  go_wp2_with (go_at_call 56; refine (HKD.out _).mono ?_; rintro e w3 ⟨rfl, rfl⟩)
                  go_round
                  case rel => exact ⟨k + 1, by omega, by go_num, by rw [hnx.out, HP.out], by rw [hnx.out, HP.out, c1', c2', c3']; rfl⟩
                  case measure => simp [intOf]; omega
      · have hkn : ¬ (k : Int) < (s.size : Int) := by omega
        have hek : k = s.size := by omega
        rw [show (s.data.toList.take k) = s.data.toList from List.take_of_length_le (by simp; omega)] at hbd ⊢
        have HEE := HE.out
        have hF := HFin.out
        rw [HEE] at hF
        generalize runN s.data.toList 0 (-1, g0) = st at *
        obtain ⟨a, g⟩ := st
        simp only at hbd hF
        have ha1 : a < s.size := by have := hbd.2; simp at this; omega
        have HF := Lib.hid hF
        clear hF HEE HE HFin hek
        cases g with
        | false =>
          go_wp2_with (go_at_call 52; refine (no01_any _ _ _).mono ?_; rintro e w4 ⟨lv, rfl, hlk, hb⟩)
          go_ret3
          rw [HF.out]
          exact ⟨_, rfl, hlk, hb, (fun h => by cases h)⟩
        | true =>
          by_cases c1 : a < 1
          · have HF2 := Lib.hid (show nodeRS s = (⟨#[]⟩, ⟨#[]⟩, [⟨atomL, 0, 24⟩]) by rw [HF.out]; simp [c1])
            clear HF
            go_wp2_with (go_at_call 52; refine (no01_any _ _ _).mono ?_; rintro e w4 ⟨lv, rfl, hlk, hb⟩)
            go_ret3
            rw [HF2.out]
            exact ⟨_, rfl, hlk, hb, (fun h => by cases h)⟩
          · by_cases c2 : (a == (s.size : Int) - 1) = true
            · have HF2 := Lib.hid (show nodeRS s = (⟨#[]⟩, ⟨#[]⟩, [⟨atomL, 0, 24⟩]) by rw [HF.out]; simp [c2])
              clear HF
              go_wp2_with (go_at_call 52; refine (no01_any _ _ _).mono ?_; rintro e w4 ⟨lv, rfl, hlk, hb⟩)
              go_ret3
              rw [HF2.out]
              exact ⟨_, rfl, hlk, hb, (fun h => by cases h)⟩
            · have c2' : (a == (s.size : Int) - 1) = false := by simpa using c2
              have HF2 := Lib.hid (show nodeRS s = (s.extract 0 a.toNat, s.extract (a.toNat + 1) s.size, []) by rw [HF.out]; simp [c2', c1])
              have c3 : a ≠ (s.size : Int) - 1 := by simpa using c2
              obtain ⟨n, rfl⟩ : ∃ n : Nat, a = n := ⟨a.toNat, by omega⟩
              have hn1 : n + 1 ≤ s.size := by omega
              have hn2 : (n : Int) + 1 ≤ (s.size : Int) := by omega
              have hn3 : (n : Int) ≤ (s.size : Int) := by omega
              have hn4 : (0 : Int) ≤ (n : Int) := by omega
              have hnw := show IntKind.i64.wrap ((n : Int) + 1) = (n : Int) + 1 from IntWalk.i64_in _ (by omega)
              have hs1 := fun w => run_slice_string_to (P := Tryd.prog) Tryd.underlying9 s n (by omega) w
              have hs2 := fun w => run_slice_string_from (P := Tryd.prog) Tryd.underlying9 s (n + 1) (by omega) w
              clear HF c2 c3 hbd
              go_wp2
              go_quiet (fail)
              go_wp2
              go_ret3
              rw [HF2.out]
              exact ⟨_, rfl, LinksIs.nil _ _, below_drewN (Below.refl _ _) _, (fun _ => rfl)⟩
end Go.Proofs.YtkipjbmckpmmfaaDoor
end
