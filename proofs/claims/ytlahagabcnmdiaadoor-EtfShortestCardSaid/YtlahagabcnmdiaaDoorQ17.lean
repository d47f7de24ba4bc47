/- Texts laid together: NodeB, AtomN, AtomO. -/
import Derived.Test.YtlahagabcnmdiaaDoorQ13
import Derived.Test.YtlahagabcnmdiaaDoorQ11
import Derived.Test.YtlahagabcnmdiaaDoorShelf
section
/- The reference of layer 1: bytes of words; one link. -/
open Go Go.RowKit
namespace Go.Proofs.YtlahagabcnmdiaaDoor

theorem small_any (c : Int) (w : World) : Calls Tryd.prog 98 #[.int .u8 c] w fun e w' => e = .returned (.bool (kindS c == 1)) ∧ w' = w := by
  by_cases h1 : 97 ≤ c
  · by_cases h2 : c ≤ 122
    · have P := Lib.hid (show (kindS c == 1) = true by unfold kindS; rw [if_pos ⟨h1, h2⟩]; rfl)
      go_enter Tryd.func98, Tryd.ntmps98
      go_wp2
      go_ret
      exact ⟨ret_bool P.out.symm, rfl⟩
    · have P := Lib.hid (show (kindS c == 1) = false by unfold kindS; rw [if_neg (by omega)]; (repeat' split) <;> rfl)
      go_enter Tryd.func98, Tryd.ntmps98
      go_wp2
      go_ret
      exact ⟨ret_bool P.out.symm, rfl⟩
  · have P := Lib.hid (show (kindS c == 1) = false by unfold kindS; rw [if_neg (by omega)]; (repeat' split) <;> rfl)
    go_enter Tryd.func98, Tryd.ntmps98
    go_wp2
    go_ret
    exact ⟨ret_bool P.out.symm, rfl⟩

theorem kindS_ne (c : Int) : (kindS c != 0) = (decide (97 ≤ c ∧ c ≤ 122) || (decide (65 ≤ c ∧ c ≤ 90) || (decide (48 ≤ c ∧ c ≤ 57) || (decide (c = 95 ∨ c = 64))))) := by
  unfold kindS
  by_cases h1 : 97 ≤ c ∧ c ≤ 122
  · simp [h1]
  · by_cases h2 : 65 ≤ c ∧ c ≤ 90
    · simp [h1, h2]
    · by_cases h3 : 48 ≤ c ∧ c ≤ 57
      · simp [h1, h2, h3]
      · by_cases h4 : c = 95 ∨ c = 64
        · simp [h1, h2, h3, h4]
        · simp [h1, h2, h3, h4]

set_option maxHeartbeats 4000000 in
theorem inWord_any (c : Int) (w : World) : Calls Tryd.prog 80 #[.int .u8 c] w fun e w' => e = .returned (.bool (kindS c != 0)) ∧ w' = w := by
  by_cases h1 : kindS c = 1
  · have hb : (kindS c == 1) = true := by simp [h1]
    have P := Lib.hid (show (kindS c != 0) = true by rw [h1]; rfl)
    clear h1
    go_enter Tryd.func80, Tryd.ntmps80
    go_wp2_with (go_at_call 98; refine (small_any _ _).mono ?_; rintro e w' ⟨rfl, rfl⟩)
    go_ret
    exact ⟨ret_bool P.out.symm, rfl⟩
  · have hb : (kindS c == 1) = false := by simp [h1]
    have h97 := Lib.hid (show ¬ (97 ≤ c ∧ c ≤ 122) from fun h => h1 (by unfold kindS; rw [if_pos h]))
    have c95 : (c == 95) = true ∨ (c == 95) = false := by cases (c == 95) <;> simp
    have c64 : (c == 64) = true ∨ (c == 64) = false := by cases (c == 64) <;> simp
    clear h1
    rcases c95 with c95 | c95 <;> rcases c64 with c64 | c64
    all_goals
      go_enter Tryd.func80, Tryd.ntmps80
      go_wp2_with (go_at_call 98; refine (small_any _ _).mono ?_; rintro e w' ⟨rfl, rfl⟩)
    all_goals
      go_ret
      refine ⟨ret_bool ?_, rfl⟩
      have := h97.out
      rw [kindS_ne]
      simp only [beq_iff_eq, beq_eq_false_iff_ne] at c95 c64
      first | (symm; simp; omega) | (simp; omega) | (rw [Bool.eq_iff_iff]; simp; omega)

theorem no01_any (at_ code : Int) (w : World) :
    Calls Tryd.prog 76 #[.int .i64 at_, .int .i64 code] w fun e w' => ∃ v, e = .returned v ∧ LinksIs w.heap.size v [⟨atomL, at_, code⟩] w' ∧ Below w.heap.size w w' := by
  go_enter Tryd.func76, Tryd.ntmps76
  go_wp2_with (go_at_call 20; refine (one_any _ _ _ _).mono ?_; rintro e w' ⟨rfl, rfl⟩)
  go_ret
  exact ⟨_, rfl, LinksIs.lit ⟨atomL, at_, code⟩ (Nat.le_refl _), (Below.refl _ _).alloc (Nat.le_refl _) _⟩
end Go.Proofs.YtlahagabcnmdiaaDoor
end
section
/- strings.Cut at one byte; package atom's Node and its reference: the pure part. -/
open Go Go.RowKit
namespace Go.Proofs.YtlahagabcnmdiaaDoor

/-- Cut at a byte: the two parts, and whether the byte is there -/
def cutS (s : ByteArray) (c : UInt8) : ByteArray × ByteArray × Bool :=
  if 0 ≤ Lib.indexByte s.data.toList c then (s.extract 0 (Lib.indexByte s.data.toList c).toNat, s.extract ((Lib.indexByte s.data.toList c).toNat + 1) s.size, true) else (s, ⟨#[]⟩, false)

theorem run_to {P : Program} {t : TypeId} (h : P.underlying t = some .string) (s : ByteArray) (b : Nat) (hb : b ≤ s.size) (w : World) :
    (Instr.slice t (.string s) none (some (.int .i64 b)) none).run P w = .ok (.string (s.extract 0 b)) w := by
  simp [Instr.slice, run_underlying h, Instr.sliceBounds, Instr.sliceBound, asIntOf, hb]
theorem run_from {P : Program} {t : TypeId} (h : P.underlying t = some .string) (s : ByteArray) (a : Nat) (ha : a ≤ s.size) {x : Int} (hx : x = a) (w : World) :
    (Instr.slice t (.string s) (some (.int .i64 x)) none none).run P w = .ok (.string (s.extract a s.size)) w := by
  subst hx
  simp [Instr.slice, run_underlying h, Instr.sliceBounds, Instr.sliceBound, asIntOf, ha]

set_option maxRecDepth 100000 in
theorem icut_any (s : ByteArray) (c : UInt8) (w : World) (hs : s.size ≤ 140737488351232) :
    Calls Tryd.prog 114 #[.string s, .string ⟨#[c]⟩] w fun e w' => e = .returned (.tuple #[.string (cutS s c).1, .string (cutS s c).2.1, .bool (cutS s c).2.2]) ∧ ∃ n, w' = w.drewN n := by
  have HI := Lib.hid (fun w => Tryd.stringslite_Index_one s c w)
  by_cases h : 0 ≤ Lib.indexByte s.data.toList c
  · have e : cutS s c = (s.extract 0 (Lib.indexByte s.data.toList c).toNat, s.extract ((Lib.indexByte s.data.toList c).toNat + 1) s.size, true) := by unfold cutS; rw [if_pos h]
    obtain ⟨k, hk⟩ : ∃ k : Nat, Lib.indexByte s.data.toList c = k := ⟨(Lib.indexByte s.data.toList c).toNat, by omega⟩
    rw [hk, Int.toNat_natCast] at e
    have HE := Lib.hid e
    have hlt : k < s.size := by
      have := (Lib.indexByte_some hk).1
      have := (List.getElem?_eq_some_iff.1 this).1
      simpa using this
    rw [hk] at HI
    have hs1 := fun w => run_to (P := Tryd.prog) Tryd.underlying9 s k (by omega) w
    have hs2 := fun w => run_from (P := Tryd.prog) Tryd.underlying9 s (k + 1) (by omega) (x := (k : Int) + 1) (by omega) w
    clear e h hk
    go_enter Tryd.func114, Tryd.ntmps114
    go_wp2_with (go_at_call 116; refine (HI.out _).mono ?_; rintro e w' ⟨rfl, rfl⟩)
    go_quiet (fail)
    go_wp2
    go_ret3
    rw [HE.out]
    exact ⟨rfl, _, rfl⟩
  · have e : cutS s c = (s, ⟨#[]⟩, false) := by unfold cutS; rw [if_neg h]
    have HE := Lib.hid e
    clear e
    go_enter Tryd.func114, Tryd.ntmps114
    go_wp2_with (go_at_call 116; refine (HI.out _).mono ?_; rintro e w' ⟨rfl, rfl⟩)
    go_ret3
    rw [HE.out]
    exact ⟨rfl, 0, rfl⟩
theorem cut_any (s : ByteArray) (c : UInt8) (w : World) (hs : s.size ≤ 140737488351232) :
    Calls Tryd.prog 111 #[.string s, .string ⟨#[c]⟩] w fun e w' => e = .returned (.tuple #[.string (cutS s c).1, .string (cutS s c).2.1, .bool (cutS s c).2.2]) ∧ ∃ n, w' = w.drewN n := by
  have H := Lib.hid (icut_any s c w hs)
  go_enter Tryd.func111, Tryd.ntmps111
  go_wp2_with (go_at_call 114; refine H.out.mono ?_; rintro e w' ⟨rfl, n, rfl⟩)
  go_ret3
  exact ⟨rfl, n, rfl⟩
end Go.Proofs.YtlahagabcnmdiaaDoor
end
section
/- Package atom: Node. -/
open Go Go.RowKit
namespace Go.Proofs.YtlahagabcnmdiaaDoor

def okN (c : UInt8) : Bool := (kindS c.toNat != 0) || (c.toNat == 45)
def okH (c : UInt8) : Bool := (kindS c.toNat != 0) || (c.toNat == 45) || (c.toNat == 46)
/-- what is asked of the two parts ahead of their letters -/
def goodS (s : ByteArray) : Bool :=
  (cutS s 64).2.2 && !(cutS s 64).1.toList.isEmpty && !(cutS s 64).2.1.toList.isEmpty && decide (s.size ≤ 64) && !decide (0 ≤ Lib.indexByte (cutS s 64).2.1.data.toList 64)
def goodAll (s : ByteArray) : Bool := goodS s && (cutS s 64).1.data.toList.all okN && (cutS s 64).2.1.data.toList.all okH
def nodeS (s : ByteArray) : ByteArray × ByteArray × List Lk := if goodAll s then ((cutS s 64).1, (cutS s 64).2.1, []) else (⟨#[]⟩, ⟨#[]⟩, [⟨atomL, 0, 24⟩])

theorem cut_size (s : ByteArray) (c : UInt8) : (cutS s c).1.size ≤ s.size ∧ (cutS s c).2.1.size ≤ s.size := by
  unfold cutS; split
  · simp [ByteArray.size_extract]; omega
  · exact ⟨Nat.le_refl _, Nat.zero_le _⟩

set_option maxHeartbeats 16000000 in
set_option maxRecDepth 100000 in
theorem node_any (s : ByteArray) (w : World) (hs : s.size ≤ 140737488351232) :
    Calls Tryd.prog 105 #[.string s] w fun e w' => ∃ ev, e = .returned (.tuple #[.string (nodeS s).1, .string (nodeS s).2.1, ev]) ∧ ErrIs w' ev (nodeS s).2.2 ∧ Below w.heap.size w w' := by
  have HC := Lib.hid (cut_any s 64 w hs)
  have hz := cut_size s 64
  have HI := fun w => Lib.hid (Tryd.strings_Contains_one (cutS s 64).2.1 64 w)
  have HG : goodS s = ((cutS s 64).2.2 && !(cutS s 64).1.toList.isEmpty && !(cutS s 64).2.1.toList.isEmpty && decide (s.size ≤ 64) && !decide (0 ≤ Lib.indexByte (cutS s 64).2.1.data.toList 64)) := rfl
  have HN : nodeS s = (if (goodS s && (cutS s 64).1.data.toList.all okN && (cutS s 64).2.1.data.toList.all okH) then ((cutS s 64).1, (cutS s 64).2.1, []) else (⟨#[]⟩, ⟨#[]⟩, [⟨atomL, 0, 24⟩])) := rfl
  generalize hcut : cutS s 64 = ct at *
  obtain ⟨a, b, ok⟩ := ct
  simp only at *
  have hcv1 := fun w => Lib.run_convert_string_bytes (P := Tryd.prog) w 9 64 5 a Tryd.underlying9 Tryd.underlying64 Tryd.underlying5
  have hcv2 := fun w => Lib.run_convert_string_bytes (P := Tryd.prog) w 9 64 5 b Tryd.underlying9 Tryd.underlying64 Tryd.underlying5
  have H : (ok = false ∧ goodS s = false) ∨ (ok = true ∧ a.toList.isEmpty = true ∧ goodS s = false) ∨ (ok = true ∧ a.toList.isEmpty = false ∧ b.toList.isEmpty = true ∧ goodS s = false) ∨
      (ok = true ∧ a.toList.isEmpty = false ∧ b.toList.isEmpty = false ∧ ¬ (s.size : Int) ≤ 64 ∧ goodS s = false) ∨
      (ok = true ∧ a.toList.isEmpty = false ∧ b.toList.isEmpty = false ∧ (s.size : Int) ≤ 64 ∧ goodS s = !decide (0 ≤ Lib.indexByte b.data.toList 64)) := by
    rw [HG]
    cases ok <;> cases a.toList.isEmpty <;> cases b.toList.isEmpty <;> by_cases h : s.size ≤ 64 <;> simp [h] <;> omega
  generalize hgd : goodS s = gd at *
  generalize hix : decide (0 ≤ Lib.indexByte b.data.toList 64) = ix at *
  have HNN := Lib.hid HN
  clear HN HG hcut hgd hix
  rcases H with ⟨rfl, hg⟩ | ⟨rfl, h1, hg⟩ | ⟨rfl, h1, h2, hg⟩ | ⟨rfl, h1, h2, h3, hg⟩ | ⟨rfl, h1, h2, h3, hg⟩
  all_goals
    have HGD := Lib.hid hg
    clear hg
    go_enter Tryd.func105, Tryd.ntmps105
    go_wp2_with fail
    refine HC.out.mono ?_
    rintro e w1 ⟨rfl, n1, rfl⟩
    go_wp2_with (go_at_call 112; refine (HI _).out.mono ?_; rintro e w2 ⟨rfl, rfl⟩)
    obtain ⟨W, hW⟩ : ∃ W, W = w.drewN n1 := ⟨_, rfl⟩
    have hbW : Below w.heap.size w W := by rw [hW]; exact below_drewN (Below.refl _ _) _
    have HWS := Lib.hid (show W.heap.size = w.heap.size by rw [hW]; rfl)
    rw [← hW]
    clear hW
    have HW := Lib.hid hbW
    clear hbW
    go_loopw [8, 41] (fun g i wr => ∃ k : Nat, k ≤ a.size ∧ i = .int .i64 k ∧ g = .bool (gd && (a.data.toList.take k).all okN) ∧ ConvRow w.heap.size a wr ∧ Below w.heap.size w wr) (fun _ i _ => a.size - (intOf i).toNat)
    case atStart =>
      exact ⟨0, Nat.zero_le _, rfl, by rw [HGD.out]; simp, HWS.out ▸ ConvRow.mk W a, below_bytesWorld HW.out HW.out.size _ _⟩
    case round =>
      obtain ⟨k, hk, rfl, rfl, hc, hbw⟩ := hrel
      by_cases hlt : k < a.size
      · have hki : (k : Int) < (a.size : Int) := by omega
        have hcell := hc.cell k hlt
        have hnx := Lib.hid (show (gd && (a.data.toList.take (k + 1)).all okN) = ((gd && (a.data.toList.take k).all okN) && okN a[k]) by
          rw [List.take_succ_eq_append_getElem (by simpa using hlt), List.all_append, Bool.and_assoc]; simp; rfl)
        have HCV := Lib.hid hc
        have HB := Lib.hid hbw
        clear hc hbw HGD
        generalize (gd && (a.data.toList.take k).all okN) = f at *
        generalize a[k] = c at *
        cases f with
        | false =>
          go_wp2
          go_roundw
          case rel => exact ⟨k + 1, by omega, by go_num, by rw [hnx.out]; rfl, HCV.out, HB.out⟩
          case measure => simp [intOf]; omega
        | true =>
          have HKD := Lib.hid (fun w => kind_any (c.toNat : Int) w)
          have hok := Lib.hid (show okN c = ((kindS (c.toNat : Int) != 0) || ((c.toNat : Int) == 45)) by unfold okN; congr 1; rw [Bool.eq_iff_iff]; simp; omega)
          by_cases c1 : (kindS (c.toNat : Int) != 0) = true
          · go_wp2_with (go_at_call 108; refine (HKD.out _).mono ?_; rintro e w3 ⟨rfl, rfl⟩)
            go_roundw
            case rel => exact ⟨k + 1, by omega, by go_num, by rw [hnx.out, hok.out, c1]; rfl, HCV.out, HB.out⟩
            case measure => simp [intOf]; omega
          · have c1' : (kindS (c.toNat : Int) != 0) = false := by simpa using c1
            clear c1
            go_wp2_with (go_at_call 108; refine (HKD.out _).mono ?_; rintro e w3 ⟨rfl, rfl⟩)
            go_roundw
            case rel => exact ⟨k + 1, by omega, by go_num, by rw [hnx.out, hok.out, c1']; rfl, HCV.out, HB.out⟩
            case measure => simp [intOf]; omega
      · have hkn : ¬ (k : Int) < (a.size : Int) := by omega
        rw [show (a.data.toList.take k) = a.data.toList from List.take_of_length_le (by simp; omega)]
        have HB := Lib.hid hbw
        clear hc hbw HGD
        generalize hf2 : (gd && a.data.toList.all okN) = f2 at *
        go_wp2_with fail
        go_loopw [8, 59] (fun g i wr2 => ∃ k : Nat, k ≤ b.size ∧ i = .int .i64 k ∧ g = .bool (f2 && (b.data.toList.take k).all okH) ∧ ConvRow wr.heap.size b wr2 ∧ Below w.heap.size w wr2) (fun _ i _ => b.size - (intOf i).toNat)
        case atStart =>
          exact ⟨0, Nat.zero_le _, rfl, by simp, ConvRow.mk wr b, below_bytesWorld HB.out HB.out.size _ _⟩
        case round =>
          obtain ⟨k2, hk2, rfl, rfl, hc, hbw⟩ := hrel
          by_cases hlt2 : k2 < b.size
          · have hki2 : (k2 : Int) < (b.size : Int) := by omega
            have hcell := hc.cell k2 hlt2
            have hnx := Lib.hid (show (f2 && (b.data.toList.take (k2 + 1)).all okH) = ((f2 && (b.data.toList.take k2).all okH) && okH b[k2]) by
              rw [List.take_succ_eq_append_getElem (by simpa using hlt2), List.all_append, Bool.and_assoc]; simp; rfl)
            have HCV := Lib.hid hc
            have HB2 := Lib.hid hbw
            clear hc hbw hf2
            generalize (f2 && (b.data.toList.take k2).all okH) = f at *
            generalize b[k2] = c at *
            cases f with
            | false =>
              go_wp2
              go_roundw
              case rel => exact ⟨k2 + 1, by omega, by go_num, by rw [hnx.out]; rfl, HCV.out, HB2.out⟩
              case measure => simp [intOf]; omega
            | true =>
              have HKD := Lib.hid (fun w => kind_any (c.toNat : Int) w)
              have hok := Lib.hid (show okH c = ((kindS (c.toNat : Int) != 0) || ((c.toNat : Int) == 45) || ((c.toNat : Int) == 46)) by
                unfold okH; congr 1
                · congr 1; rw [Bool.eq_iff_iff]; simp; omega
                · rw [Bool.eq_iff_iff]; simp; omega)
              by_cases c1 : (kindS (c.toNat : Int) != 0) = true
              · go_wp2_with (go_at_call 108; refine (HKD.out _).mono ?_; rintro e w3 ⟨rfl, rfl⟩)
                go_roundw
                case rel => exact ⟨k2 + 1, by omega, by go_num, by rw [hnx.out, hok.out, c1]; rfl, HCV.out, HB2.out⟩
                case measure => simp [intOf]; omega
              · have c1' : (kindS (c.toNat : Int) != 0) = false := by simpa using c1
                clear c1
                by_cases c2 : ((c.toNat : Int) == 45) = true
                · go_wp2_with (go_at_call 108; refine (HKD.out _).mono ?_; rintro e w3 ⟨rfl, rfl⟩)
                  go_roundw
                  case rel => exact ⟨k2 + 1, by omega, by go_num, by rw [hnx.out, hok.out, c1', c2]; rfl, HCV.out, HB2.out⟩
                  case measure => simp [intOf]; omega
                · have c2' : ((c.toNat : Int) == 45) = false := by simpa using c2
                  clear c2
                  go_wp2_with (go_at_call 108; refine (HKD.out _).mono ?_; rintro e w3 ⟨rfl, rfl⟩)
                  go_roundw
                  case rel => exact ⟨k2 + 1, by omega, by go_num, by rw [hnx.out, hok.out, c1', c2']; rfl, HCV.out, HB2.out⟩
                  case measure => simp [intOf]; omega
          · have hkn2 : ¬ (k2 : Int) < (b.size : Int) := by omega
            rw [show (b.data.toList.take k2) = b.data.toList from List.take_of_length_le (by simp; omega)]
            have HB2 := Lib.hid hbw
            clear hc hbw
            have HFin := Lib.hid HNN.out
            clear hf2 HNN
            generalize (f2 && b.data.toList.all okH) = f at *
            cases f with
            | false =>
              go_wp2_with (go_at_call 93; refine (refused_any _ _ _).mono ?_; rintro e w4 ⟨rfl, rfl⟩)
              go_ret3
              rw [HFin.out]
              exact ⟨_, rfl, ErrIs.one, HB2.out.alloc HB2.out.size _⟩
            | true =>
              go_wp2
              go_ret3
              rw [HFin.out]
              exact ⟨_, rfl, rfl, HB2.out⟩
end Go.Proofs.YtlahagabcnmdiaaDoor
end
