/- Texts laid together: AtomA. -/
import Derived.Test.YtkipjbmckpmmfaaDoorProg
import Derived.Test.YtkipjbmckpmmfaaDoorV2
import Derived.BigQuiet
import Derived.Deep.QuietTactic
section
/- Package atom, the small functions: kind, word, reserved, plain, nibble, escape, refused. -/
open Go Go.RowKit
namespace Go.Proofs.YtkipjbmckpmmfaaDoor

def atomL : ByteArray := ⟨#[97, 116, 111, 109]⟩
def kindS (c : Int) : Int :=
  if 97 ≤ c ∧ c ≤ 122 then 1 else if 65 ≤ c ∧ c ≤ 90 then 2 else if 48 ≤ c ∧ c ≤ 57 then 3 else if c = 95 ∨ c = 64 then 4 else 0

set_option maxHeartbeats 1000000 in
theorem kind_any (c : Int) (w : World) :
    Calls Tryd.prog 74 #[.int .u8 c] w fun e w' =>
      e = .returned (.int .i64 (kindS c)) ∧ w' = w := by
  have h95 : c = 95 ∨ c ≠ 95 := by omega
  have h64 : c = 64 ∨ c ≠ 64 := by omega
  go_enter Tryd.func74, Tryd.ntmps74
  go_wp2
  all_goals
    go_ret
    exact ⟨ret_int (by first | (unfold kindS; simp_all; done) | (unfold kindS; simp_all <;> omega) | skip), rfl⟩

/-- the place behind a run of word bytes -/
def wordS (l : List UInt8) : Nat := (l.takeWhile fun c => kindS (c.toNat : Int) != 0).length

theorem wordS_cons (c : UInt8) (l : List UInt8) : wordS (c :: l) = if kindS (c.toNat : Int) = 0 then 0 else 1 + wordS l := by
  unfold wordS
  by_cases h : kindS (c.toNat : Int) = 0
  · simp [h]
  · simp [h]; omega
theorem wordS_le (l : List UInt8) : wordS l ≤ l.length := by
  unfold wordS; exact (List.takeWhile_sublist _).length_le

set_option maxHeartbeats 1000000 in
theorem word_any (s : ByteArray) (i : Nat) (w : World) (hs : s.size ≤ maxLen) (hi : i ≤ s.size) :
    Calls Tryd.prog 76 #[.string s, .int .i64 i] w fun e w' =>
      e = .returned (.int .i64 (i + wordS (s.data.toList.drop i) : Nat)) ∧ w' = w := by
  unfold maxLen at hs
  go_enter Tryd.func76, Tryd.ntmps76
  go_wp2
  go_loop [1] (fun v => ∃ k : Nat, k ≤ s.size ∧ v = .int .i64 k ∧ k + wordS (s.data.toList.drop k) = i + wordS (s.data.toList.drop i)) (fun v => s.size - (intOf v).toNat)
  case atStart => exact ⟨i, hi, rfl, rfl⟩
  case round =>
    obtain ⟨k, hk, rfl, hrel⟩ := hrel
    have H := Lib.hid hrel
    clear hrel
    by_cases hlt : k < s.size
    · by_cases hz : kindS (s[k].toNat : Int) = 0
      · have hzz : (kindS (s[k].toNat : Int) != 0) = false := by simp [hz]
        have Hz := Lib.hid hz
        clear hz
        go_wp2_with (go_at_call 74; refine (kind_any _ _).mono ?_; rintro e w' ⟨rfl, rfl⟩)
        go_ret
        refine ⟨ret_int ?_, rfl⟩
        have := H.out
        rw [drop_cons s k hlt, wordS_cons, if_pos Hz.out] at this
        omega
      · have hzz : (kindS (s[k].toNat : Int) != 0) = true := by simp [hz]
        have Hz := Lib.hid hz
        clear hz
        go_wp2_with (go_at_call 74; refine (kind_any _ _).mono ?_; rintro e w' ⟨rfl, rfl⟩)
        go_round
        case rel =>
          have := H.out
          rw [drop_cons s k hlt, wordS_cons, if_neg Hz.out] at this
          exact ⟨k + 1, by omega, by go_num, by omega⟩
        case measure => simp [intOf]; omega
    · go_wp2
      go_ret
      refine ⟨ret_int ?_, rfl⟩
      have := H.out
      rw [drop_end s k (by omega)] at this
      have h0 : wordS [] = 0 := rfl
      omega

def reservedL : List (List UInt8) := [[97, 102, 116, 101, 114], [97, 110, 100], [97, 110, 100, 97, 108, 115, 111], [98, 101, 103, 105, 110], [99, 97, 115, 101], [99, 97, 116, 99, 104], [100, 105, 118], [101, 110, 100], [102, 117, 110], [105, 102], [110, 111, 116], [111, 102], [111, 114], [111, 114, 101, 108, 115, 101], [114, 101, 99, 101, 105, 118, 101], [114, 101, 109], [116, 114, 121], [119, 104, 101, 110], [120, 111, 114]]
def reservedS (l : List UInt8) : Bool := reservedL.contains l

set_option maxHeartbeats 4000000 in
theorem reserved_yes (l : List UInt8) (hl : l ∈ reservedL) (w : World) :
    Calls Tryd.prog 77 #[.string ⟨l.toArray⟩] w fun e w' => e = .returned (.bool true) ∧ w' = w := by
  simp only [reservedL, List.mem_cons, List.not_mem_nil, or_false] at hl
  rcases hl with rfl | rfl | rfl | rfl | rfl | rfl | rfl | rfl | rfl | rfl | rfl | rfl | rfl | rfl | rfl | rfl | rfl | rfl | rfl
  all_goals
    go_enter Tryd.func77, Tryd.ntmps77
    go_wp2
    go_ret
    exact ⟨rfl, rfl⟩

set_option maxHeartbeats 4000000 in
theorem reserved_no (s : ByteArray) (hl : ¬ s.data.toList ∈ reservedL) (w : World) :
    Calls Tryd.prog 77 #[.string s] w fun e w' => e = .returned (.bool false) ∧ w' = w := by
  simp only [reservedL, List.mem_cons, List.not_mem_nil, or_false, not_or, ← toList_data] at hl
  simp only [← beq_eq_false_iff_ne] at hl
  obtain ⟨h1, h2, h3, h4, h5, h6, h7, h8, h9, h10, h11, h12, h13, h14, h15, h16, h17, h18, h19⟩ := hl
  go_enter Tryd.func77, Tryd.ntmps77
  go_wp2
  go_ret
  exact ⟨rfl, rfl⟩

theorem reserved_any (s : ByteArray) (w : World) :
    Calls Tryd.prog 77 #[.string s] w fun e w' =>
      e = .returned (.bool (reservedS s.data.toList)) ∧ w' = w := by
  by_cases h : s.data.toList ∈ reservedL
  · rw [show reservedS s.data.toList = true by simpa [reservedS] using h]
    have := reserved_yes _ h w
    exact this
  · rw [show reservedS s.data.toList = false by simpa [reservedS] using h]
    exact reserved_no s h w

/-- does an atom stand without quotes? -/
def plainS (l : List UInt8) : Bool :=
  match l with
  | [] => false
  | c :: _ => kindS (c.toNat : Int) == 1 && wordS l == l.length && !reservedS l

set_option maxHeartbeats 2000000 in
theorem plain_any (s : ByteArray) (w : World) (hs : s.size ≤ maxLen) :
    Calls Tryd.prog 71 #[.string s] w fun e w' =>
      e = .returned (.bool (plainS s.data.toList)) ∧ w' = w := by
  have hs' := hs
  unfold maxLen at hs'
  by_cases h0 : s.size = 0
  · have he : s.data.toList = [] := by apply List.eq_nil_of_length_eq_zero; simpa using h0
    have he' : s.toList = [] := by rw [toList_data]; exact he
    have hee : (!s.toList.isEmpty) = false := by rw [he']; rfl
    have P : Hid (plainS s.data.toList = false) := by rw [he]; rfl
    clear he he'
    go_enter Tryd.func71, Tryd.ntmps71
    go_wp2
    go_ret
    exact ⟨ret_bool P.out.symm, rfl⟩
  · have hd := drop_cons s 0 (by omega)
    rw [List.drop_zero] at hd
    have hee : (!s.toList.isEmpty) = true := by rw [toList_data, hd]; rfl
    have hee2 : ¬ s.toList = [] := by rw [toList_data, hd]; simp
    have hw := word_any s 0 w hs (Nat.zero_le _)
    have P : Hid (plainS s.data.toList = (kindS (s[0].toNat : Int) == 1 && wordS s.data.toList == s.data.toList.length && !reservedS s.data.toList)) := by rw [hd]; rfl
    clear hd
    rw [List.drop_zero] at hw
    have Hw := Lib.hid hw
    clear hw
    have hpos : 0 < s.size := by omega
    have hwl := wordS_le s.data.toList
    have hsz : s.data.toList.length = s.size := by simp
    rw [hsz] at hwl
    clear hsz
    by_cases hk : kindS (s[0].toNat : Int) = 1
    · have hkb : (kindS (s[0].toNat : Int) == 1) = true := by simp [hk]
      by_cases hl : wordS s.data.toList = s.size
      · have hlb : ((wordS s.data.toList : Int) == (s.size : Int)) = true := by simp [hl]
        have P2 := Lib.hid (show plainS s.data.toList = !reservedS s.data.toList by rw [P.out, hkb, hl]; simp)
        clear hk hl P h0
        go_enter Tryd.func71, Tryd.ntmps71
        go_wp2_with (first | (go_at_call 74; refine (kind_any _ _).mono ?_; rintro e w' ⟨rfl, rfl⟩) | (go_at_call 76; refine Hw.out.mono ?_; rintro e w' ⟨rfl, rfl⟩) | (go_at_call 77; refine (reserved_any _ _).mono ?_; rintro e w' ⟨rfl, rfl⟩))
        go_ret
        exact ⟨ret_bool P2.out.symm, rfl⟩
      · have hlb : ((wordS s.data.toList : Int) == (s.size : Int)) = false := by simp; omega
        have P2 := Lib.hid (show plainS s.data.toList = false by rw [P.out, hkb]; simp [hl])
        clear hk hl P h0
        go_enter Tryd.func71, Tryd.ntmps71
        go_wp2_with (first | (go_at_call 74; refine (kind_any _ _).mono ?_; rintro e w' ⟨rfl, rfl⟩) | (go_at_call 76; refine Hw.out.mono ?_; rintro e w' ⟨rfl, rfl⟩))
        go_ret
        exact ⟨ret_bool P2.out.symm, rfl⟩
    · have hkb : (kindS (s[0].toNat : Int) == 1) = false := by simp [hk]
      have P2 := Lib.hid (show plainS s.data.toList = false by rw [P.out, hkb]; simp)
      clear hk P h0
      go_enter Tryd.func71, Tryd.ntmps71
      go_wp2_with (first | (go_at_call 74; refine (kind_any _ _).mono ?_; rintro e w' ⟨rfl, rfl⟩))
      go_ret
      exact ⟨ret_bool P2.out.symm, rfl⟩

theorem refused_any (at_ code : Int) (w : World) :
    Calls Tryd.prog 69 #[.int .i64 at_, .int .i64 code] w fun e w' =>
      e = .returned (.iface 91 (.pointer (some ⟨w.heap.size, 0, none⟩))) ∧
      w' = w.alloc (.cells #[.string ⟨#[97, 116, 111, 109]⟩, .int .i64 at_, .int .i64 code, .nilIface] 93 (0,0)) := by
  go_enter Tryd.func69, Tryd.ntmps69
  go_wp2
  go_ret
  exact ⟨rfl, rfl⟩

end Go.Proofs.YtkipjbmckpmmfaaDoor
end
