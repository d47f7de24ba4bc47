/- The reference of layer 1: which bytes are a code point, and where a text has one that is none. -/
import Derived.Test.YtdafikemndaeeaaDoorAtomH3
import Derived.Test.YtdafikemndaeeaaDoorAtomH4
open Go Go.RowKit
namespace Go.Proofs.YtdafikemndaeeaaDoor

theorem pointN_le (n b0 b1 b2 b3 : Nat) : pointN n b0 b1 b2 b3 ≤ 4 := by
  unfold pointN
  (repeat' split) <;> omega
theorem pointS_le (s : ByteArray) (i : Nat) (h : i < s.size) : pointS s i ≤ 4 := by
  rw [pointS_eq s i h]; exact pointN_le _ _ _ _ _

set_option maxHeartbeats 8000000 in
set_option maxRecDepth 100000 in
theorem point_any (s : ByteArray) (i : Nat) (w : World) (hs : s.size ≤ 140737488351232) (hi : i < s.size) :
    Calls Tryd.prog 74 #[.string s, .int .i64 i] w fun e w' => e = .returned (.int .i64 (pointS s i)) ∧ w' = w := by
  have hp := pointS_eq s i hi
  rw [get_lt s i hi] at hp
  have l0 : (s[i].toNat : Int) < 256 := by have := s[i].toNat_lt; omega
  unfold pointN at hp
  by_cases c0 : s[i].toNat < 128
  · rw [if_pos c0] at hp
    have P := Lib.hid hp
    have d0 : (s[i].toNat : Int) < 128 := by omega
    clear hp c0
    go_enter Tryd.func74, Tryd.ntmps74
    go_wp2
    go_ret
    exact ⟨ret_int (by rw [P.out]; rfl), rfl⟩
  rw [if_neg c0] at hp
  have d0 : ¬ (s[i].toNat : Int) < 128 := by omega
  clear c0
  by_cases c1 : 194 ≤ s[i].toNat ∧ s[i].toNat ≤ 223
  · rw [if_pos c1] at hp
    have d1 : 194 ≤ (s[i].toNat : Int) := by omega
    have d2 : (s[i].toNat : Int) ≤ 223 := by omega
    clear c1
    by_cases c2 : s.size - i < 2
    · rw [if_pos c2] at hp
      have P := Lib.hid hp
      have d3 : (s.size : Int) < (i : Int) + 2 := by omega
      clear hp c2
      go_enter Tryd.func74, Tryd.ntmps74
      go_wp2
      go_ret
      exact ⟨ret_int (by rw [P.out]; rfl), rfl⟩
    have k1 : i + 1 < s.size := by omega
    rw [if_neg c2, get_lt s (i + 1) k1] at hp
    have d3 : (i : Int) + 2 ≤ (s.size : Int) := by omega
    have d5 : ((i : Int) + 1) < (s.size : Int) := by omega
    clear c2
    by_cases c3 : badB s[i + 1].toNat
    · rw [if_pos c3] at hp
      have P := Lib.hid hp
      have e : (s[i+1].toNat : Int) < 128 ∨ (128 ≤ (s[i+1].toNat : Int) ∧ 191 < (s[i+1].toNat : Int)) := by omega
      clear hp c3
      rcases e with e | ⟨e, e'⟩
      all_goals
        go_enter Tryd.func74, Tryd.ntmps74
        go_wp2
        refine wp_loop_rounds 1 ?_
        rw [rounds_succ]
        go_wp2
        go_ret
        exact ⟨ret_int (by rw [P.out]; rfl), rfl⟩
    · rw [if_neg c3] at hp
      have P := Lib.hid hp
      have e1 : 128 ≤ (s[i+1].toNat : Int) := by omega
      have e2 : (s[i+1].toNat : Int) ≤ 191 := by omega
      clear hp c3
      go_enter Tryd.func74, Tryd.ntmps74
      go_wp2
      refine wp_loop_rounds 2 ?_
      rw [rounds_succ]
      go_wp2
      rw [rounds_succ]
      go_wp2
      go_ret
      exact ⟨ret_int (by rw [P.out]; rfl), rfl⟩
  rw [if_neg c1] at hp
  by_cases f1 : 224 ≤ s[i].toNat ∧ s[i].toNat ≤ 239
  · rw [if_pos f1] at hp
    have d1 : 224 ≤ (s[i].toNat : Int) := by omega
    have d2 : (s[i].toNat : Int) ≤ 239 := by omega
    exact point_three s i w hs hi l0 d1 d2 hp
  rw [if_neg f1] at hp
  by_cases g1 : 240 ≤ s[i].toNat ∧ s[i].toNat ≤ 244
  · rw [if_pos g1] at hp
    exact point_four s i w hs hi l0 (by omega) (by omega) hp
  rw [if_neg g1] at hp
  have P := Lib.hid hp
  have q : (128 ≤ (s[i].toNat : Int) ∧ (s[i].toNat : Int) < 194) ∨ (194 ≤ (s[i].toNat : Int) ∧ 223 < (s[i].toNat : Int) ∧ 224 ≤ (s[i].toNat : Int) ∧ 239 < (s[i].toNat : Int) ∧ 240 ≤ (s[i].toNat : Int) ∧ 244 < (s[i].toNat : Int)) := by omega
  clear hp c1 f1 g1
  rcases q with ⟨q1, q2⟩ | ⟨q1, q2, q3, q4, q5, q6⟩
  all_goals
    go_enter Tryd.func74, Tryd.ntmps74
    go_wp2
    go_ret
    exact ⟨ret_int (by rw [P.out]; rfl), rfl⟩

set_option maxHeartbeats 4000000 in
set_option maxRecDepth 100000 in
theorem utf_any (s : ByteArray) (w : World) (hs : s.size ≤ 140737488351232) :
    Calls Tryd.prog 51 #[.string s] w fun e w' => e = .returned (.int .i64 (utfS s)) ∧ w' = w := by
  go_enter Tryd.func51, Tryd.ntmps51
  go_wp2
  go_loop [3] (fun v => ∃ k f : Nat, k ≤ s.size + 3 ∧ v = .int .i64 k ∧ utfGo s f k = utfS s ∧ s.size ≤ k + f) (fun v => s.size + 3 - (intOf v).toNat)
  case atStart => exact ⟨0, s.size, by omega, rfl, rfl, by omega⟩
  case round =>
    obtain ⟨k, f, hk, rfl, hu, hf⟩ := hrel
    by_cases hlt : k < s.size
    · obtain ⟨f, rfl⟩ : ∃ g, f = g + 1 := ⟨f - 1, by omega⟩
      rw [utfGo, if_pos hlt] at hu
      have hpt : pointS s k = if (Utf8.decode s k).1 = 65533 ∧ (Utf8.decode s k).2 < 2 then 0 else (Utf8.decode s k).2 := rfl
      have HP := Lib.hid (fun w => point_any s k w hs hlt)
      have hw4 : pointS s k ≤ 4 := pointS_le s k hlt
      have hwd := Lib.decode_width_pos s k hlt
      by_cases hb : (Utf8.decode s k).1 = 65533 ∧ (Utf8.decode s k).2 < 2
      · rw [if_pos hb] at hu hpt
        have h0 : (((pointS s k : Nat) : Int) == 0) = true := by rw [hpt]; rfl
        have HU := Lib.hid hu
        clear hu hpt hb
        go_wp2_with (go_at_call 74; refine (HP.out _).mono ?_; rintro e w' ⟨rfl, rfl⟩)
        go_ret
        exact ⟨ret_int HU.out, rfl⟩
      · rw [if_neg hb] at hu hpt
        rw [← hpt] at hu hwd
        have h0 : (((pointS s k : Nat) : Int) == 0) = false := by simp; omega
        have HU := Lib.hid hu
        clear hu hpt hb
        go_wp2_with (go_at_call 74; refine (HP.out _).mono ?_; rintro e w' ⟨rfl, rfl⟩)
        go_round
        case rel => exact ⟨k + pointS s k, f, by omega, by go_num, HU.out, by omega⟩
        case measure => simp [intOf]; omega
    · have HU := Lib.hid hu
      clear hu
      go_wp2
      go_ret
      have := HU.out
      rw [utfGo_end s f k hlt] at this
      exact ⟨ret_int this, rfl⟩
end Go.Proofs.YtdafikemndaeeaaDoor
