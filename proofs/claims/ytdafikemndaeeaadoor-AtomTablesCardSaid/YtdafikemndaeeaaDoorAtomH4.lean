/- The reference of layer 1: which bytes are a code point. -/
import Derived.Test.YtdafikemndaeeaaDoorAtomH0
open Go Go.RowKit
namespace Go.Proofs.YtdafikemndaeeaaDoor

set_option maxHeartbeats 8000000 in
set_option maxRecDepth 100000 in
theorem point_four (s : ByteArray) (i : Nat) (w : World) (hs : s.size ≤ 140737488351232) (hi : i < s.size) (l0 : (s[i].toNat : Int) < 256) (d1 : 240 ≤ (s[i].toNat : Int)) (d2 : (s[i].toNat : Int) ≤ 244)
    (hp : pointS s i = if s.size - i < 4 then 0 else if badB (s.get! (i + 1)).toNat then 0 else if badB (s.get! (i + 2)).toNat then 0 else if badB (s.get! (i + 3)).toNat then 0 else if bad4 (v4 s[i].toNat (s.get! (i + 1)).toNat (s.get! (i + 2)).toNat (s.get! (i + 3)).toNat) then 0 else 4) :
    Calls Tryd.prog 74 #[.string s, .int .i64 i] w fun e w' => e = .returned (.int .i64 (pointS s i)) ∧ w' = w := by
  by_cases c2 : s.size - i < 4
  · rw [if_pos c2] at hp
    have P := Lib.hid hp
    have d3 : (s.size : Int) < (i : Int) + 4 := by omega
    clear hp c2
    go_enter Tryd.func74, Tryd.ntmps74
    go_wp2
    go_ret
    exact ⟨ret_int (by rw [P.out]; rfl), rfl⟩
  have k1 : i + 1 < s.size := by omega
  have k2 : i + 2 < s.size := by omega
  have k3 : i + 3 < s.size := by omega
  rw [if_neg c2, get_lt s (i + 1) k1, get_lt s (i + 2) k2, get_lt s (i + 3) k3] at hp
  have d3 : (i : Int) + 4 ≤ (s.size : Int) := by omega
  have d5 : ((i : Int) + 1) < (s.size : Int) := by omega
  have d6 : ((i : Int) + 2) < (s.size : Int) := by omega
  have d7 : ((i : Int) + 3) < (s.size : Int) := by omega
  clear c2
  by_cases c3 : badB s[i + 1].toNat
  · rw [if_pos c3] at hp
    have P := Lib.hid hp
    have e : (s[i+1].toNat : Int) < 128 ∨ (128 ≤ (s[i+1].toNat : Int) ∧ 191 < (s[i+1].toNat : Int)) := by omega
    clear hp c3
    rcases e with e | ⟨e, e'⟩
    all_goals
      go_enter Tryd.func74, Tryd.ntmps74
      go_wp2
      refine wp_loop_rounds 1 ?_
      rw [rounds_succ]
      go_wp2
      go_ret
      exact ⟨ret_int (by rw [P.out]; rfl), rfl⟩
  rw [if_neg c3] at hp
  have e1 : 128 ≤ (s[i+1].toNat : Int) := by omega
  have e2 : (s[i+1].toNat : Int) ≤ 191 := by omega
  clear c3
  by_cases c4 : badB s[i + 2].toNat
  · rw [if_pos c4] at hp
    have P := Lib.hid hp
    have e : (s[i+2].toNat : Int) < 128 ∨ (128 ≤ (s[i+2].toNat : Int) ∧ 191 < (s[i+2].toNat : Int)) := by omega
    clear hp c4
    rcases e with e | ⟨e, e'⟩
    all_goals
      go_enter Tryd.func74, Tryd.ntmps74
      go_wp2
      refine wp_loop_rounds 2 ?_
      rw [rounds_succ]
      go_wp2
      rw [rounds_succ]
      go_wp2
      go_ret
      exact ⟨ret_int (by rw [P.out]; rfl), rfl⟩
  rw [if_neg c4] at hp
  have e3 : 128 ≤ (s[i+2].toNat : Int) := by omega
  have e4 : (s[i+2].toNat : Int) ≤ 191 := by omega
  clear c4
  by_cases c5 : badB s[i + 3].toNat
  · rw [if_pos c5] at hp
    have P := Lib.hid hp
    have e : (s[i+3].toNat : Int) < 128 ∨ (128 ≤ (s[i+3].toNat : Int) ∧ 191 < (s[i+3].toNat : Int)) := by omega
    clear hp c5
    rcases e with e | ⟨e, e'⟩
    all_goals
      go_enter Tryd.func74, Tryd.ntmps74
      go_wp2
      refine wp_loop_rounds 3 ?_
      rw [rounds_succ]
      go_wp2
      rw [rounds_succ]
      go_wp2
      rw [rounds_succ]
      go_wp2
      go_ret
      exact ⟨ret_int (by rw [P.out]; rfl), rfl⟩
  rw [if_neg c5] at hp
  have e5 : 128 ≤ (s[i+3].toNat : Int) := by omega
  have e6 : (s[i+3].toNat : Int) ≤ 191 := by omega
  clear c5
  have P := Lib.hid hp
  clear hp
  have hV : ((((s[i].toNat : Int) - 240) * 64 + (s[i+1].toNat : Int) - 128) * 64 + (s[i+2].toNat : Int) - 128) * 64 + (s[i+3].toNat : Int) - 128 < 65536 ∨ (65536 ≤ ((((s[i].toNat : Int) - 240) * 64 + (s[i+1].toNat : Int) - 128) * 64 + (s[i+2].toNat : Int) - 128) * 64 + (s[i+3].toNat : Int) - 128 ∧ ((((s[i].toNat : Int) - 240) * 64 + (s[i+1].toNat : Int) - 128) * 64 + (s[i+2].toNat : Int) - 128) * 64 + (s[i+3].toNat : Int) - 128 ≤ 1114111) ∨ (65536 ≤ ((((s[i].toNat : Int) - 240) * 64 + (s[i+1].toNat : Int) - 128) * 64 + (s[i+2].toNat : Int) - 128) * 64 + (s[i+3].toNat : Int) - 128 ∧ 1114111 < ((((s[i].toNat : Int) - 240) * 64 + (s[i+1].toNat : Int) - 128) * 64 + (s[i+2].toNat : Int) - 128) * 64 + (s[i+3].toNat : Int) - 128) := by omega
  rcases hV with hV | ⟨hV, hV2⟩ | ⟨hV, hV2⟩
  all_goals
    go_enter Tryd.func74, Tryd.ntmps74
    go_wp2
    refine wp_loop_rounds 4 ?_
    rw [rounds_succ]
    go_wp2
    rw [rounds_succ]
    go_wp2
    rw [rounds_succ]
    go_wp2
    rw [rounds_succ]
    go_wp2
  all_goals
    go_ret
    exact ⟨ret_int (by rw [P.out]; unfold v4; first | (rw [if_pos (by omega)]; rfl) | (rw [if_neg (by omega)]; rfl)), rfl⟩
end Go.Proofs.YtdafikemndaeeaaDoor
