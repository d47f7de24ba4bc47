/- Texts laid together: AtomF, AtomG, AtomH0, AtomH3, AtomH4, AtomH, AtomI. -/
import Derived.Test.YtkipjbmckpmmfaaDoorV20
import Derived.Test.YtkipjbmckpmmfaaDoorV4
import Derived.Lib.DecodeN
section
/- Package atom: an atom in quotes is read. -/
open Go Go.RowKit
namespace Go.Proofs.YtkipjbmckpmmfaaDoor

end Go.Proofs.YtkipjbmckpmmfaaDoor
end
section
/- Package atom: Scan, Valid. -/
open Go Go.RowKit
namespace Go.Proofs.YtkipjbmckpmmfaaDoor

end Go.Proofs.YtkipjbmckpmmfaaDoor
end
section
/- The reference of layer 1: which bytes are a code point. -/
open Go Go.RowKit
namespace Go.Proofs.YtkipjbmckpmmfaaDoor

abbrev badB (b : Nat) : Prop := b < 128 ∨ 191 < b
def v3 (b0 b1 b2 : Nat) : Nat := (b0 - 224) * 4096 + (b1 - 128) * 64 + (b2 - 128)
def v4 (b0 b1 b2 b3 : Nat) : Nat := (b0 - 240) * 262144 + (b1 - 128) * 4096 + (b2 - 128) * 64 + (b3 - 128)
abbrev bad3 (v : Nat) : Prop := v < 2048 ∨ (55296 ≤ v ∧ v ≤ 57343)
abbrev bad4 (v : Nat) : Prop := v < 65536 ∨ 1114111 < v
/-- the reference's own way -/
def pointN (n b0 b1 b2 b3 : Nat) : Nat :=
  if b0 < 128 then 1
  else if 194 ≤ b0 ∧ b0 ≤ 223 then (if n < 2 then 0 else if badB b1 then 0 else 2)
  else if 224 ≤ b0 ∧ b0 ≤ 239 then (if n < 3 then 0 else if badB b1 then 0 else if badB b2 then 0 else if bad3 (v3 b0 b1 b2) then 0 else 3)
  else if 240 ≤ b0 ∧ b0 ≤ 244 then (if n < 4 then 0 else if badB b1 then 0 else if badB b2 then 0 else if badB b3 then 0 else if bad4 (v4 b0 b1 b2 b3) then 0 else 4)
  else 0
def okW (d : Nat × Nat) : Nat := if d.1 = 65533 ∧ d.2 < 2 then 0 else d.2

theorem okW2 (x : Nat) : okW (x, 2) = 2 := by simp [okW]
theorem okW3 (x : Nat) : okW (x, 3) = 3 := by simp [okW]
theorem okW4 (x : Nat) : okW (x, 4) = 4 := by simp [okW]
theorem okWe : okW (65533, 1) = 0 := by simp [okW]

set_option maxRecDepth 100000 in
set_option maxHeartbeats 4000000 in
theorem pointN_eq (n b0 b1 b2 b3 : Nat) (hn : 1 ≤ n) (h0 : b0 < 256) (h1 : b1 < 256) (h2 : b2 < 256) (h3 : b3 < 256) : pointN n b0 b1 b2 b3 = okW (Lib.decodeN n b0 b1 b2 b3) := by
  by_cases ha : b0 < 128
  · unfold pointN okW Lib.decodeN; rw [if_pos ha, if_pos ha, if_neg (by simp; omega)]
  unfold pointN Lib.decodeN badB bad3 bad4 v3 v4
  rw [if_neg ha, if_neg ha]
  simp only [apply_ite okW, okW2, okW3, okW4, okWe]
  by_cases hb : 194 ≤ b0 ∧ b0 ≤ 223
  · rw [if_pos hb]
    repeat' (first | omega | split)
  rw [if_neg hb]
  by_cases hc : 224 ≤ b0 ∧ b0 ≤ 239
  · rw [if_pos hc]
    repeat' (first | omega | split)
  rw [if_neg hc]
  by_cases hd : 240 ≤ b0 ∧ b0 ≤ 244
  · rw [if_pos hd]
    repeat' (first | omega | split)
  rw [if_neg hd]
  repeat' (first | omega | split)

def pointS (s : ByteArray) (i : Nat) : Nat := okW (Utf8.decode s i)
theorem pointS_eq (s : ByteArray) (i : Nat) (h : i < s.size) : pointS s i = pointN (s.size - i) (s.get! i).toNat (s.get! (i + 1)).toNat (s.get! (i + 2)).toNat (s.get! (i + 3)).toNat := by
  unfold pointS
  rw [Lib.decode_at, pointN_eq _ _ _ _ _ (by omega)] <;> exact UInt8.toNat_lt _
theorem get_lt (s : ByteArray) (k : Nat) (h : k < s.size) : (s.get! k).toNat = (s[k]'h).toNat := by rw [Utf8W.get!_of_lt s k h]

end Go.Proofs.YtkipjbmckpmmfaaDoor
end
section
/- The reference of layer 1: which bytes are a code point. -/
open Go Go.RowKit
namespace Go.Proofs.YtkipjbmckpmmfaaDoor

set_option maxHeartbeats 8000000 in
set_option maxRecDepth 100000 in
theorem point_three (s : ByteArray) (i : Nat) (w : World) (hs : s.size ≤ 140737488351232) (hi : i < s.size) (l0 : (s[i].toNat : Int) < 256) (d1 : 224 ≤ (s[i].toNat : Int)) (d2 : (s[i].toNat : Int) ≤ 239)
    (hp : pointS s i = if s.size - i < 3 then 0 else if badB (s.get! (i + 1)).toNat then 0 else if badB (s.get! (i + 2)).toNat then 0 else if bad3 (v3 s[i].toNat (s.get! (i + 1)).toNat (s.get! (i + 2)).toNat) then 0 else 3) :
    Calls Tryd.prog 62 #[.string s, .int .i64 i] w fun e w' => e = .returned (.int .i64 (pointS s i)) ∧ w' = w := by
  by_cases c2 : s.size - i < 3
  · rw [if_pos c2] at hp
    have P := Lib.hid hp
    have d3 : (s.size : Int) < (i : Int) + 3 := by omega
    clear hp c2
    go_enter Tryd.func62, Tryd.ntmps62
    go_wp2
    go_ret
    exact ⟨ret_int (by rw [P.out]; rfl), rfl⟩
  have k1 : i + 1 < s.size := by omega
  have k2 : i + 2 < s.size := by omega
  rw [if_neg c2, get_lt s (i + 1) k1, get_lt s (i + 2) k2] at hp
  have d3 : (i : Int) + 3 ≤ (s.size : Int) := by omega
  have d5 : ((i : Int) + 1) < (s.size : Int) := by omega
  have d6 : ((i : Int) + 2) < (s.size : Int) := by omega
  clear c2
  by_cases c3 : badB s[i + 1].toNat
  · rw [if_pos c3] at hp
    have P := Lib.hid hp
    have e : (s[i+1].toNat : Int) < 128 ∨ (128 ≤ (s[i+1].toNat : Int) ∧ 191 < (s[i+1].toNat : Int)) := by omega
    clear hp c3
    rcases e with e | ⟨e, e'⟩
    all_goals
      go_enter Tryd.func62, Tryd.ntmps62
      go_wp2
      refine wp_loop_rounds 1 ?_
      rw [rounds_succ]
      go_wp2
      go_ret
      exact ⟨ret_int (by rw [P.out]; rfl), rfl⟩
  rw [if_neg c3] at hp
  have e1 : 128 ≤ (s[i+1].toNat : Int) := by omega
  have e2 : (s[i+1].toNat : Int) ≤ 191 := by omega
  clear c3
  by_cases c4 : badB s[i + 2].toNat
  · rw [if_pos c4] at hp
    have P := Lib.hid hp
    have e : (s[i+2].toNat : Int) < 128 ∨ (128 ≤ (s[i+2].toNat : Int) ∧ 191 < (s[i+2].toNat : Int)) := by omega
    clear hp c4
    rcases e with e | ⟨e, e'⟩
    all_goals
      go_enter Tryd.func62, Tryd.ntmps62
      go_wp2
      refine wp_loop_rounds 2 ?_
      rw [rounds_succ]
      go_wp2
      rw [rounds_succ]
      go_wp2
      go_ret
      exact ⟨ret_int (by rw [P.out]; rfl), rfl⟩
  rw [if_neg c4] at hp
  have e3 : 128 ≤ (s[i+2].toNat : Int) := by omega
  have e4 : (s[i+2].toNat : Int) ≤ 191 := by omega
  clear c4
  have P := Lib.hid hp
  clear hp
  have hV : (((s[i].toNat : Int) - 224) * 64 + (s[i+1].toNat : Int) - 128) * 64 + (s[i+2].toNat : Int) - 128 < 2048
    ∨ (2048 ≤ (((s[i].toNat : Int) - 224) * 64 + (s[i+1].toNat : Int) - 128) * 64 + (s[i+2].toNat : Int) - 128 ∧ (((s[i].toNat : Int) - 224) * 64 + (s[i+1].toNat : Int) - 128) * 64 + (s[i+2].toNat : Int) - 128 < 55296)
    ∨ (2048 ≤ (((s[i].toNat : Int) - 224) * 64 + (s[i+1].toNat : Int) - 128) * 64 + (s[i+2].toNat : Int) - 128 ∧ 55296 ≤ (((s[i].toNat : Int) - 224) * 64 + (s[i+1].toNat : Int) - 128) * 64 + (s[i+2].toNat : Int) - 128 ∧ (((s[i].toNat : Int) - 224) * 64 + (s[i+1].toNat : Int) - 128) * 64 + (s[i+2].toNat : Int) - 128 ≤ 57343)
    ∨ (2048 ≤ (((s[i].toNat : Int) - 224) * 64 + (s[i+1].toNat : Int) - 128) * 64 + (s[i+2].toNat : Int) - 128 ∧ 55296 ≤ (((s[i].toNat : Int) - 224) * 64 + (s[i+1].toNat : Int) - 128) * 64 + (s[i+2].toNat : Int) - 128 ∧ 57343 < (((s[i].toNat : Int) - 224) * 64 + (s[i+1].toNat : Int) - 128) * 64 + (s[i+2].toNat : Int) - 128) := by omega
  rcases hV with hV | ⟨hV, hV2⟩ | ⟨hV, hV2, hV3⟩ | ⟨hV, hV2, hV3⟩
  all_goals
    go_enter Tryd.func62, Tryd.ntmps62
    go_wp2
    refine wp_loop_rounds 3 ?_
    rw [rounds_succ]
    go_wp2
    rw [rounds_succ]
    go_wp2
    rw [rounds_succ]
    go_wp2
  all_goals
    go_ret
    exact ⟨ret_int (by rw [P.out]; unfold v3; first | (rw [if_pos (by omega)]; rfl) | (rw [if_neg (by omega)]; rfl)), rfl⟩
end Go.Proofs.YtkipjbmckpmmfaaDoor
end
section
/- The reference of layer 1: which bytes are a code point. -/
open Go Go.RowKit
namespace Go.Proofs.YtkipjbmckpmmfaaDoor

set_option maxHeartbeats 8000000 in
set_option maxRecDepth 100000 in
theorem point_four (s : ByteArray) (i : Nat) (w : World) (hs : s.size ≤ 140737488351232) (hi : i < s.size) (l0 : (s[i].toNat : Int) < 256) (d1 : 240 ≤ (s[i].toNat : Int)) (d2 : (s[i].toNat : Int) ≤ 244)
    (hp : pointS s i = if s.size - i < 4 then 0 else if badB (s.get! (i + 1)).toNat then 0 else if badB (s.get! (i + 2)).toNat then 0 else if badB (s.get! (i + 3)).toNat then 0 else if bad4 (v4 s[i].toNat (s.get! (i + 1)).toNat (s.get! (i + 2)).toNat (s.get! (i + 3)).toNat) then 0 else 4) :
    Calls Tryd.prog 62 #[.string s, .int .i64 i] w fun e w' => e = .returned (.int .i64 (pointS s i)) ∧ w' = w := by
  by_cases c2 : s.size - i < 4
  · rw [if_pos c2] at hp
    have P := Lib.hid hp
    have d3 : (s.size : Int) < (i : Int) + 4 := by omega
    clear hp c2
    go_enter Tryd.func62, Tryd.ntmps62
    go_wp2
    go_ret
    exact ⟨ret_int (by rw [P.out]; rfl), rfl⟩
  have k1 : i + 1 < s.size := by omega
  have k2 : i + 2 < s.size := by omega
  have k3 : i + 3 < s.size := by omega
  rw [if_neg c2, get_lt s (i + 1) k1, get_lt s (i + 2) k2, get_lt s (i + 3) k3] at hp
  have d3 : (i : Int) + 4 ≤ (s.size : Int) := by omega
  have d5 : ((i : Int) + 1) < (s.size : Int) := by omega
  have d6 : ((i : Int) + 2) < (s.size : Int) := by omega
  have d7 : ((i : Int) + 3) < (s.size : Int) := by omega
  clear c2
  by_cases c3 : badB s[i + 1].toNat
  · rw [if_pos c3] at hp
    have P := Lib.hid hp
    have e : (s[i+1].toNat : Int) < 128 ∨ (128 ≤ (s[i+1].toNat : Int) ∧ 191 < (s[i+1].toNat : Int)) := by omega
    clear hp c3
    rcases e with e | ⟨e, e'⟩
    all_goals
      go_enter Tryd.func62, Tryd.ntmps62
      go_wp2
      refine wp_loop_rounds 1 ?_
      rw [rounds_succ]
      go_wp2
      go_ret
      exact ⟨ret_int (by rw [P.out]; rfl), rfl⟩
  rw [if_neg c3] at hp
  have e1 : 128 ≤ (s[i+1].toNat : Int) := by omega
  have e2 : (s[i+1].toNat : Int) ≤ 191 := by omega
  clear c3
  by_cases c4 : badB s[i + 2].toNat
  · rw [if_pos c4] at hp
    have P := Lib.hid hp
    have e : (s[i+2].toNat : Int) < 128 ∨ (128 ≤ (s[i+2].toNat : Int) ∧ 191 < (s[i+2].toNat : Int)) := by omega
    clear hp c4
    rcases e with e | ⟨e, e'⟩
    all_goals
      go_enter Tryd.func62, Tryd.ntmps62
      go_wp2
      refine wp_loop_rounds 2 ?_
      rw [rounds_succ]
      go_wp2
      rw [rounds_succ]
      go_wp2
      go_ret
      exact ⟨ret_int (by rw [P.out]; rfl), rfl⟩
  rw [if_neg c4] at hp
  have e3 : 128 ≤ (s[i+2].toNat : Int) := by omega
  have e4 : (s[i+2].toNat : Int) ≤ 191 := by omega
  clear c4
  by_cases c5 : badB s[i + 3].toNat
  · rw [if_pos c5] at hp
    have P := Lib.hid hp
    have e : (s[i+3].toNat : Int) < 128 ∨ (128 ≤ (s[i+3].toNat : Int) ∧ 191 < (s[i+3].toNat : Int)) := by omega
    clear hp c5
    rcases e with e | ⟨e, e'⟩
    all_goals
      go_enter Tryd.func62, Tryd.ntmps62
      go_wp2
      refine wp_loop_rounds 3 ?_
      rw [rounds_succ]
      go_wp2
      rw [rounds_succ]
      go_wp2
      rw [rounds_succ]
      go_wp2
      go_ret
      exact ⟨ret_int (by rw [P.out]; rfl), rfl⟩
  rw [if_neg c5] at hp
  have e5 : 128 ≤ (s[i+3].toNat : Int) := by omega
  have e6 : (s[i+3].toNat : Int) ≤ 191 := by omega
  clear c5
  have P := Lib.hid hp
  clear hp
  have hV : ((((s[i].toNat : Int) - 240) * 64 + (s[i+1].toNat : Int) - 128) * 64 + (s[i+2].toNat : Int) - 128) * 64 + (s[i+3].toNat : Int) - 128 < 65536 ∨ (65536 ≤ ((((s[i].toNat : Int) - 240) * 64 + (s[i+1].toNat : Int) - 128) * 64 + (s[i+2].toNat : Int) - 128) * 64 + (s[i+3].toNat : Int) - 128 ∧ ((((s[i].toNat : Int) - 240) * 64 + (s[i+1].toNat : Int) - 128) * 64 + (s[i+2].toNat : Int) - 128) * 64 + (s[i+3].toNat : Int) - 128 ≤ 1114111) ∨ (65536 ≤ ((((s[i].toNat : Int) - 240) * 64 + (s[i+1].toNat : Int) - 128) * 64 + (s[i+2].toNat : Int) - 128) * 64 + (s[i+3].toNat : Int) - 128 ∧ 1114111 < ((((s[i].toNat : Int) - 240) * 64 + (s[i+1].toNat : Int) - 128) * 64 + (s[i+2].toNat : Int) - 128) * 64 + (s[i+3].toNat : Int) - 128) := by omega
  rcases hV with hV | ⟨hV, hV2⟩ | ⟨hV, hV2⟩
  all_goals
    go_enter Tryd.func62, Tryd.ntmps62
    go_wp2
    refine wp_loop_rounds 4 ?_
    rw [rounds_succ]
    go_wp2
    rw [rounds_succ]
    go_wp2
    rw [rounds_succ]
    go_wp2
    rw [rounds_succ]
    go_wp2
  all_goals
    go_ret
    exact ⟨ret_int (by rw [P.out]; unfold v4; first | (rw [if_pos (by omega)]; rfl) | (rw [if_neg (by omega)]; rfl)), rfl⟩
end Go.Proofs.YtkipjbmckpmmfaaDoor
end
section
/- The reference of layer 1: which bytes are a code point, and where a text has one that is none. -/
open Go Go.RowKit
namespace Go.Proofs.YtkipjbmckpmmfaaDoor

theorem pointN_le (n b0 b1 b2 b3 : Nat) : pointN n b0 b1 b2 b3 ≤ 4 := by
  unfold pointN
  (repeat' split) <;> omega
theorem pointS_le (s : ByteArray) (i : Nat) (h : i < s.size) : pointS s i ≤ 4 := by
  rw [pointS_eq s i h]; exact pointN_le _ _ _ _ _

set_option maxHeartbeats 8000000 in
set_option maxRecDepth 100000 in
theorem point_any (s : ByteArray) (i : Nat) (w : World) (hs : s.size ≤ 140737488351232) (hi : i < s.size) :
    Calls Tryd.prog 62 #[.string s, .int .i64 i] w fun e w' => e = .returned (.int .i64 (pointS s i)) ∧ w' = w := by
  have hp := pointS_eq s i hi
  rw [get_lt s i hi] at hp
  have l0 : (s[i].toNat : Int) < 256 := by have := s[i].toNat_lt; omega
  unfold pointN at hp
  by_cases c0 : s[i].toNat < 128
  · rw [if_pos c0] at hp
    have P := Lib.hid hp
    have d0 : (s[i].toNat : Int) < 128 := by omega
    clear hp c0
    go_enter Tryd.func62, Tryd.ntmps62
    go_wp2
    go_ret
    exact ⟨ret_int (by rw [P.out]; rfl), rfl⟩
  rw [if_neg c0] at hp
  have d0 : ¬ (s[i].toNat : Int) < 128 := by omega
  clear c0
  by_cases c1 : 194 ≤ s[i].toNat ∧ s[i].toNat ≤ 223
  · rw [if_pos c1] at hp
    have d1 : 194 ≤ (s[i].toNat : Int) := by omega
    have d2 : (s[i].toNat : Int) ≤ 223 := by omega
    clear c1
    by_cases c2 : s.size - i < 2
    · rw [if_pos c2] at hp
      have P := Lib.hid hp
      have d3 : (s.size : Int) < (i : Int) + 2 := by omega
      clear hp c2
      go_enter Tryd.func62, Tryd.ntmps62
      go_wp2
      go_ret
      exact ⟨ret_int (by rw [P.out]; rfl), rfl⟩
    have k1 : i + 1 < s.size := by omega
    rw [if_neg c2, get_lt s (i + 1) k1] at hp
    have d3 : (i : Int) + 2 ≤ (s.size : Int) := by omega
    have d5 : ((i : Int) + 1) < (s.size : Int) := by omega
    clear c2
    by_cases c3 : badB s[i + 1].toNat
    · rw [if_pos c3] at hp
      have P := Lib.hid hp
      have e : (s[i+1].toNat : Int) < 128 ∨ (128 ≤ (s[i+1].toNat : Int) ∧ 191 < (s[i+1].toNat : Int)) := by omega
      clear hp c3
      rcases e with e | ⟨e, e'⟩
      all_goals
        go_enter Tryd.func62, Tryd.ntmps62
        go_wp2
        refine wp_loop_rounds 1 ?_
        rw [rounds_succ]
        go_wp2
        go_ret
        exact ⟨ret_int (by rw [P.out]; rfl), rfl⟩
    · rw [if_neg c3] at hp
      have P := Lib.hid hp
      have e1 : 128 ≤ (s[i+1].toNat : Int) := by omega
      have e2 : (s[i+1].toNat : Int) ≤ 191 := by omega
      clear hp c3
      go_enter Tryd.func62, Tryd.ntmps62
      go_wp2
      refine wp_loop_rounds 2 ?_
      rw [rounds_succ]
      go_wp2
      rw [rounds_succ]
      go_wp2
      go_ret
      exact ⟨ret_int (by rw [P.out]; rfl), rfl⟩
  rw [if_neg c1] at hp
  by_cases f1 : 224 ≤ s[i].toNat ∧ s[i].toNat ≤ 239
  · rw [if_pos f1] at hp
    have d1 : 224 ≤ (s[i].toNat : Int) := by omega
    have d2 : (s[i].toNat : Int) ≤ 239 := by omega
    exact point_three s i w hs hi l0 d1 d2 hp
  rw [if_neg f1] at hp
  by_cases g1 : 240 ≤ s[i].toNat ∧ s[i].toNat ≤ 244
  · rw [if_pos g1] at hp
    exact point_four s i w hs hi l0 (by omega) (by omega) hp
  rw [if_neg g1] at hp
  have P := Lib.hid hp
  have q : (128 ≤ (s[i].toNat : Int) ∧ (s[i].toNat : Int) < 194) ∨ (194 ≤ (s[i].toNat : Int) ∧ 223 < (s[i].toNat : Int) ∧ 224 ≤ (s[i].toNat : Int) ∧ 239 < (s[i].toNat : Int) ∧ 240 ≤ (s[i].toNat : Int) ∧ 244 < (s[i].toNat : Int)) := by omega
  clear hp c1 f1 g1
  rcases q with ⟨q1, q2⟩ | ⟨q1, q2, q3, q4, q5, q6⟩
  all_goals
    go_enter Tryd.func62, Tryd.ntmps62
    go_wp2
    go_ret
    exact ⟨ret_int (by rw [P.out]; rfl), rfl⟩

set_option maxHeartbeats 4000000 in
set_option maxRecDepth 100000 in
theorem utf_any (s : ByteArray) (w : World) (hs : s.size ≤ 140737488351232) :
    Calls Tryd.prog 53 #[.string s] w fun e w' => e = .returned (.int .i64 (utfS s)) ∧ w' = w := by
  go_enter Tryd.func53, Tryd.ntmps53
  go_wp2
  go_loop [3] (fun v => ∃ k f : Nat, k ≤ s.size + 3 ∧ v = .int .i64 k ∧ utfGo s f k = utfS s ∧ s.size ≤ k + f) (fun v => s.size + 3 - (intOf v).toNat)
  case atStart => exact ⟨0, s.size, by omega, rfl, rfl, by omega⟩
  case round =>
    obtain ⟨k, f, hk, rfl, hu, hf⟩ := hrel
    by_cases hlt : k < s.size
    · obtain ⟨f, rfl⟩ : ∃ g, f = g + 1 := ⟨f - 1, by omega⟩
      rw [utfGo, if_pos hlt] at hu
      have hpt : pointS s k = if (Utf8.decode s k).1 = 65533 ∧ (Utf8.decode s k).2 < 2 then 0 else (Utf8.decode s k).2 := rfl
      have HP := Lib.hid (fun w => point_any s k w hs hlt)
      have hw4 : pointS s k ≤ 4 := pointS_le s k hlt
      have hwd := Lib.decode_width_pos s k hlt
      by_cases hb : (Utf8.decode s k).1 = 65533 ∧ (Utf8.decode s k).2 < 2
      · rw [if_pos hb] at hu hpt
        have h0 : (((pointS s k : Nat) : Int) == 0) = true := by rw [hpt]; rfl
        have HU := Lib.hid hu
        clear hu hpt hb
        go_wp2_with (go_at_call 62; refine (HP.out _).mono ?_; rintro e w' ⟨rfl, rfl⟩)
        go_ret
        exact ⟨ret_int HU.out, rfl⟩
      · rw [if_neg hb] at hu hpt
        rw [← hpt] at hu hwd
        have h0 : (((pointS s k : Nat) : Int) == 0) = false := by simp; omega
        have HU := Lib.hid hu
        clear hu hpt hb
        go_wp2_with (go_at_call 62; refine (HP.out _).mono ?_; rintro e w' ⟨rfl, rfl⟩)
        go_round
        case rel => exact ⟨k + pointS s k, f, by omega, by go_num, HU.out, by omega⟩
        case measure => simp [intOf]; omega
    · have HU := Lib.hid hu
      clear hu
      go_wp2
      go_ret
      have := HU.out
      rw [utfGo_end s f k hlt] at this
      exact ⟨ret_int this, rfl⟩
end Go.Proofs.YtkipjbmckpmmfaaDoor
end
section
/- Layer 1: Valid of the reference, the order of texts, and the statements' own 'alive'. -/
open Go Go.RowKit
namespace Go.Proofs.YtkipjbmckpmmfaaDoor

end Go.Proofs.YtkipjbmckpmmfaaDoor
end
