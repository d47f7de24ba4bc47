/- The reference of layer 1: which bytes are a code point. -/
import Derived.Test.YtdafikemndaeeaaDoorAtomG
import Derived.Lib.DecodeN
open Go Go.RowKit
namespace Go.Proofs.YtdafikemndaeeaaDoor

abbrev badB (b : Nat) : Prop := b < 128 ∨ 191 < b
def v3 (b0 b1 b2 : Nat) : Nat := (b0 - 224) * 4096 + (b1 - 128) * 64 + (b2 - 128)
def v4 (b0 b1 b2 b3 : Nat) : Nat := (b0 - 240) * 262144 + (b1 - 128) * 4096 + (b2 - 128) * 64 + (b3 - 128)
abbrev bad3 (v : Nat) : Prop := v < 2048 ∨ (55296 ≤ v ∧ v ≤ 57343)
abbrev bad4 (v : Nat) : Prop := v < 65536 ∨ 1114111 < v
/-- the reference's own way -/
def pointN (n b0 b1 b2 b3 : Nat) : Nat :=
  if b0 < 128 then 1
  else if 194 ≤ b0 ∧ b0 ≤ 223 then (if n < 2 then 0 else if badB b1 then 0 else 2)
  else if 224 ≤ b0 ∧ b0 ≤ 239 then (if n < 3 then 0 else if badB b1 then 0 else if badB b2 then 0 else if bad3 (v3 b0 b1 b2) then 0 else 3)
  else if 240 ≤ b0 ∧ b0 ≤ 244 then (if n < 4 then 0 else if badB b1 then 0 else if badB b2 then 0 else if badB b3 then 0 else if bad4 (v4 b0 b1 b2 b3) then 0 else 4)
  else 0
def okW (d : Nat × Nat) : Nat := if d.1 = 65533 ∧ d.2 < 2 then 0 else d.2

theorem okW2 (x : Nat) : okW (x, 2) = 2 := by simp [okW]
theorem okW3 (x : Nat) : okW (x, 3) = 3 := by simp [okW]
theorem okW4 (x : Nat) : okW (x, 4) = 4 := by simp [okW]
theorem okWe : okW (65533, 1) = 0 := by simp [okW]

set_option maxRecDepth 100000 in
set_option maxHeartbeats 4000000 in
theorem pointN_eq (n b0 b1 b2 b3 : Nat) (hn : 1 ≤ n) (h0 : b0 < 256) (h1 : b1 < 256) (h2 : b2 < 256) (h3 : b3 < 256) : pointN n b0 b1 b2 b3 = okW (Lib.decodeN n b0 b1 b2 b3) := by
  by_cases ha : b0 < 128
  · unfold pointN okW Lib.decodeN; rw [if_pos ha, if_pos ha, if_neg (by simp; omega)]
  unfold pointN Lib.decodeN badB bad3 bad4 v3 v4
  rw [if_neg ha, if_neg ha]
  simp only [apply_ite okW, okW2, okW3, okW4, okWe]
  by_cases hb : 194 ≤ b0 ∧ b0 ≤ 223
  · rw [if_pos hb]
    repeat' (first | omega | split)
  rw [if_neg hb]
  by_cases hc : 224 ≤ b0 ∧ b0 ≤ 239
  · rw [if_pos hc]
    repeat' (first | omega | split)
  rw [if_neg hc]
  by_cases hd : 240 ≤ b0 ∧ b0 ≤ 244
  · rw [if_pos hd]
    repeat' (first | omega | split)
  rw [if_neg hd]
  repeat' (first | omega | split)

def pointS (s : ByteArray) (i : Nat) : Nat := okW (Utf8.decode s i)
theorem pointS_eq (s : ByteArray) (i : Nat) (h : i < s.size) : pointS s i = pointN (s.size - i) (s.get! i).toNat (s.get! (i + 1)).toNat (s.get! (i + 2)).toNat (s.get! (i + 3)).toNat := by
  unfold pointS
  rw [Lib.decode_at, pointN_eq _ _ _ _ _ (by omega)] <;> exact UInt8.toNat_lt _
theorem get_lt (s : ByteArray) (k : Nat) (h : k < s.size) : (s.get! k).toNat = (s[k]'h).toNat := by rw [Utf8W.get!_of_lt s k h]

end Go.Proofs.YtdafikemndaeeaaDoor
