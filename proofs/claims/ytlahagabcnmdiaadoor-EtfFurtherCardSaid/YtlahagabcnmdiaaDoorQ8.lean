/- Texts laid together: MixA, MixB. -/
import Derived.Test.YtlahagabcnmdiaaDoorQ6
import Derived.Lib.OthersKept
import Derived.Lib.RuneCountTail
import Derived.Lib.RuneCount
import Derived.Lib.DecodeN
section
/- Package mix and its reference: what a cookie is. -/
open Go Go.RowKit
namespace Go.Proofs.YtlahagabcnmdiaaDoor

/-- the layer's name: mix -/
def mixL : ByteArray := ⟨#[109, 105, 120]⟩
/-- a byte that a cookie may have, at its place -/
def okC (c : UInt8) (p : Nat) : Bool := decide (p < 255) && decide (33 ≤ c.toNat) && decide (c.toNat ≤ 126)
/-- the first place of a byte that may not be there; below 0: there is none -/
def cookGo (s : ByteArray) : Nat → Nat → Int
  | 0, _ => -1
  | f + 1, p => if h : p < s.size then (if okC s[p] p then cookGo s f (p + 1) else p) else -1
def cookieS (s : ByteArray) : List Lk :=
  if s.size = 0 then [⟨mixL, 0, 140⟩] else if 0 ≤ cookGo s s.size 0 then [⟨mixL, cookGo s s.size 0, 140⟩] else []
theorem cookGo_end (s : ByteArray) (f p : Nat) (h : ¬ p < s.size) : cookGo s f p = -1 := by
  cases f with
  | zero => rfl
  | succ f => rw [cookGo, dif_neg h]
theorem cookGo_bad (s : ByteArray) (f p : Nat) (h : p < s.size) (hb : okC s[p] p = false) : cookGo s (f + 1) p = p := by rw [cookGo, dif_pos h, hb]; rfl
theorem cookGo_good (s : ByteArray) (f p : Nat) (h : p < s.size) (hb : okC s[p] p = true) : cookGo s (f + 1) p = cookGo s f (p + 1) := by rw [cookGo, dif_pos h, hb]; rfl

theorem decode_small (s : ByteArray) (p : Nat) (h : p < s.size) (hc : s[p].toNat < 128) : Utf8.decode s p = (s[p].toNat, 1) := by
  rw [Lib.decode_at]
  have : s.get! p = s[p] := by simp [ByteArray.get!, getElem!_pos, h]; rfl
  rw [this]
  unfold Lib.decodeN
  rw [if_pos hc]
theorem decode_large (s : ByteArray) (p : Nat) (h : p < s.size) (hc : 128 ≤ s[p].toNat) : 128 ≤ (Utf8.decode s p).1 := by
  rw [Lib.decode_at]
  have : s.get! p = s[p] := by simp [ByteArray.get!, getElem!_pos, h]; rfl
  rw [this]
  unfold Lib.decodeN
  rw [if_neg (by omega)]
  (repeat' split) <;> simp only [] <;> omega
end Go.Proofs.YtlahagabcnmdiaaDoor
end
section
/- Package mix and its reference: Cookie. -/
open Go Go.RowKit
namespace Go.Proofs.YtlahagabcnmdiaaDoor

theorem below_iter2 {B : Nat} {a w : World} (h : Below B a w) (hB : B ≤ w.heap.size) (s : ByteArray) (p : Nat) : Below B a (w.iter s p) := h.alloc hB _
end Go.Proofs.YtlahagabcnmdiaaDoor
end
