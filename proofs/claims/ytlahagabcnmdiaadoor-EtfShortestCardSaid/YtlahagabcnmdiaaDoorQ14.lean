/- Texts laid together: AtomB. -/
import Derived.Test.YtlahagabcnmdiaaDoorQ13
import Derived.Deep.RegionWith
section
/- Package atom: what stands behind a backslash. -/
open Go Go.RowKit
namespace Go.Proofs.YtlahagabcnmdiaaDoor

theorem hexS_le (l : List UInt8) : 0 ≤ (hexS l).2 ∧ (hexS l).2 ≤ l.length + 1 := by
  unfold hexS
  (repeat' split) <;> (simp; try omega)
theorem hexS_byte (l : List UInt8) : 0 ≤ (hexS l).1 ∧ (hexS l).1 < 256 := by
  unfold hexS
  (repeat' split) <;> simp
  rename_i a b _ h
  have := nibbleS_hi a.toNat; have := nibbleS_hi b.toNat; omega
theorem escapeS_le (l : List UInt8) : 0 ≤ (escapeS l).2 ∧ (escapeS l).2 ≤ l.length := by
  unfold escapeS
  (repeat' split) <;> (simp; try omega)
  exact hexS_le _
theorem escapeS_byte (l : List UInt8) : 0 ≤ (escapeS l).1 ∧ (escapeS l).1 < 256 := by
  unfold escapeS
  split
  · simp
  · rename_i c l
    (repeat' split) <;> (first | exact hexS_byte _ | (simp; done) | (have := c.toNat_lt; simp; omega))

theorem ret2_int {k k' : IntKind} {a b c d : Int} {p : Int × Int} (hp : p = (b, d)) (h : a = b) (h' : c = d) : Ending.returned (.tuple #[.int k a, .int k' c]) = .returned (.tuple #[.int k p.1, .int k' p.2]) := by rw [hp, h, h']

theorem or16 (x y : Int) (h0 : 0 ≤ x) (h1 : x ≤ 15) (h2 : 0 ≤ y) (h3 : y ≤ 15) : bits BinOp.or IntKind.i64 (x * 16) y % 256 = x * 16 + y := by
  obtain ⟨a, rfl⟩ := Int.eq_ofNat_of_zero_le h0
  obtain ⟨b, rfl⟩ := Int.eq_ofNat_of_zero_le h2
  have key : ∀ a : Fin 16, ∀ b : Fin 16, bits BinOp.or IntKind.i64 (((a.val : Nat) : Int) * 16) ((b.val : Nat) : Int) % 256 = ((a.val : Nat) : Int) * 16 + ((b.val : Nat) : Int) := by decide +kernel
  exact key ⟨a, by omega⟩ ⟨b, by omega⟩

end Go.Proofs.YtlahagabcnmdiaaDoor
end
