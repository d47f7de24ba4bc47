/- Texts laid together: MixC. -/
import Derived.Test.YtlahagabcnmdiaaDoorQ5
import Derived.Test.YtlahagabcnmdiaaDoorShelfM
import Derived.Lib.ItoaMem
import Derived.Lib.SmallJoins
section
/- strconv.FormatUint at base 10, below 2^64. -/
open Go Go.RowKit Go.Sort
namespace Go.Proofs.YtlahagabcnmdiaaDoor

/-- the powers of ten lie as the library's text lays them -/
def Pow10 (w : World) : Prop := Lib.TabIs Tryd.prog w "internal/strconv.uint64pow10" .u64 Lib.pow10Tab
theorem holds_zero24 (w : World) (T : TypeId) (nd : Nat) (hs : nd ≤ 24) : Holds (fun (b : UInt8) => Value.int .u8 (b.toNat : Int)) (w.alloc (.cells Lib.zeros24 T (0, 0))) w.heap.size 0 (Array.replicate nd (0 : UInt8)) := fun j hj => by
  have hj' : j < nd := by simpa using hj
  refine ⟨?_, World.frozen?_alloc_new _ _ _ _⟩
  rw [World.cell?_alloc_new, Lib.zeros24_at _ (by omega), getElem!_pos _ j hj]
  simp

theorem below_putRow {B : Nat} {a w : World} (h : Below B a w) (f : UInt8 → Value) (b o : Nat) (d : Array UInt8) (hB : B ≤ b) : Below B a (putRow f w b o d) := by
  refine ⟨h.os, h.tape, h.output, by rw [size_putRow]; exact h.size, fun k hk => ?_⟩
  rw [← h.block k hk]
  simp only [putRow, mapBlock]
  rw [Array.getElem?_modify, if_neg (by omega)]

end Go.Proofs.YtlahagabcnmdiaaDoor
end
