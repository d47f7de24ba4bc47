/- Texts laid together: MixD, MixE. -/
import Derived.Test.YtlahagabcnmdiaaGreatDoorV8
import Derived.Test.YtlahagabcnmdiaaGreatDoorV9
section
/- Package mix: put. -/
open Go Go.RowKit
namespace Go.Proofs.YtlahagabcnmdiaaGreatDoor

/-- the byte of a number at a power of two -/
def b8 (n d : Int) : UInt8 := UInt8.ofNat (n / d % 256).toNat
def be8 (n : Int) : List UInt8 := [b8 n 72057594037927936, b8 n 281474976710656, b8 n 1099511627776, b8 n 4294967296, b8 n 16777216, b8 n 65536, b8 n 256, b8 n 1]
theorem b8_cells (w : World) (n d : Int) : ∀ j, (h : j < [b8 n d].length) → (w.alloc (.cells #[.int .u8 (n / d % 256)] 5 (0, 0))).cell? ((⟨w.heap.size, 0, none⟩ : Addr).add j) = some (byteV [b8 n d][j]) :=
  lit_cells1i w (n / d % 256) (by omega) (by omega)

end Go.Proofs.YtlahagabcnmdiaaGreatDoor
end
section
/- The reference of mix: a number's decimal digits. -/
open Go Go.RowKit
namespace Go.Proofs.YtlahagabcnmdiaaGreatDoor

end Go.Proofs.YtlahagabcnmdiaaGreatDoor
end
