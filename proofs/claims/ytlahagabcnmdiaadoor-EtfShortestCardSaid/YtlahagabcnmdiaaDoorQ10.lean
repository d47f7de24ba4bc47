/- Texts laid together: MixD, MixE. -/
import Derived.Test.YtlahagabcnmdiaaDoorQ8
import Derived.Test.YtlahagabcnmdiaaDoorQ9
section
/- Package mix: put. -/
open Go Go.RowKit
namespace Go.Proofs.YtlahagabcnmdiaaDoor

/-- the byte of a number at a power of two -/
def b8 (n d : Int) : UInt8 := UInt8.ofNat (n / d % 256).toNat
def be8 (n : Int) : List UInt8 := [b8 n 72057594037927936, b8 n 281474976710656, b8 n 1099511627776, b8 n 4294967296, b8 n 16777216, b8 n 65536, b8 n 256, b8 n 1]
theorem b8_cells (w : World) (n d : Int) : ∀ j, (h : j < [b8 n d].length) → (w.alloc (.cells #[.int .u8 (n / d % 256)] 5 (0, 0))).cell? ((⟨w.heap.size, 0, none⟩ : Addr).add j) = some (byteV [b8 n d][j]) :=
  lit_cells1i w (n / d % 256) (by omega) (by omega)

end Go.Proofs.YtlahagabcnmdiaaDoor
end
section
/- The reference of mix: a number's decimal digits. -/
open Go Go.RowKit
namespace Go.Proofs.YtlahagabcnmdiaaDoor

theorem digit_b (m : Nat) : UInt8.ofNat ((48 + (m : Int) % 10).toNat) = UInt8.ofNat (48 + m % 10) := by
  congr 1
theorem run_app_nil {base : Nat} {v : Value} {l : List UInt8} {w : World} (h : BufIs base v l w) (ty : TypeId) : (Builtin.append_ #[64, 64] ty #[v, .slice none 0 0]).run Tryd.prog w = .ok v w := by
  obtain ⟨i0, hi, hz0, hz1, hz2⟩ := info_parts Tryd.infoByte
  exact run_append_owned_none (base := base) w 64 ty 5 i0 1 Tryd.underlying64 hi v _ _ h

end Go.Proofs.YtlahagabcnmdiaaDoor
end
