/- Texts laid together: LaidM. -/
import Derived.Test.YtokkokgdjnkbnaaGreatDoorRows
import Derived.Test.YtokkokgdjnkbnaaGreatDoorP3
import Derived.Lib.LaidTab
import Derived.Stop.LaidErr
import Derived.Lib.LaidU8
import Derived.PinnedBridge
import Derived.Lay
import Derived.LaidOnce
import Derived.LaidMore
section
/- What the listed table of internal/strconv gives a walk. -/
open Go Go.RowKit Go.Shelf Go.Lib
namespace Go.Proofs.YtokkokgdjnkbnaaGreatDoor

theorem pow_eq : (Rows.laid_internal_strconv_uint64pow10 : DataW Unit) = Lib.tabData .u64 Lib.pow10Tab := by kernel_rfl
theorem pow_of_laid {W : World} {a b : String × DataW Unit} {r : List (String × DataW Unit)} (hL : laidMet Tryz.prog (a :: b :: ("internal/strconv.uint64pow10", (Rows.laid_internal_strconv_uint64pow10 : DataW Unit)) :: r) W) : Pow10 W := by
  have h := hL.tail.tail
  rw [pow_eq] at h
  exact tabIs_of_head (g := 2) (t := 193) (e := 23) (n := 20) (by kernel_rfl) (by kernel_rfl) Tryz.underlying193 Tryz.underlying23 (by kernel_rfl) (by kernel_rfl) h
end Go.Proofs.YtokkokgdjnkbnaaGreatDoor
end
