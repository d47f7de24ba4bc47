/- Texts laid together: MixC. -/
import Derived.Test.YtkipjbmckpmmfaaDoorV5
import Derived.Test.YtkipjbmckpmmfaaDoorShelfM
import Derived.Lib.ItoaMem
import Derived.Lib.SmallJoins
section
/- strconv.FormatUint at base 10, below 2^64. -/
open Go Go.RowKit Go.Sort
namespace Go.Proofs.YtkipjbmckpmmfaaDoor

/-- the powers of ten lie as the library's text lays them -/
def Pow10 (w : World) : Prop := Lib.TabIs Tryd.prog w "internal/strconv.uint64pow10" .u64 Lib.pow10Tab
end Go.Proofs.YtkipjbmckpmmfaaDoor
end
