/- Texts laid together: MixA, MixB. -/
import Derived.Test.YtkipjbmckpmmfaaDoorV6
import Derived.Lib.OthersKept
import Derived.Lib.RuneCountTail
import Derived.Lib.RuneCount
import Derived.Lib.DecodeN
section
/- Package mix and its reference: what a cookie is. -/
open Go Go.RowKit
namespace Go.Proofs.YtkipjbmckpmmfaaDoor

end Go.Proofs.YtkipjbmckpmmfaaDoor
end
section
/- Package mix and its reference: Cookie. -/
open Go Go.RowKit
namespace Go.Proofs.YtkipjbmckpmmfaaDoor

end Go.Proofs.YtkipjbmckpmmfaaDoor
end
