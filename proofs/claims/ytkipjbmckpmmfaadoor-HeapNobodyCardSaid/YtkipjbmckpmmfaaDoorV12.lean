/- Texts laid together: MixD, MixE. -/
import Derived.Test.YtkipjbmckpmmfaaDoorV10
import Derived.Test.YtkipjbmckpmmfaaDoorV11
section
/- Package mix: put. -/
open Go Go.RowKit
namespace Go.Proofs.YtkipjbmckpmmfaaDoor

end Go.Proofs.YtkipjbmckpmmfaaDoor
end
section
/- The reference of mix: a number's decimal digits. -/
open Go Go.RowKit
namespace Go.Proofs.YtkipjbmckpmmfaaDoor

end Go.Proofs.YtkipjbmckpmmfaaDoor
end
