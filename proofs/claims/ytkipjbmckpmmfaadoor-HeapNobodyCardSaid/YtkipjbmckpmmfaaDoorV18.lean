/- Texts laid together: AtomB. -/
import Derived.Test.YtkipjbmckpmmfaaDoorV17
import Derived.Deep.RegionWith
section
/- Package atom: what stands behind a backslash. -/
open Go Go.RowKit
namespace Go.Proofs.YtkipjbmckpmmfaaDoor

end Go.Proofs.YtkipjbmckpmmfaaDoor
end
