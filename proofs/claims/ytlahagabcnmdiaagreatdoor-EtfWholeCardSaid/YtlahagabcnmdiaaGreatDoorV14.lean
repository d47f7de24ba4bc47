/- Texts laid together: AtomB. -/
import Derived.Test.YtlahagabcnmdiaaGreatDoorV13
import Derived.Deep.RegionWith
section
/- Package atom: what stands behind a backslash. -/
open Go Go.RowKit
namespace Go.Proofs.YtlahagabcnmdiaaGreatDoor

end Go.Proofs.YtlahagabcnmdiaaGreatDoor
end
