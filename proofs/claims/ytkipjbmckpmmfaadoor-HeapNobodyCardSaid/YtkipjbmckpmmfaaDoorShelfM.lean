/- The library contracts of this seat. -/
import Derived.Test.YtkipjbmckpmmfaaDoorShelf
