/- Texts laid together: Laid. -/
import Derived.Test.YtkipjbmckpmmfaaDoorRows
import Derived.Test.YtkipjbmckpmmfaaDoorShelf
import Derived.Lib.LaidU8
import Derived.PinnedBridge
import Derived.Lay
import Derived.LaidOnce
import Derived.LaidMore
section
/- What the listed tables of unicode/utf8 give a walk. -/
open Go Go.RowKit Go.Shelf Go.Lib
namespace Go.Proofs.YtkipjbmckpmmfaaDoor

theorem u8x : U8Extra Tryd.prog Tryd.lays197_ren := ⟨by kernel_rfl, by kernel_rfl, by kernel_rfl, by kernel_rfl, by kernel_rfl, by kernel_rfl, by kernel_rfl⟩
theorem accept_eq : (Rows.laid_unicode_utf8_acceptRanges : DataW Unit) = Lib.acceptData := by kernel_rfl
theorem first_eq : Rows.laid_unicode_utf8_first = Lib.firstData := by kernel_rfl
theorem tabs_of_laid {W : World} {l : List (String × DataW Unit)} (hL : laidMet Tryd.prog l W) (h1 : ("unicode/utf8.first", Rows.laid_unicode_utf8_first) ∈ l) (h2 : ("unicode/utf8.acceptRanges", (Rows.laid_unicode_utf8_acceptRanges : DataW Unit)) ∈ l) :
    Lib.Utf8Tabs 1 2 W :=
  utf8Tabs_of_reads { Tryd.lays197 with } u8x (first_eq ▸ Lib.laidMet.reads hL h1) (accept_eq ▸ Lib.laidMet.reads hL h2)
end Go.Proofs.YtkipjbmckpmmfaaDoor
end
