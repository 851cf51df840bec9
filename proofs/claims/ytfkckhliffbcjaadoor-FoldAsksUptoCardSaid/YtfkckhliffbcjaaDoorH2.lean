/- The laid tables, as the walks read them; what a text's bulk says of its length. -/
import Derived.Test.YtfkckhliffbcjaaDoorH1
import Derived.Test.YtfkckhliffbcjaaDoorShelf
import Derived.Lib.LaidU8
namespace Go.Proofs.YtfkckhliffbcjaaDoor.Fold
open Go.ChangeShapes Go.WideShapes Go.ChangeAt Go.RowKit

theorem first_eq : Rows.laid_unicode_utf8_first = Lib.firstData := by kernel_rfl
theorem accept_eq : (Rows.laid_unicode_utf8_acceptRanges : DataW Unit) = Lib.acceptData := by kernel_rfl
theorem tabs_of_laid {W : World} (h : laidMet Tryd.prog [("unicode/utf8.acceptRanges", Rows.laid_unicode_utf8_acceptRanges), ("unicode/utf8.first", Rows.laid_unicode_utf8_first)] W) : Lib.Utf8Tabs 0 1 W := by
  rw [first_eq, accept_eq] at h
  exact utf8Tabs_of_reads Tryd.lays260 ⟨by kernel_rfl, by kernel_rfl, by kernel_rfl, by kernel_rfl, by kernel_rfl, by kernel_rfl, by kernel_rfl⟩ (Lib.laidMet.reads h (.tail _ (.head _))) (Lib.laidMet.reads h (.head _))
end Go.Proofs.YtfkckhliffbcjaaDoor.Fold
