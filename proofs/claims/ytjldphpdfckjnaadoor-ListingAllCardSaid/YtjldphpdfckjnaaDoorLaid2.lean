/- The table of powers of ten, third of five laid variables. -/
import Derived.Test.YtjldphpdfckjnaaDoorLaid
namespace Go.Proofs.YtjldphpdfckjnaaDoor
open Go.ChangeShapes Go.WideShapes Go.RowKit

theorem pow10_five {W : World} (h : laidMet Tryd.prog [("math/bits.deBruijn32tab", Rows.laid_math_bits_deBruijn32tab), ("math/bits.deBruijn64tab", Rows.laid_math_bits_deBruijn64tab), ("internal/strconv.uint64pow10", Rows.laid_internal_strconv_uint64pow10), ("unicode/utf8.acceptRanges", Rows.laid_unicode_utf8_acceptRanges), ("unicode/utf8.first", Rows.laid_unicode_utf8_first)] W) :
    Lib.TabBelow Tryd.prog W.heap.size W "internal/strconv.uint64pow10" .u64 Lib.pow10Tab :=
  Lib.tabBelow_of_tabIs (tab_third (g := 1) (by kernel_rfl) (by kernel_rfl) Tryd.underlying191 Tryd.underlying177 (by kernel_rfl) (by kernel_rfl) h)
end Go.Proofs.YtjldphpdfckjnaaDoor
