/- What the row hands: the table of powers of ten and the library's number. -/
import Derived.Test.YtjldphpdfckjnaaDoorTm
import Derived.Shelf.Vars
namespace Go.Proofs.YtjldphpdfckjnaaDoor
open Go.RowKit

theorem TM.of {W : World} (h : TB W.heap.size W) (hsh : W.ShapedOpen Tryd.prog) : TM W :=
  ⟨h, cell_of_shapedOpen_int (zero := #[.int .i64 0]) (t := 3) hsh (of_decide_eq_true (by kernel_rfl)) (by kernel_rfl) rfl (by kernel_rfl) (by kernel_rfl) Tryd.underlying3⟩
end Go.Proofs.YtjldphpdfckjnaaDoor
