/- What the row hands: the cell of the library's greatest length. -/
import Derived.Test.YtphfcebacilbbaaDoorKit
import Derived.Shelf.Vars
namespace Go.Proofs.YtphfcebacilbbaaDoor
open Go.RowKit

theorem mx_of {W : World} (hsh : W.ShapedOpen Tryd.prog) : ∃ m, W.cell? ⟨2, 0, none⟩ = some (.int .i64 m) :=
  cell_of_shapedOpen_int (zero := #[.int .i64 0]) (t := 3) hsh (of_decide_eq_true (by kernel_rfl)) (by kernel_rfl) rfl (by kernel_rfl) (by kernel_rfl) Tryd.underlying3
end Go.Proofs.YtphfcebacilbbaaDoor
