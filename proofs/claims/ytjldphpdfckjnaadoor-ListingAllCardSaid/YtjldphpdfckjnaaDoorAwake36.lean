/- The examples of the chapter on lists. -/
import Derived.Test.YtjldphpdfckjnaaDoorRrights
import Derived.Test.YtjldphpdfckjnaaDoorLquotes2
import Derived.Test.YtjldphpdfckjnaaDoorRquote
namespace Go.Proofs.YtjldphpdfckjnaaDoor
open Go.RowKit

set_option maxRecDepth 100000 in
theorem awake36 (w : World) : Calls Tryd.prog 18 #[] w fun e w' => e = .returned (.bool true) ∧ Below w.heap.size w w' := by
  have f1 : (rightsL 493 53 == [100, 114, 119, 120, 114, 45, 120, 114, 45, 120]) = true := by decide +kernel
  have f2 : (rightsL 2541 48 == [45, 114, 119, 115, 114, 45, 120, 114, 45, 120]) = true := by decide +kernel
  have f3 : (quoteF true [97, 32, 98] == [97, 92, 48, 52, 48, 98]) = true := by decide +kernel
  go_enter Tryd.func18, Tryd.ntmps18
  go_wp2_with fail
  refine (rights_any 493 53 _).mono ?_
  rintro e w1 ⟨rfl, hb1⟩
  go_wp2_with fail
  refine (rights_any 2541 48 _).mono ?_
  rintro e w2 ⟨rfl, hb2⟩
  go_wp2_with fail
  refine (quote_any _ _ _ (by decide)).mono ?_
  rintro e w3 ⟨rfl, hb3⟩
  have f3' : (quoteF true (ByteArray.mk #[97, 32, 98]).data.toList == [97, 92, 48, 52, 48, 98]) = true := f3
  go_wp2_with fail
  go_ret
  exact ⟨rfl, (hb1.trans (hb2.mono hb1.size)).trans (hb3.mono (Nat.le_trans hb1.size hb2.size))⟩
end Go.Proofs.YtjldphpdfckjnaaDoor
