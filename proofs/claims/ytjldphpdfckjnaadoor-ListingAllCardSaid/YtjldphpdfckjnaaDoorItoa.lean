/- strconv.Itoa at numbers that are not less than nought. -/
import Derived.Lib.AppendIntMem
import Derived.Test.YtjldphpdfckjnaaDoorNetP
import Derived.Test.YtjldphpdfckjnaaDoorAppT
import Derived.Test.YtjldphpdfckjnaaDoorShelf
import Derived.Deep.RegionHeld3
namespace Go.Proofs.YtjldphpdfckjnaaDoor
open Go.RowKit Go.Lib

abbrev TB (B : Nat) (w : World) : Prop := Lib.TabBelow Tryd.prog B w "internal/strconv.uint64pow10" .u64 Lib.pow10Tab
theorem chain {w u v : World} (h : Below w.heap.size w u) (k : Below u.heap.size u v) : Below w.heap.size w v := h.trans (k.mono h.size)
theorem ret_int {a b : Int} (h : a = b) : Ending.returned (.int .i64 a) = .returned (.int .i64 b) := by rw [h]

theorem itoa_any (n : Nat) (hn : n ≤ 1000000000) (w : World) {B : Nat} (hT : TB B w) :
    Calls Tryd.prog 43 #[.int .i64 n] w fun e w' => e = .returned (.string (S (decDigits n))) ∧ Below w.heap.size w w' := by
  refine (Go.Proofs.Tryd.strconv_Itoa n (by omega) (by omega) w hT.here).mono ?_
  rintro e w' ⟨h, k, os, rfl⟩
  refine ⟨?_, below_grow _ _ (Nat.le_refl _) _ _⟩
  rw [h]
  unfold itoa
  rw [if_neg (by omega), Int.toNat_natCast]
  rfl
theorem TB.up {B : Nat} {w w1 : World} (h : TB B w) (hb : Below B w w1) (hB : B ≤ w1.heap.size) : TB w1.heap.size w1 :=
  fun w' hw => h w' (hb.trans (hw.mono hB))
end Go.Proofs.YtjldphpdfckjnaaDoor
