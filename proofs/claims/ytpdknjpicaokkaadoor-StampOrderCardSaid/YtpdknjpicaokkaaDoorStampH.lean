/- The law StampOrder: for every input the call returns true. -/
import Derived.Test.YtpdknjpicaokkaaDoorStampG
namespace Go.Proofs.YtpdknjpicaokkaaDoor
open Go.RowKit

set_option maxRecDepth 100000 in
set_option maxHeartbeats 8000000 in
theorem lawOrder (a b c d : Int) (w : World) (hT : TB w.heap.size w) :
    Calls Tryd.prog 12 #[.agg #[.int .i64 a, .int .i64 b], .agg #[.int .i64 c, .int .i64 d]] w fun e w' => e = .returned (.bool true) ∧ Below w.heap.size w w' := by
  obtain ⟨hneg, hv⟩ := cmp_turn a b c d
  have H1 := Lib.hid (fun w => Cmp_any a b c d w)
  have H2 := Lib.hid (fun w => Cmp_any c d a b w)
  have H3 := Lib.hid (fun w => rCmp_any a b c d w)
  rw [hneg] at H2
  clear hneg
  generalize cmpI a b c d = x at *
  rcases hv with rfl | rfl | rfl
  all_goals
    go_enter Tryd.func12, Tryd.ntmps12
    go_wp2_with fail
    have hx0 : Below w.heap.size w ((w.alloc (.cells #[.int .i64 a, .int .i64 b] 67)).alloc (.cells #[.int .i64 c, .int .i64 d] 67)) := ((Below.refl _ _).alloc (Nat.le_refl _) _).alloc (by simp) _
    have hA0 := (StAt.new w a b).below ((Below.refl _ _).alloc (Nat.le_refl _) (.cells #[.int .i64 c, .int .i64 d] 67))
    have hB0 := StAt.new (w.alloc (.cells #[.int .i64 a, .int .i64 b] 67)) c d
    rw [show (w.alloc (.cells #[.int .i64 a, .int .i64 b] 67)).heap.size = w.heap.size + 1 by simp] at hB0
    generalize (w.alloc (.cells #[.int .i64 a, .int .i64 b] 67)).alloc (.cells #[.int .i64 c, .int .i64 d] 67) = W0 at *
    have c0 := hA0.c0
    have c1 := hA0.c1
    have c2 := hB0.c0
    have c3 := hB0.c1
    have hAd : StAt W0.drew w.heap.size a b := hA0
    have hBd : StAt W0.drew (w.heap.size + 1) c d := hB0
    have hxd : Below w.heap.size w W0.drew := belowDrewN (n := 1) hx0
    go_region_held3 (fun W => W.cell? ⟨w.heap.size, 0, none⟩ = some (.int .i64 a) ∧ W.cell? ⟨w.heap.size, 1, none⟩ = some (.int .i64 b) ∧ W.cell? ⟨w.heap.size + 1, 0, none⟩ = some (.int .i64 c) ∧ W.cell? ⟨w.heap.size + 1, 1, none⟩ = some (.int .i64 d)) (first | assumption | exact ⟨c0, c1, c2, c3⟩) (first
      | (go_at_call 53; (with_reducible refine (H1.out _).mono ?_); rintro e v1 ⟨rfl, hb1⟩; have hA1 := StAt.below (g := w.heap.size) (a := a) (b := b) (by assumption) hb1; have hB1 := StAt.below (g := w.heap.size + 1) (a := c) (b := d) (by assumption) hb1; have hx1 := chainB0 (w := w) (by assumption) hb1; have hS := And.intro hA1.c0 (And.intro hA1.c1 (And.intro hB1.c0 hB1.c1)))
      | (go_at_call 53; (with_reducible refine (H2.out _).mono ?_); rintro e v2 ⟨rfl, hb2⟩; have hA2 := StAt.below (g := w.heap.size) (a := a) (b := b) (by assumption) hb2; have hB2 := StAt.below (g := w.heap.size + 1) (a := c) (b := d) (by assumption) hb2; have hx2 := chainB0 (w := w) (by assumption) hb2; have hS := And.intro hA2.c0 (And.intro hA2.c1 (And.intro hB2.c0 hB2.c1)))
      | (go_at_call 54; (with_reducible refine (H3.out _).mono ?_); rintro e v3 ⟨rfl, hv3⟩; subst hv3)
      | (go_at_call 47; refine (awake_any04 _ (tbOn hT (by assumption))).mono ?_; rintro e v5 ⟨rfl, hb5⟩; have hA5 := StAt.below (g := w.heap.size) (a := a) (b := b) (by assumption) hb5; have hB5 := StAt.below (g := w.heap.size + 1) (a := c) (b := d) (by assumption) hb5; have hx5 := chainB0 (w := w) (by assumption) hb5; have hS := And.intro hA5.c0 (And.intro hA5.c1 (And.intro hB5.c0 hB5.c1))))
    go_wp2_with fail
    go_ret
    exact ⟨rfl, by assumption⟩
end Go.Proofs.YtpdknjpicaokkaaDoor
