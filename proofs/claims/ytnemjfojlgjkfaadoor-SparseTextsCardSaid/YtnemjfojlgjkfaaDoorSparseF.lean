/- boulterref40.Hole. -/
import Derived.Test.YtnemjfojlgjkfaaDoorSparseE
namespace Go.Proofs.YtnemjfojlgjkfaaDoor
open Go.RowKit

set_option maxRecDepth 100000 in
set_option maxHeartbeats 4000000 in
theorem rHole_any (size : Int) (l : List (Int × Int)) (v : Value) (x : Int) (w : World) (hv : PieV w v l) (hr : mapB size l = true) :
    Calls Tryd.prog 18 #[.agg #[.int .i64 size, v], .int .i64 x] w fun e w' => e = .returned (.bool (holeB size l x)) ∧ Below w.heap.size w w' := by
  have hM0 := RMapAt.new w size v
  have hx0 := (Below.refl w.heap.size w).alloc (Nat.le_refl _) (.cells #[.int .i64 size, v] 31)
  have hV0 := hv.below hx0 (Nat.le_refl _)
  have HR := Lib.hid (rIn_any size l v x _ hV0 hr)
  have hc0 := hM0.c0
  have hc1 := hM0.c1
  by_cases hin : 0 ≤ x ∧ x < size
  · obtain ⟨h1, h2⟩ := hin
    have HB := Lib.hid (hole_hit size l x h1 h2)
    clear hM0 hV0 hv hr
    go_enter Tryd.func18, Tryd.ntmps18
    go_wp2_with fail
    refine HR.out.mono ?_
    rintro e w1 ⟨⟨r, rfl, hd⟩, hb1⟩
    have hx1 : Below w.heap.size w w1 := hx0.trans (hb1.mono hx0.size)
    have HD := Lib.hid hd
    clear hd
    go_wp2_with fail
    go_ret
    exact ⟨by rw [HB.out, ← HD.out]; rfl, hx1⟩
  · have HB := Lib.hid (show holeB size l x = false by unfold holeB; exact decide_eq_false (fun g => hin ⟨g.1, g.2.1⟩))
    have hr2 : x < 0 ∨ size ≤ x := by omega
    clear hM0 hV0 hv hr hin HR
    go_enter Tryd.func18, Tryd.ntmps18
    go_wp2
    all_goals
      go_ret
      exact ⟨by rw [HB.out]; rfl, hx0⟩
end Go.Proofs.YtnemjfojlgjkfaaDoor
