import Derived.Test.YtjaiadfpdkjkpaaDoorWhenE
import Derived.Deep.RegionHeld3
namespace Go.Proofs.YtjaiadfpdkjkpaaDoor
open Go.RowKit

set_option maxRecDepth 100000 in
set_option maxHeartbeats 1000000 in
theorem awake29 (w : World) : Calls Tryd.prog 27 #[] w fun e w' => e = .returned (.bool true) ∧ Below w.heap.size w w' := by
  go_enter Tryd.func27, Tryd.ntmps27
  go_wp2_with fail
  refine (parse_a _).mono ?_
  rintro e w1 ⟨rfl, hb⟩
  unfold ParV StV
  go_wp2_with fail
  refine (parse_b _).mono ?_
  rintro e w2 ⟨rfl, hb2⟩
  unfold ParV StV
  obtain ⟨hc, hf⟩ := bcell hb2
  have hz := hb2.size
  have hz1 := hb.size
  simp at hz
  have h2 : w1.heap.size < w2.heap.size := by omega
  go_wp2_with fail
  go_ret
  refine ⟨rfl, ?_⟩
  have h3 := ((Below.refl w.heap.size w1).alloc hz1 (.cells #[.int .i64 86401, .int .i64 500000000] 41)).trans (hb2.mono (by simp; omega))
  exact hb.trans (h3.alloc (by omega) _)

theorem ret_int29 {a b : Int} (h : a = b) : Ending.returned (.int .i64 a) = .returned (.int .i64 b) := by rw [h]
theorem length_any (y m : Int) (w : World) (h0 : 0 ≤ y) (h1 : y ≤ 20000) :
    Calls Tryd.prog 81 #[.int .i64 y, .int .i64 m] w fun e w' => e = .returned (.int .i64 (lenI y m)) ∧ w = w' := by
  go_enter Tryd.func81, Tryd.ntmps81
  go_wp2_with fail
  all_goals
    go_ret
    refine ⟨ret_int29 ?_, rfl⟩
    unfold lenI febI
    have := leap_iff y
    (repeat' split) <;> first | rfl | omega | (exfalso; simp_all; done) | (exfalso; simp_all; omega)

theorem rmay_any (y m d : Int) (w : World) :
    Calls Tryd.prog 51 #[.int .i64 y, .int .i64 m, .int .i64 d] w fun e w' => e = .returned (.bool (mayB y m d)) ∧ w = w' := by
  by_cases h : 1 ≤ y ∧ y ≤ 9999 ∧ 1 ≤ m ∧ m ≤ 12 ∧ 1 ≤ d
  · obtain ⟨h1, h2, h3, h4, h5⟩ := h
    go_enter Tryd.func51, Tryd.ntmps51
    go_wp2_with fail
    refine (length_any y m _ (by omega) (by omega)).mono ?_
    rintro e w' ⟨rfl, rfl⟩
    go_wp2_with fail
    go_ret
    refine ⟨?_, rfl⟩
    show Ending.returned (Value.bool _) = _
    congr 2
    unfold mayB
    rw [decide_eq_decide]
    omega
  · have hf : mayB y m d = false := (may_not y m d).2 (fun g => h ⟨g.1, g.2.1, g.2.2.1, g.2.2.2.1, g.2.2.2.2.1⟩)
    rw [hf]
    clear hf
    go_enter Tryd.func51, Tryd.ntmps51
    go_wp2_with fail
    all_goals (go_ret; exact ⟨rfl, rfl⟩)

theorem rnum_any (y m d : Int) (w : World) (h1 : 1 ≤ y) (h2 : y ≤ 9999) (h3 : 1 ≤ m) (h4 : m ≤ 12) (h5 : 1 ≤ d) (h6 : d ≤ 31) :
    Calls Tryd.prog 28 #[.int .i64 y, .int .i64 m, .int .i64 d] w fun e w' => e = .returned (.int .i64 (refNum y m d)) ∧ w = w' := by
  go_enter Tryd.func28, Tryd.ntmps28
  go_wp2_with fail
  all_goals
    go_ret
    refine ⟨ret_int29 ?_, rfl⟩
    unfold refNum
    split <;> first | rfl | omega
end Go.Proofs.YtjaiadfpdkjkpaaDoor
