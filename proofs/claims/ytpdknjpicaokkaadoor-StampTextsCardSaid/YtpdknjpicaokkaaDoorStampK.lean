/- The law StampAdds: for every input the call returns true. -/
import Derived.Test.YtpdknjpicaokkaaDoorStampJ
namespace Go.Proofs.YtpdknjpicaokkaaDoor
open Go.RowKit

theorem add_refused_agg (s n k : Int) (h : goodB s n k = false) (w : World) :
    Calls Tryd.prog 55 #[.agg #[.int .i64 s, .int .i64 n], .int .i64 k] w fun e w' => e = .returned (StV 0 0 1) ∧ Below w.heap.size w w' := add_refused s n k h w
set_option maxRecDepth 100000 in
set_option maxHeartbeats 8000000 in
theorem adds_no (s n k : Int) (h : goodB s n k = false) (w : World) (hT : TB w.heap.size w) :
    Calls Tryd.prog 13 #[.agg #[.int .i64 s, .int .i64 n], .int .i64 k] w fun e w' => e = .returned (.bool true) ∧ Below w.heap.size w w' := by
  have hc : rightB s n = false ∨ (rightB s n = true ∧ 1152921504606846976 < k) ∨ (rightB s n = true ∧ ¬ 1152921504606846976 < k ∧ k < -1152921504606846976) := by
    unfold goodB at h
    cases hr : rightB s n with
    | false => exact .inl rfl
    | true =>
      rw [hr, Bool.true_and, decide_eq_false_iff_not] at h
      by_cases h1 : 1152921504606846976 < k
      · exact .inr (.inl ⟨rfl, h1⟩)
      · exact .inr (.inr ⟨rfl, h1, by omega⟩)
  have HA := Lib.hid (fun w => add_refused_agg s n k h w)
  clear h
  rcases hc with h | ⟨h, h1⟩ | ⟨h, h1, h2⟩
  all_goals
    have H := Lib.hid h
    clear h
    go_enter Tryd.func13, Tryd.ntmps13
    go_wp2_with fail
    refine (HA.out _).mono ?_
    rintro e w1 ⟨rfl, hb1⟩
    have hA1 := (StAt.new w s n).below hb1
    have hx1 : Below w.heap.size w w1 := ((Below.refl _ _).alloc (Nat.le_refl _) _).trans (hb1.mono (by simp))
    have hz1 := hA1.lt
    have HX1 := Lib.hid hx1
    have d0 := hA1.c0
    have d1 := hA1.c1
    clear hb1 hx1
    unfold StV Stp
    go_wp2_with fail
    refine (rRight_any s n _).mono ?_
    rintro e w2 ⟨rfl, hw2⟩
    subst hw2
    rw [H.out]
    go_wp2_with fail
    refine (awake_any04 _ (tbOn hT (HX1.out.alloc HX1.out.size _))).mono ?_
    rintro e w3 ⟨rfl, hb3⟩
    have hx3 := chainB0 (HX1.out.alloc HX1.out.size _) hb3
    go_wp2_with fail
    go_ret
    exact ⟨rfl, hx3⟩
end Go.Proofs.YtpdknjpicaokkaaDoor
