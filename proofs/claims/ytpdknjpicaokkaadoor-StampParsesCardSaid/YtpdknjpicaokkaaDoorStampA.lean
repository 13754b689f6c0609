/- stamp.Right, turn, digits; the document's Right. -/
import Derived.Test.YtpdknjpicaokkaaDoorStampL
import Derived.Test.YtpdknjpicaokkaaDoorSplit
namespace Go.Proofs.YtpdknjpicaokkaaDoor
open Go.RowKit

def Stp (s n : Int) : Value := .agg #[.int .i64 s, .int .i64 n]
theorem ret_bool {a b : Bool} (h : a = b) : Ending.returned (.bool a) = .returned (.bool b) := by rw [h]
theorem right_cases (s n : Int) : (rightB s n = true ∧ -9007199254740991 ≤ s ∧ s ≤ 9007199254740991 ∧ 0 ≤ n ∧ n < 1000000000) ∨ (rightB s n = false ∧ s < -9007199254740991) ∨ (rightB s n = false ∧ -9007199254740991 ≤ s ∧ 9007199254740991 < s) ∨ (rightB s n = false ∧ -9007199254740991 ≤ s ∧ s ≤ 9007199254740991 ∧ n < 0) ∨ (rightB s n = false ∧ -9007199254740991 ≤ s ∧ s ≤ 9007199254740991 ∧ 0 ≤ n ∧ 1000000000 ≤ n) := by
  by_cases h : rightB s n = true
  · exact .inl ⟨h, (right_iff s n).1 h⟩
  · have hn : ¬ (-9007199254740991 ≤ s ∧ s ≤ 9007199254740991 ∧ 0 ≤ n ∧ n < 1000000000) := fun g => h ((right_iff s n).2 g)
    have hf : rightB s n = false := by simpa using h
    rw [hf]
    by_cases h1 : s < -9007199254740991
    · exact .inr (.inl ⟨rfl, h1⟩)
    · by_cases h2 : 9007199254740991 < s
      · exact .inr (.inr (.inl ⟨rfl, by omega, h2⟩))
      · by_cases h3 : n < 0
        · exact .inr (.inr (.inr (.inl ⟨rfl, by omega, by omega, h3⟩)))
        · exact .inr (.inr (.inr (.inr ⟨rfl, by omega, by omega, by omega, by omega⟩)))
set_option maxRecDepth 100000 in
set_option maxHeartbeats 1000000 in
theorem sRight_any (s n : Int) (w : World) :
    Calls Tryd.prog 50 #[Stp s n] w fun e w' => e = .returned (.bool (rightB s n)) ∧ Below w.heap.size w w' := by
  unfold Stp
  rcases right_cases s n with ⟨h, h1, h2, h3, h4⟩ | ⟨h, h1⟩ | ⟨h, h1, h2⟩ | ⟨h, h1, h2, h3⟩ | ⟨h, h1, h2, h3, h4⟩
  all_goals
    have H := Lib.hid h
    clear h
    go_enter Tryd.func50, Tryd.ntmps50
    go_wp2
    go_ret
    exact ⟨by rw [H.out]; first | rfl | exact ret_bool (decide_eq_true (by omega)) | exact ret_bool (decide_eq_false (by omega)), (Below.refl _ _).alloc (Nat.le_refl _) _⟩
set_option maxRecDepth 100000 in
set_option maxHeartbeats 1000000 in
theorem rRight_any (s n : Int) (w : World) :
    Calls Tryd.prog 51 #[.int .i64 s, .int .i64 n] w fun e w' => e = .returned (.bool (rightB s n)) ∧ w' = w := by
  rcases right_cases s n with ⟨h, h1, h2, h3, h4⟩ | ⟨h, h1⟩ | ⟨h, h1, h2⟩ | ⟨h, h1, h2, h3⟩ | ⟨h, h1, h2, h3, h4⟩
  all_goals
    have H := Lib.hid h
    clear h
    go_enter Tryd.func51, Tryd.ntmps51
    go_wp2
    go_ret
    exact ⟨by rw [H.out]; first | rfl | exact ret_bool (decide_eq_true (by omega)) | exact ret_bool (decide_eq_false (by omega)), rfl⟩
set_option maxRecDepth 100000 in
set_option maxHeartbeats 1000000 in
theorem turn_any (s n : Int) (h1 : -100000000000000000 ≤ s) (h2 : s ≤ 100000000000000000) (h3 : 0 ≤ n) (h4 : n ≤ 1000000000) (w : World) :
    Calls Tryd.prog 79 #[Stp s n] w fun e w' => e = .returned (Stp (turnF s n).1 (turnF s n).2) ∧ Below w.heap.size w w' := by
  by_cases hn : n = 0
  · have H := Lib.hid (show turnF s n = (-s, 0) by unfold turnF; rw [if_pos hn])
    subst hn
    unfold Stp
    go_enter Tryd.func79, Tryd.ntmps79
    go_wp2
    refine bodyPost_ret (v := Stp (-s) 0) (by simp [results, Tryd.results79, go_sem, Stp]) rfl ⟨by rw [H.out]; rfl, ?_⟩
    exact ((Below.refl _ _).alloc (Nat.le_refl _) _).alloc (by simp) _
  · have H := Lib.hid (show turnF s n = (-s - 1, 1000000000 - n) by unfold turnF; rw [if_neg hn])
    have hn2 : (n == 0) = false := beq_eq_false_iff_ne.2 hn
    clear hn
    unfold Stp
    go_enter Tryd.func79, Tryd.ntmps79
    go_wp2
    refine bodyPost_ret (v := Stp (-s - 1) (1000000000 - n)) (by simp [results, Tryd.results79, go_sem, Stp]) rfl ⟨by rw [H.out]; rfl, ?_⟩
    exact ((Below.refl _ _).alloc (Nat.le_refl _) _).alloc (by simp) _
end Go.Proofs.YtpdknjpicaokkaaDoor
