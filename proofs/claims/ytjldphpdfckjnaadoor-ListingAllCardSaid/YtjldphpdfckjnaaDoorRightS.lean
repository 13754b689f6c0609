/- stamp.Right, and the document's. -/
import Derived.Test.YtjldphpdfckjnaaDoorStampL
import Derived.Test.YtjldphpdfckjnaaDoorKit
namespace Go.Proofs.YtjldphpdfckjnaaDoor
open Go.RowKit

def Stp (s n : Int) : Value := .agg #[.int .i64 s, .int .i64 n]
theorem ret_bool {a b : Bool} (h : a = b) : Ending.returned (.bool a) = .returned (.bool b) := by rw [h]
theorem right_cases (s n : Int) : (rightB s n = true ∧ -9007199254740991 ≤ s ∧ s ≤ 9007199254740991 ∧ 0 ≤ n ∧ n < 1000000000) ∨ (rightB s n = false ∧ s < -9007199254740991) ∨ (rightB s n = false ∧ -9007199254740991 ≤ s ∧ 9007199254740991 < s) ∨ (rightB s n = false ∧ -9007199254740991 ≤ s ∧ s ≤ 9007199254740991 ∧ n < 0) ∨ (rightB s n = false ∧ -9007199254740991 ≤ s ∧ s ≤ 9007199254740991 ∧ 0 ≤ n ∧ 1000000000 ≤ n) := by
  by_cases h : rightB s n = true
  · exact .inl ⟨h, (right_iff s n).1 h⟩
  · have hn : ¬ (-9007199254740991 ≤ s ∧ s ≤ 9007199254740991 ∧ 0 ≤ n ∧ n < 1000000000) := fun g => h ((right_iff s n).2 g)
    have hf : rightB s n = false := by simpa using h
    rw [hf]
    by_cases h1 : s < -9007199254740991
    · exact .inr (.inl ⟨rfl, h1⟩)
    · by_cases h2 : 9007199254740991 < s
      · exact .inr (.inr (.inl ⟨rfl, by omega, h2⟩))
      · by_cases h3 : n < 0
        · exact .inr (.inr (.inr (.inl ⟨rfl, by omega, by omega, h3⟩)))
        · exact .inr (.inr (.inr (.inr ⟨rfl, by omega, by omega, by omega, by omega⟩)))
set_option maxRecDepth 100000 in
set_option maxHeartbeats 1000000 in
theorem sRight_any (s n : Int) (w : World) :
    Calls Tryd.prog 112 #[Stp s n] w fun e w' => e = .returned (.bool (rightB s n)) ∧ Below w.heap.size w w' := by
  unfold Stp
  rcases right_cases s n with ⟨h, h1, h2, h3, h4⟩ | ⟨h, h1⟩ | ⟨h, h1, h2⟩ | ⟨h, h1, h2, h3⟩ | ⟨h, h1, h2, h3, h4⟩
  all_goals
    have H := Lib.hid h
    clear h
    go_enter Tryd.func112, Tryd.ntmps112
    go_wp2
    go_ret
    exact ⟨by rw [H.out]; first | rfl | exact ret_bool (decide_eq_true (by omega)) | exact ret_bool (decide_eq_false (by omega)), (Below.refl _ _).alloc (Nat.le_refl _) _⟩
set_option maxRecDepth 100000 in
set_option maxHeartbeats 1000000 in
theorem rRight_any (s n : Int) (w : World) :
    Calls Tryd.prog 81 #[.int .i64 s, .int .i64 n] w fun e w' => e = .returned (.bool (rightB s n)) ∧ w' = w := by
  rcases right_cases s n with ⟨h, h1, h2, h3, h4⟩ | ⟨h, h1⟩ | ⟨h, h1, h2⟩ | ⟨h, h1, h2, h3⟩ | ⟨h, h1, h2, h3, h4⟩
  all_goals
    have H := Lib.hid h
    clear h
    go_enter Tryd.func81, Tryd.ntmps81
    go_wp2
    go_ret
    exact ⟨by rw [H.out]; first | rfl | exact ret_bool (decide_eq_true (by omega)) | exact ret_bool (decide_eq_false (by omega)), rfl⟩
end Go.Proofs.YtjldphpdfckjnaaDoor
