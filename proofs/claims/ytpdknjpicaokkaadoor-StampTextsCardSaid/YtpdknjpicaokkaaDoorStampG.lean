/- One stamp against another; the law StampOrder. -/
import Derived.Test.YtpdknjpicaokkaaDoorStampF
namespace Go.Proofs.YtpdknjpicaokkaaDoor
open Go.RowKit

def cmpI (a b c d : Int) : Int := if a < c then -1 else if c < a then 1 else if b < d then -1 else if d < b then 1 else 0
theorem cmp_cases (a b c d : Int) : (a < c ∧ cmpI a b c d = -1) ∨ (c < a ∧ cmpI a b c d = 1) ∨ (a = c ∧ b < d ∧ cmpI a b c d = -1) ∨ (a = c ∧ d < b ∧ cmpI a b c d = 1) ∨ (a = c ∧ b = d ∧ cmpI a b c d = 0) := by
  unfold cmpI
  by_cases h1 : a < c
  · exact .inl ⟨h1, by rw [if_pos h1]⟩
  · by_cases h2 : c < a
    · exact .inr (.inl ⟨h2, by rw [if_neg h1, if_pos h2]⟩)
    · by_cases h3 : b < d
      · exact .inr (.inr (.inl ⟨by omega, h3, by rw [if_neg h1, if_neg h2, if_pos h3]⟩))
      · by_cases h4 : d < b
        · exact .inr (.inr (.inr (.inl ⟨by omega, h4, by rw [if_neg h1, if_neg h2, if_neg h3, if_pos h4]⟩)))
        · exact .inr (.inr (.inr (.inr ⟨by omega, by omega, by rw [if_neg h1, if_neg h2, if_neg h3, if_neg h4]⟩)))
theorem cmp_turn (a b c d : Int) : cmpI c d a b = -cmpI a b c d ∧ (cmpI a b c d = -1 ∨ cmpI a b c d = 0 ∨ cmpI a b c d = 1) := by
  unfold cmpI
  split <;> split <;> (try split) <;> (try split) <;> (try split) <;> (try split) <;> (try split) <;> (try split) <;> omega
set_option maxRecDepth 100000 in
set_option maxHeartbeats 1000000 in
theorem rCmp_any (a b c d : Int) (w : World) :
    Calls Tryd.prog 54 #[.int .i64 a, .int .i64 b, .int .i64 c, .int .i64 d] w fun e w' => e = .returned (.int .i64 (cmpI a b c d)) ∧ w' = w := by
  rcases cmp_cases a b c d with ⟨h1, h⟩ | ⟨h1, h⟩ | ⟨h0, h1, h⟩ | ⟨h0, h1, h⟩ | ⟨h0, h6, h⟩
  all_goals
    have H := Lib.hid h
    clear h
    try (have h2 : ¬ a < c := by omega)
    try (have h3 : ¬ c < a := by omega)
    try (have h4 : ¬ b < d := by omega)
    try (have h5 : ¬ d < b := by omega)
    try clear h0
    try clear h6
    go_enter Tryd.func54, Tryd.ntmps54
    go_wp2
    go_ret
    exact ⟨by rw [H.out]; rfl, rfl⟩
set_option maxRecDepth 100000 in
set_option maxHeartbeats 1000000 in
theorem Cmp_any (a b c d : Int) (w : World) :
    Calls Tryd.prog 53 #[.agg #[.int .i64 a, .int .i64 b], .agg #[.int .i64 c, .int .i64 d]] w fun e w' => e = .returned (.int .i64 (cmpI a b c d)) ∧ Below w.heap.size w w' := by
  rcases cmp_cases a b c d with ⟨h1, h⟩ | ⟨h1, h⟩ | ⟨h0, h1, h⟩ | ⟨h0, h1, h⟩ | ⟨h0, h1, h⟩
  · have H := Lib.hid h
    have e1 : (a == c) = false := by rw [beq_eq_false_iff_ne]; omega
    clear h
    go_enter Tryd.func53, Tryd.ntmps53
    go_wp2
    go_ret
    exact ⟨by rw [H.out]; rfl, ((Below.refl _ _).alloc (Nat.le_refl _) _).alloc (by simp) _⟩
  · have H := Lib.hid h
    have e1 : (a == c) = false := by rw [beq_eq_false_iff_ne]; omega
    have h2 : ¬ a < c := by omega
    clear h
    go_enter Tryd.func53, Tryd.ntmps53
    go_wp2
    go_ret
    exact ⟨by rw [H.out]; rfl, ((Below.refl _ _).alloc (Nat.le_refl _) _).alloc (by simp) _⟩
  · have H := Lib.hid h
    have e1 : (a == c) = true := by rw [beq_iff_eq]; omega
    have e2 : (b == d) = false := by rw [beq_eq_false_iff_ne]; omega
    have h2 : ¬ a < c := by omega
    clear h0
    clear h
    go_enter Tryd.func53, Tryd.ntmps53
    go_wp2
    go_ret
    exact ⟨by rw [H.out]; rfl, ((Below.refl _ _).alloc (Nat.le_refl _) _).alloc (by simp) _⟩
  · have H := Lib.hid h
    have e1 : (a == c) = true := by rw [beq_iff_eq]; omega
    have e2 : (b == d) = false := by rw [beq_eq_false_iff_ne]; omega
    have h2 : ¬ a < c := by omega
    have h3 : ¬ b < d := by omega
    clear h0
    clear h
    go_enter Tryd.func53, Tryd.ntmps53
    go_wp2
    go_ret
    exact ⟨by rw [H.out]; rfl, ((Below.refl _ _).alloc (Nat.le_refl _) _).alloc (by simp) _⟩
  · have H := Lib.hid h
    have e1 : (a == c) = true := by rw [beq_iff_eq]; omega
    have e2 : (b == d) = true := by rw [beq_iff_eq]; omega
    clear h0 h1
    clear h
    go_enter Tryd.func53, Tryd.ntmps53
    go_wp2
    go_ret
    exact ⟨by rw [H.out]; rfl, ((Below.refl _ _).alloc (Nat.le_refl _) _).alloc (by simp) _⟩
end Go.Proofs.YtpdknjpicaokkaaDoor
