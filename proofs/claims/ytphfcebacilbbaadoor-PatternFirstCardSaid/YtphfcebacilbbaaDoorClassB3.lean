/- A set's letters in both cases. -/
import Derived.Test.YtphfcebacilbbaaDoorClassB
namespace Go.Proofs.YtphfcebacilbbaaDoor
open Go.RowKit

def foldP (p : Nat → Bool) : Nat → Bool := fun n => p n || ((decide (65 ≤ n) && decide (n ≤ 90) && p (n + 32)) || (decide (97 ≤ n) && decide (n ≤ 122) && p (n - 32)))
theorem up_bit (n : Nat) : Nat.testBit 134217726 n = (decide (1 ≤ n) && decide (n ≤ 26)) := by
  have e : 134217726 = 2 ^ 1 * 67108863 := by decide
  rw [e, Nat.testBit_two_pow_mul, show 67108863 = 2 ^ 26 - 1 from by decide, Nat.testBit_two_pow_sub_one, Bool.eq_iff_iff]
  simp only [Bool.and_eq_true, decide_eq_true_eq]
  omega
theorem low_bit (n : Nat) : Nat.testBit 576460743713488896 n = (decide (33 ≤ n) && decide (n ≤ 58)) := by
  have e : 576460743713488896 = 2 ^ 33 * 67108863 := by decide
  rw [e, Nat.testBit_two_pow_mul, show 67108863 = 2 ^ 26 - 1 from by decide, Nat.testBit_two_pow_sub_one, Bool.eq_iff_iff]
  simp only [Bool.and_eq_true, decide_eq_true_eq]
  omega
theorem fold_word (p : Nat → Bool) : bits .or .u64 (wordP p 1 : Int) (bits .or .u64 (IntKind.u64.wrap (bits .and .u64 (wordP p 1 : Int) 134217726 * 4294967296)) (bits .and .u64 (wordP p 1 : Int) 576460743713488896 / 4294967296)) = (wordP (foldP p) 1 : Int) := by
  have hx := word_lt p 1
  have a1 := u64_and_nat (wordP p 1) 134217726 hx (by decide)
  have a2 := u64_and_nat (wordP p 1) 576460743713488896 hx (by decide)
  have l1 : wordP p 1 &&& 134217726 < 2 ^ 27 := Nat.and_lt_two_pow (n := 27) _ (by decide)
  have l2 : wordP p 1 &&& 576460743713488896 < 2 ^ 64 := Nat.and_lt_two_pow (n := 64) _ (by decide)
  have e1 : IntKind.u64.wrap (((wordP p 1 &&& 134217726 : Nat) : Int) * 4294967296) = ((2 ^ 32 * (wordP p 1 &&& 134217726) : Nat) : Int) := by
    generalize wordP p 1 &&& 134217726 = y at l1 ⊢
    rw [IntWalk.u64_in _ ⟨by omega, by omega⟩]
    omega
  have e2 : (((wordP p 1 &&& 576460743713488896 : Nat) : Int) / 4294967296) = (((wordP p 1 &&& 576460743713488896) / 2 ^ 32 : Nat) : Int) := by omega
  have b1 : 2 ^ 32 * (wordP p 1 &&& 134217726) < 18446744073709551616 := by omega
  have b2 : (wordP p 1 &&& 576460743713488896) / 2 ^ 32 < 18446744073709551616 := by omega
  show bits .or .u64 (wordP p 1 : Int) (bits .or .u64 (IntKind.u64.wrap (bits .and .u64 (wordP p 1 : Int) ((134217726 : Nat) : Int) * 4294967296)) (bits .and .u64 (wordP p 1 : Int) ((576460743713488896 : Nat) : Int) / 4294967296)) = _
  rw [a1, a2, e1, e2, u64_or_nat _ _ b1 b2, u64_or_nat _ _ hx (Nat.or_lt_two_pow (n := 64) b1 b2)]
  congr 1
  refine word_ext _ _ _ (Nat.or_lt_two_pow (n := 64) hx (Nat.or_lt_two_pow (n := 64) b1 b2)) fun n hn => ?_
  rw [Nat.testBit_or, Nat.testBit_or, Nat.testBit_two_pow_mul, Nat.testBit_and, up_bit, Nat.testBit_div_two_pow, Nat.testBit_and, low_bit, word_bit, word_bit, word_bit]
  simp only [foldP, Nat.mul_one]
  have x1 : 64 + n + 32 = 64 + (n + 32) := by omega
  rw [x1]
  by_cases h1 : 33 ≤ n ∧ n ≤ 58
  · have x2 : 64 + n - 32 = 64 + (n - 32) := by omega
    rw [x2]
    have d1 : decide (n ≥ 32) = true := decide_eq_true (by omega)
    have d2 : decide (n - 32 < 64) = true := decide_eq_true (by omega)
    have d3 : decide (1 ≤ n - 32) = true := decide_eq_true (by omega)
    have d6 : decide (64 + n ≤ 90) = false := decide_eq_false (by omega)
    have d7 : decide (97 ≤ 64 + n) = true := decide_eq_true (by omega)
    have d8 : decide (64 + n ≤ 122) = true := decide_eq_true (by omega)
    have d9 : decide (n ≤ 58) = true := decide_eq_true (by omega)
    have d10 : decide (n ≤ 26) = false := decide_eq_false (by omega)
    simp [hn, d1, d2, d3, d6, d7, d8, d9, d10]
  · have d0 : (decide (97 ≤ 64 + n) && decide (64 + n ≤ 122)) = false := by rw [Bool.and_eq_false_iff]; simp only [decide_eq_false_iff_not]; omega
    have d1 : (decide (n ≥ 32) && (decide (1 ≤ n - 32) && decide (n - 32 ≤ 26))) = false := by
      by_cases hh : n ≥ 32
      · simp only [hh, decide_true, Bool.true_and, Bool.and_eq_false_iff, decide_eq_false_iff_not]; omega
      · simp [hh]
    have d2 : (decide (n ≥ 32) && (decide (n - 32 < 64) && p (64 + (n - 32)) && (decide (1 ≤ n - 32) && decide (n - 32 ≤ 26)))) = false := by
      cases ha : decide (n ≥ 32)
      · rfl
      · rw [ha, Bool.true_and] at d1
        rw [d1]; simp
    rw [d0, d2]
    by_cases h2 : 1 ≤ n ∧ n ≤ 26
    · have c1 : decide (n + 32 < 64) = true := decide_eq_true (by omega)
      have c4 : decide (65 ≤ 64 + n) = true := decide_eq_true (by omega)
      have c5 : decide (64 + n ≤ 90) = true := decide_eq_true (by omega)
      have c6 : decide (1 ≤ n) = true := decide_eq_true (by omega)
      have c7 : decide (n ≤ 26) = true := decide_eq_true (by omega)
      simp [hn, c1, c4, c5, c6, c7]
    · have c1 : (decide (33 ≤ n + 32) && decide (n + 32 ≤ 58)) = false := by rw [Bool.and_eq_false_iff]; simp only [decide_eq_false_iff_not]; omega
      have c2 : (decide (65 ≤ 64 + n) && decide (64 + n ≤ 90)) = false := by rw [Bool.and_eq_false_iff]; simp only [decide_eq_false_iff_not]; omega
      rw [c1, c2]
      simp [hn]
theorem fold_other (p : Nat → Bool) (j : Nat) (h : j ≠ 1) : wordP (foldP p) j = wordP p j := by
  symm
  refine word_ext _ _ _ (word_lt p j) fun n hn => ?_
  rw [word_bit]
  have c1 : (decide (65 ≤ 64 * j + n) && decide (64 * j + n ≤ 90)) = false := by rw [Bool.and_eq_false_iff]; simp only [decide_eq_false_iff_not]; omega
  have c2 : (decide (97 ≤ 64 * j + n) && decide (64 * j + n ≤ 122)) = false := by rw [Bool.and_eq_false_iff]; simp only [decide_eq_false_iff_not]; omega
  simp only [foldP, c1, c2, hn, decide_true, Bool.true_and, Bool.false_and, Bool.or_false]
theorem fold_any (p : Nat → Bool) (w : World) :
    Calls Tryd.prog 44 #[SetV p] w fun e w' => e = .returned (SetV (foldP p)) ∧ Below w.heap.size w w' := by
  have hw := fold_word p
  rw [SetV_def p]
  go_enter Tryd.func44, Tryd.ntmps44
  go_wp2
  refine bodyPost_ret (v := SetV (foldP p)) (by simp [results, Tryd.results44, go_sem, fold_other p 0 (by decide), fold_other p 2 (by decide), fold_other p 3 (by decide)]) rfl ⟨rfl, ?_⟩
  go_grown
end Go.Proofs.YtphfcebacilbbaaDoor
