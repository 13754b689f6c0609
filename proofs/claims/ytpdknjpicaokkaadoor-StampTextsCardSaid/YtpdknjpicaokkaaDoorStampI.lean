/- A stamp some nanoseconds later. -/
import Derived.Test.YtpdknjpicaokkaaDoorStampG
namespace Go.Proofs.YtpdknjpicaokkaaDoor
open Go.RowKit

def addS (s n k : Int) : Int := s + (n + k) / 1000000000
def addN (n k : Int) : Int := (n + k) % 1000000000
theorem tdiv_parts (k : Int) : k = 1000000000 * k.tdiv 1000000000 + k.tmod 1000000000 ∧ -1000000000 < k.tmod 1000000000 ∧ k.tmod 1000000000 < 1000000000 := by
  have h1 := Int.mul_tdiv_add_tmod k 1000000000
  have h2 := Int.tmod_lt_of_pos k (show (0 : Int) < 1000000000 by decide)
  have h3 : -1000000000 < k.tmod 1000000000 := by
    by_cases h : 0 ≤ k
    · have := Int.tmod_nonneg 1000000000 h; omega
    · have h4 := Int.neg_tmod (-k) 1000000000
      rw [Int.neg_neg] at h4
      have h5 := Int.tmod_lt_of_pos (-k) (show (0 : Int) < 1000000000 by decide)
      omega
  exact ⟨h1.symm, h3, h2⟩
/-- what Go's own division leaves is set right -/
theorem add_parts (s n k q r : Int) (hk : k = 1000000000 * q + r) (h1 : -1000000000 < r) (h2 : r < 1000000000) (h3 : 0 ≤ n) (h4 : n < 1000000000) :
    (n + r < 0 ∧ addS s n k = s + q - 1 ∧ addN n k = n + r + 1000000000) ∨ (0 ≤ n + r ∧ n + r < 1000000000 ∧ addS s n k = s + q ∧ addN n k = n + r) ∨ (1000000000 ≤ n + r ∧ addS s n k = s + q + 1 ∧ addN n k = n + r - 1000000000) := by
  unfold addS addN
  omega
theorem add_back (s n k : Int) (h3 : 0 ≤ n) (h4 : n < 1000000000) : addS (addS s n k) (addN n k) (-k) = s ∧ addN (addN n k) (-k) = n ∧ 0 ≤ addN n k ∧ addN n k < 1000000000 := by
  unfold addS addN
  omega
theorem add_cmp (s n k : Int) (h3 : 0 ≤ n) (h4 : n < 1000000000) : (0 < k → cmpI (addS s n k) (addN n k) s n = 1) ∧ (k ≤ 0 → cmpI (addS s n k) (addN n k) s n ≤ 0) := by
  unfold cmpI addS addN
  constructor
  · intro hk
    split
    · omega
    · split
      · rfl
      · split
        · omega
        · split
          · rfl
          · omega
  · intro hk
    split
    · decide
    · split
      · omega
      · split
        · decide
        · split
          · omega
          · decide
def goodB (s n k : Int) : Bool := rightB s n && decide (-1152921504606846976 ≤ k ∧ k ≤ 1152921504606846976)
set_option maxRecDepth 100000 in
set_option maxHeartbeats 4000000 in
theorem add_refused (s n k : Int) (h : goodB s n k = false) (w : World) :
    Calls Tryd.prog 55 #[Stp s n, .int .i64 k] w fun e w' => e = .returned (StV 0 0 1) ∧ Below w.heap.size w w' := by
  have hc : rightB s n = false ∨ (rightB s n = true ∧ 1152921504606846976 < k) ∨ (rightB s n = true ∧ ¬ 1152921504606846976 < k ∧ k < -1152921504606846976) := by
    unfold goodB at h
    cases hr : rightB s n with
    | false => exact .inl rfl
    | true =>
      rw [hr, Bool.true_and, decide_eq_false_iff_not] at h
      by_cases h1 : 1152921504606846976 < k
      · exact .inr (.inl ⟨rfl, h1⟩)
      · exact .inr (.inr ⟨rfl, h1, by omega⟩)
  have HS := Lib.hid (fun s n => show Stp s n = .agg #[.int .i64 s, .int .i64 n] from rfl)
  clear h
  rcases hc with h | ⟨h, h1⟩ | ⟨h, h1, h2⟩
  all_goals
    have H := Lib.hid h
    clear h
    rw [HS.out]
    go_enter Tryd.func55, Tryd.ntmps55
    go_wp2_with fail
    rw [← HS.out]
    refine (sRight_any s n _).mono ?_
    rintro e w1 ⟨rfl, hb1⟩
    rw [H.out]
    have hx1 : Below w.heap.size w w1 := (((Below.refl _ _).alloc (Nat.le_refl _) _).alloc (by simp) _).trans (hb1.mono (by simp; omega))
    obtain ⟨hc1, hf1⟩ := bcell hb1
    have hz1 : w.heap.size + 1 < w1.heap.size := by have := hb1.size; simp at this; omega
    have HX1 := Lib.hid hx1
    have d0 : w1.cell? ⟨w.heap.size + 1, 0, none⟩ = some (.int .i64 0) := by go_simp
    have d1 : w1.cell? ⟨w.heap.size + 1, 1, none⟩ = some (.int .i64 0) := by go_simp
    obtain ⟨f0, f1⟩ := set_two d0 d1 (.int .i64 0) (.int .i64 0)
    have F0 := Lib.hid f0
    have F1 := Lib.hid f1
    clear hx1 hb1 f0 f1
    go_wp2_with fail
    refine bodyPost_ret (v := StV 0 0 1) (by simp [results, Tryd.results55, go_sem, Stp, StV, F0.out, F1.out]) rfl ⟨rfl, ?_⟩
    exact (HX1.out.setCell (by simp) _).setCell (by simp) _
end Go.Proofs.YtpdknjpicaokkaaDoor
