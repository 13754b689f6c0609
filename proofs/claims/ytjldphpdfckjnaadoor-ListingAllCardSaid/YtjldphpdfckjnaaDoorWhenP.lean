import Derived.Test.YtjldphpdfckjnaaDoorWhenA
namespace Go.Proofs.YtjldphpdfckjnaaDoor

def lenI (y m : Int) : Int := if m = 2 then febI y else if m = 4 ∨ m = 6 ∨ m = 9 ∨ m = 11 then 30 else 31
def monL (f : Int) : List Int := [31, f, 31, 30, 31, 30, 31, 31, 30, 31, 30, 31]
def monAt (f : Int) (k : Nat) : Int := (monL f).getD k 0
def cumI (f : Int) (k : Nat) : Int := ((monL f).take k).sum
def mayB (y m d : Int) : Bool := decide (1 ≤ y ∧ y ≤ 9999 ∧ 1 ≤ m ∧ m ≤ 12 ∧ 1 ≤ d ∧ d ≤ lenI y m)
theorem may_iff (y m d : Int) : mayB y m d = true ↔ (1 ≤ y ∧ y ≤ 9999 ∧ 1 ≤ m ∧ m ≤ 12 ∧ 1 ≤ d ∧ d ≤ lenI y m) := by unfold mayB; exact decide_eq_true_iff
theorem may_not (y m d : Int) : mayB y m d = false ↔ ¬(1 ≤ y ∧ y ≤ 9999 ∧ 1 ≤ m ∧ m ≤ 12 ∧ 1 ≤ d ∧ d ≤ lenI y m) := by unfold mayB; exact decide_eq_false_iff_not
def numI (y m d : Int) : Int := aheadI y - 719162 + d - 1 + cumI (febI y) (m.toNat - 1)

theorem feb_bd (y : Int) : 28 ≤ febI y ∧ febI y ≤ 29 := by unfold febI; split <;> omega
theorem len_mon (y m : Int) (h1 : 1 ≤ m) (h2 : m ≤ 12) : lenI y m = monAt (febI y) (m.toNat - 1) := by
  have h : m = 1 ∨ m = 2 ∨ m = 3 ∨ m = 4 ∨ m = 5 ∨ m = 6 ∨ m = 7 ∨ m = 8 ∨ m = 9 ∨ m = 10 ∨ m = 11 ∨ m = 12 := by omega
  rcases h with rfl | rfl | rfl | rfl | rfl | rfl | rfl | rfl | rfl | rfl | rfl | rfl <;> rfl
theorem mon_bd (f : Int) (k : Nat) (hf : 28 ≤ f ∧ f ≤ 29) (h : k < 12) : 28 ≤ monAt f k ∧ monAt f k ≤ 31 := by
  have h : k = 0 ∨ k = 1 ∨ k = 2 ∨ k = 3 ∨ k = 4 ∨ k = 5 ∨ k = 6 ∨ k = 7 ∨ k = 8 ∨ k = 9 ∨ k = 10 ∨ k = 11 := by omega
  rcases h with rfl | rfl | rfl | rfl | rfl | rfl | rfl | rfl | rfl | rfl | rfl | rfl <;> simp [monAt, monL] <;> omega
theorem cum_succ (f : Int) (k : Nat) (h : k < 12) : cumI f (k + 1) = cumI f k + monAt f k := by
  have h : k = 0 ∨ k = 1 ∨ k = 2 ∨ k = 3 ∨ k = 4 ∨ k = 5 ∨ k = 6 ∨ k = 7 ∨ k = 8 ∨ k = 9 ∨ k = 10 ∨ k = 11 := by omega
  rcases h with rfl | rfl | rfl | rfl | rfl | rfl | rfl | rfl | rfl | rfl | rfl | rfl <;> simp [monAt, monL, cumI] <;> omega
theorem cum_bd (f : Int) (k : Nat) (hf : 28 ≤ f ∧ f ≤ 29) (h : k ≤ 12) : 0 ≤ cumI f k ∧ cumI f k ≤ 366 := by
  have h : k = 0 ∨ k = 1 ∨ k = 2 ∨ k = 3 ∨ k = 4 ∨ k = 5 ∨ k = 6 ∨ k = 7 ∨ k = 8 ∨ k = 9 ∨ k = 10 ∨ k = 11 ∨ k = 12 := by omega
  rcases h with rfl | rfl | rfl | rfl | rfl | rfl | rfl | rfl | rfl | rfl | rfl | rfl | rfl <;> simp [monL, cumI] <;> omega
theorem cum_0 (f : Int) : cumI f 0 = 0 := rfl
theorem cum_12 (f : Int) : cumI f 12 = 337 + f := by simp [monL, cumI]; omega
theorem leap_iff (y : Int) : leapB y = true ↔ (y % 4 = 0 ∧ (y % 100 ≠ 0 ∨ y % 400 = 0)) := by
  simp [leapB]
theorem ahead_succ (y : Int) (_ : 1 ≤ y) : aheadI (y + 1) = aheadI y + 337 + febI y := by
  unfold febI
  have := leap_iff y
  split <;> rename_i hl
  · have hl := this.1 hl; unfold aheadI; omega
  · have hl : ¬ (y % 4 = 0 ∧ (y % 100 ≠ 0 ∨ y % 400 = 0)) := fun h => hl (this.2 h)
    unfold aheadI; omega
theorem ahead_mono (a b : Int) (_ : 1 ≤ a) (h : a ≤ b) : aheadI a ≤ aheadI b := by unfold aheadI; omega
theorem ahead_bd (a : Int) (h0 : 1 ≤ a) (h : a ≤ 20000) : 0 ≤ aheadI a ∧ aheadI a ≤ 8000000 := by unfold aheadI; omega
theorem ahead_guess (n : Int) (h : 0 ≤ n) : aheadI (n / 366 + 1) ≤ n := by unfold aheadI; omega
theorem ahead_max : aheadI 10000 = 3652059 := rfl

/-- the document's number -/
def refNum (y m d : Int) : Int :=
  if m - 3 < 0 then 365 * (y - 1) + (y - 1) / 4 - (y - 1) / 100 + (y - 1) / 400 + (153 * (m - 3 + 12) + 2) / 5 + d - 719469
  else 365 * y + y / 4 - y / 100 + y / 400 + (153 * (m - 3) + 2) / 5 + d - 719469
theorem num_ref (y m d : Int) (h0 : 1 ≤ y) (h1 : 1 ≤ m) (h2 : m ≤ 12) : numI y m d = refNum y m d := by
  have ha := ahead_succ y h0
  have hf := feb_bd y
  have hA : aheadI (y + 1) = 365 * y + y / 4 - y / 100 + y / 400 := by unfold aheadI; rw [Int.add_sub_cancel]
  have h : m = 1 ∨ m = 2 ∨ m = 3 ∨ m = 4 ∨ m = 5 ∨ m = 6 ∨ m = 7 ∨ m = 8 ∨ m = 9 ∨ m = 10 ∨ m = 11 ∨ m = 12 := by omega
  unfold numI refNum
  generalize febI y = f at *
  rcases h with rfl | rfl | rfl | rfl | rfl | rfl | rfl | rfl | rfl | rfl | rfl | rfl
  · rw [if_pos (by omega), show cumI f ((1 : Int).toNat - 1) = 0 from rfl]; unfold aheadI; omega
  · rw [if_pos (by omega), show cumI f ((2 : Int).toNat - 1) = 31 from rfl]; unfold aheadI; omega
  all_goals
    rw [if_neg (by omega)]
    simp [cumI, monL] at *
    omega

theorem num_bd (y m d : Int) (h : mayB y m d = true) : aheadI y - 719162 ≤ numI y m d ∧ numI y m d < aheadI (y + 1) - 719162 ∧ -719162 ≤ numI y m d ∧ numI y m d ≤ 2932896 := by
  obtain ⟨h1, h2, h3, h4, h5, h6⟩ := (may_iff y m d).1 h
  have hs := ahead_succ y h1
  have hm := ahead_mono (y + 1) 10000 (by omega) (by omega)
  have hb := ahead_bd y h1 (by omega)
  have hf := feb_bd y
  rw [len_mon y m h3 h4] at h6
  have hc := cum_succ (febI y) (m.toNat - 1) (by omega)
  have hx := cum_bd (febI y) (m.toNat - 1) hf (by omega)
  have hcm : cumI (febI y) ((m.toNat - 1) + 1) ≤ cumI (febI y) 12 := by
    have : ∀ j k : Nat, j + k ≤ 12 → cumI (febI y) j ≤ cumI (febI y) (j + k) := by
      intro j k
      induction k with
      | zero => intro _; exact Int.le_refl _
      | succ k ih =>
        intro hk
        have h1 := ih (by omega)
        have h2 := cum_succ (febI y) (j + k) (by omega)
        have h3 := mon_bd (febI y) (j + k) hf (by omega)
        rw [← Nat.add_assoc, h2]
        omega
    have := this ((m.toNat - 1) + 1) (12 - ((m.toNat - 1) + 1)) (by omega)
    rwa [show (m.toNat - 1) + 1 + (12 - ((m.toNat - 1) + 1)) = 12 by omega] at this
  rw [cum_12] at hcm
  rw [ahead_max] at hm
  unfold numI
  omega

theorem num_inj (y m d y' m' d' : Int) (h : mayB y m d = true) (h' : mayB y' m' d' = true) (e : numI y m d = numI y' m' d') : y = y' ∧ m = m' ∧ d = d' := by
  have b := num_bd y m d h
  have b' := num_bd y' m' d' h'
  obtain ⟨h1, h2, h3, h4, h5, h6⟩ := (may_iff y m d).1 h
  obtain ⟨g1, g2, g3, g4, g5, g6⟩ := (may_iff y' m' d').1 h'
  have hy : y = y' := by
    rcases Int.lt_trichotomy y y' with hl | hl | hl
    · have := ahead_mono (y + 1) y' (by omega) (by omega); omega
    · exact hl
    · have := ahead_mono (y' + 1) y (by omega) (by omega); omega
  subst hy
  unfold numI at e
  rw [len_mon _ _ h3 h4] at h6
  rw [len_mon _ _ g3 g4] at g6
  have hf := feb_bd y
  generalize febI y = f at *
  have key : ∀ j k : Nat, j < k → k ≤ 11 → cumI f j + monAt f j ≤ cumI f k := by
    intro j k hjk hk
    obtain ⟨i, rfl⟩ : ∃ i, k = j + 1 + i := ⟨k - (j + 1), by omega⟩
    clear hjk
    induction i with
    | zero => rw [Nat.add_zero, cum_succ f j (by omega)]; exact Int.le_refl _
    | succ i ih =>
      have h1 := ih (by omega)
      have h2 := cum_succ f (j + 1 + i) (by omega)
      have h3 := mon_bd f (j + 1 + i) hf (by omega)
      rw [← Nat.add_assoc, h2]
      omega
  have hm : m = m' := by
    rcases Int.lt_trichotomy m m' with hl | hl | hl
    · have := key (m.toNat - 1) (m'.toNat - 1) (by omega) (by omega); omega
    · exact hl
    · have := key (m'.toNat - 1) (m.toNat - 1) (by omega) (by omega); omega
  subst hm
  exact ⟨rfl, rfl, by omega⟩
end Go.Proofs.YtjldphpdfckjnaaDoor
