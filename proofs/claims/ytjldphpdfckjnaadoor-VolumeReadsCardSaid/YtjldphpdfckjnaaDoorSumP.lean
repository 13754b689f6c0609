/- Sums of blocks: the plain law. -/
import Derived.Test.YtjldphpdfckjnaaDoorOctI
namespace Go.Proofs.YtjldphpdfckjnaaDoor
open Go.RowKit

/-- a part of a block -/
def fldL (s : List UInt8) (a n : Nat) : List UInt8 := (s.drop a).take n
theorem fld_ext (s : List UInt8) (a b : Nat) : (S s).extract a b = S (fldL s a (b - a)) := S_extract s a b
theorem fld_len (s : List UInt8) (a n : Nat) (h : a + n ≤ s.length) : (fldL s a n).length = n := by
  unfold fldL
  rw [List.length_take, List.length_drop]
  omega
def byU (i : Nat) (b : UInt8) : Nat := if 148 ≤ i ∧ i < 156 then 32 else b.toNat
def byS (i : Nat) (b : UInt8) : Int := if 148 ≤ i ∧ i < 156 then 32 else if 128 ≤ b.toNat then (b.toNat : Int) - 256 else b.toNat
def sumU (s : List UInt8) : Nat → Nat
  | 0 => 0
  | k + 1 => sumU s k + byU k (s.getD k 0)
def sumS (s : List UInt8) : Nat → Int
  | 0 => 0
  | k + 1 => sumS s k + byS k (s.getD k 0)
theorem byU_le (i : Nat) (b : UInt8) : byU i b ≤ 255 := by
  have := b.toNat_lt
  unfold byU
  split <;> omega
theorem byS_le (i : Nat) (b : UInt8) : -128 ≤ byS i b ∧ byS i b ≤ 127 := by
  have := b.toNat_lt
  unfold byS
  split
  · omega
  · split <;> omega
theorem sumU_le (s : List UInt8) : ∀ k, sumU s k ≤ 255 * k
  | 0 => Nat.le_refl _
  | k + 1 => by
    have h1 := sumU_le s k
    have h2 := byU_le k (s.getD k 0)
    rw [sumU]; omega
theorem sumS_le (s : List UInt8) : ∀ k : Nat, -(128 * (k : Int)) ≤ sumS s k ∧ sumS s k ≤ 127 * k
  | 0 => ⟨Int.le_refl _, Int.le_refl _⟩
  | k + 1 => by
    have h1 := sumS_le s k
    have h2 := byS_le k (s.getD k 0)
    rw [sumS]; omega
theorem sumU_congr (s t : List UInt8) : ∀ k, (∀ i, i < k → (148 ≤ i ∧ i < 156) ∨ s.getD i 0 = t.getD i 0) → sumU s k = sumU t k
  | 0, _ => rfl
  | k + 1, h => by
    rw [sumU, sumU, sumU_congr s t k fun i hi => h i (by omega)]
    rcases h k (by omega) with h | h
    · unfold byU; rw [if_pos h, if_pos h]
    · rw [h]
/-- is a block's sum that of its bytes? -/
def rightL (s : List UInt8) : Bool :=
  decide (s.length = 512) && decide ((s.getD 148 0).toNat < 128) && decide ((readO (fldL s 148 8)).2 = 0) &&
    (decide ((readO (fldL s 148 8)).1 = (sumU s 512 : Int)) || decide ((readO (fldL s 148 8)).1 = sumS s 512))
/-- a block with its sum -/
def sealL (s : List UInt8) : List UInt8 := s.take 148 ++ octL 6 (sumU s 512) [0] ++ [32] ++ s.drop 156

/-! ### Digits, read again -/
theorem dig_nat (d : Nat) (h : d < 8) : (UInt8.ofNat (48 + d)).toNat = 48 + d := by
  rw [UInt8.toNat_ofNat', Nat.mod_eq_of_lt (by omega)]
theorem octO_digit (a v d : Nat) (r : List UInt8) (ha : a ≠ 2) (h : d < 8) : octO a v (UInt8.ofNat (48 + d) :: r) = octO 1 (v * 8 + d) r := by
  rw [octO, dig_nat d h, if_pos ⟨by omega, by omega, ha⟩]
  congr 2
  omega
theorem octO_octL : ∀ (m a v n : Nat) (t : List UInt8), a ≠ 2 → n < 8 ^ (m + 1) → octO a v (octL (m + 1) n t) = octO 1 (v * 8 ^ (m + 1) + n) t
  | 0, a, v, n, t, ha, hn => by
    have hn8 : n < 8 := by simpa using hn
    rw [octL, octL, octO_digit a v (n % 8) t ha (Nat.mod_lt _ (by decide)), Nat.mod_eq_of_lt hn8]
  | m + 1, a, v, n, t, ha, hn => by
    have hd : n / 8 < 8 ^ (m + 1) := by
      rw [Nat.div_lt_iff_lt_mul (by decide)]
      rw [Nat.pow_succ] at hn; exact hn
    rw [octL, octO_octL m a v (n / 8) _ ha hd, octO_digit 1 _ (n % 8) t (by decide) (Nat.mod_lt _ (by decide))]
    congr 1
    rw [Nat.pow_succ 8 (m + 1), ← Nat.mul_assoc, Nat.add_mul]
    have := Nat.div_add_mod n 8
    omega
theorem octL_head : ∀ (m n : Nat) (t : List UInt8), ∃ d r, octL (m + 1) n t = d :: r ∧ 48 ≤ d.toNat ∧ d.toNat ≤ 55
  | 0, n, t => ⟨_, _, rfl, by rw [dig_nat _ (Nat.mod_lt _ (by decide))]; omega, by rw [dig_nat _ (Nat.mod_lt _ (by decide))]; have := Nat.mod_lt n (show 0 < 8 by decide); omega⟩
  | m + 1, n, t => octL_head m (n / 8) _
theorem readO_octL (m n : Nat) (t : List UInt8) (hm : m + 1 + t.length ≤ 12) (h0 : 1 ≤ m + t.length) (hn : n < 8 ^ (m + 1)) (ht : ∀ v, octO 1 v t = some v) :
    readO (octL (m + 1) n t) = ((n : Int), 0) := by
  obtain ⟨d, r, he, h1, h2⟩ := octL_head m n t
  have hl := octL_len (m + 1) n t
  have hf : firstO (octL (m + 1) n t) = d.toNat := by rw [he]; rfl
  unfold readO
  rw [if_neg (by rw [hl]; omega), if_neg (by rw [hf]; omega), if_neg (by rw [hf]; omega), octO_octL m 0 0 n t (by decide) hn, ht]
  simp
theorem octO_nul (v : Nat) : octO 1 v [0] = some v := by simp [octO]
theorem octO_nulsp (v : Nat) : octO 1 v [0, 32] = some v := by simp [octO]
theorem octL_app : ∀ (m n : Nat) (t u : List UInt8), octL m n (t ++ u) = octL m n t ++ u
  | 0, _, _, _ => rfl
  | m + 1, n, t, u => by rw [octL, octL, ← octL_app m (n / 8)]; rfl
theorem readO_field (m n : Nat) (hm : 1 ≤ m) (h11 : m ≤ 11) (hn : n < 8 ^ m) : readO (octL m n [0]) = ((n : Int), 0) := by
  obtain ⟨k, rfl⟩ : ∃ k, m = k + 1 := ⟨m - 1, by omega⟩
  exact readO_octL k n [0] (by simp; omega) (by simp) hn octO_nul

/-! ### A sealed block -/
theorem seal_len (s : List UInt8) (h : s.length = 512) : (sealL s).length = 512 := by
  unfold sealL
  rw [List.length_append, List.length_append, List.length_append, octL_len, List.length_take, List.length_drop]
  simp; omega
theorem seal_eq (s : List UInt8) : sealL s = s.take 148 ++ (octL 6 (sumU s 512) [0, 32] ++ s.drop 156) := by
  unfold sealL
  rw [show ([0, 32] : List UInt8) = [0] ++ [32] from rfl, octL_app]
  simp [List.append_assoc]
theorem getD_app_l (A B : List UInt8) (i : Nat) (h : i < A.length) : (A ++ B).getD i 0 = A.getD i 0 := by
  simp only [List.getD_eq_getElem?_getD, List.getElem?_append_left h]
theorem getD_app_r (A B : List UInt8) (i : Nat) (h : A.length ≤ i) : (A ++ B).getD i 0 = B.getD (i - A.length) 0 := by
  simp only [List.getD_eq_getElem?_getD, List.getElem?_append_right h]
theorem seal_get (s : List UInt8) (h : s.length = 512) (i : Nat) (hi : i < 148 ∨ 156 ≤ i) : (sealL s).getD i 0 = s.getD i 0 := by
  rw [seal_eq]
  have e1 : (s.take 148).length = 148 := by rw [List.length_take]; omega
  rcases hi with hi | hi
  · rw [getD_app_l _ _ _ (by omega)]
    simp only [List.getD_eq_getElem?_getD]
    rw [List.getElem?_take_of_lt hi]
  · rw [getD_app_r _ _ _ (by omega), getD_app_r _ _ _ (by rw [octL_len]; simp; omega)]
    have e2 : ([0, 32] : List UInt8).length = 2 := rfl
    have e3 : 156 + (i - 148 - (6 + 2)) = i := by omega
    rw [e1, octL_len, e2]
    simp only [List.getD_eq_getElem?_getD, List.getElem?_drop]
    rw [e3]
theorem seal_sum (s : List UInt8) (h : s.length = 512) : sumU (sealL s) 512 = sumU s 512 := sumU_congr _ _ _ fun i _ => by
  by_cases hi : i < 148 ∨ 156 ≤ i
  · exact .inr (seal_get s h i hi)
  · exact .inl (by omega)
theorem fld_mid (A P B : List UInt8) (a n : Nat) (ha : A.length = a) (hp : P.length = n) : fldL (A ++ (P ++ B)) a n = P := by
  subst ha hp
  unfold fldL
  rw [List.drop_left, List.take_left]
theorem getD_fld (s : List UInt8) (a n i : Nat) (hi : i < n) : (fldL s a n).getD i 0 = s.getD (a + i) 0 := by
  unfold fldL
  simp only [List.getD_eq_getElem?_getD]
  rw [List.getElem?_take_of_lt hi, List.getElem?_drop]
theorem seal_field (s : List UInt8) (h : s.length = 512) : fldL (sealL s) 148 8 = octL 6 (sumU s 512) [0, 32] := by
  rw [seal_eq]
  exact fld_mid _ _ _ _ _ (by rw [List.length_take]; omega) (by rw [octL_len]; rfl)
theorem ext_fld (s t : List UInt8) (a n : Nat) (h1 : a + n ≤ s.length) (h2 : a + n ≤ t.length) (h : ∀ i, a ≤ i → i < a + n → s.getD i 0 = t.getD i 0) : fldL s a n = fldL t a n := by
  apply List.ext_getElem
  · rw [fld_len _ _ _ h1, fld_len _ _ _ h2]
  · intro i g1 g2
    rw [fld_len _ _ _ h1] at g1
    have := h (a + i) (by omega) (by omega)
    rw [← getD_fld s a n i g1, ← getD_fld t a n i g1] at this
    rw [List.getD_eq_getElem?_getD, List.getD_eq_getElem?_getD, List.getElem?_eq_getElem (by rw [fld_len _ _ _ h1]; exact g1), List.getElem?_eq_getElem (by rw [fld_len _ _ _ h2]; exact g1)] at this
    exact this
theorem seal_fld (s : List UInt8) (h : s.length = 512) (a n : Nat) (hn : a + n ≤ 512) (hd : a + n ≤ 148 ∨ 156 ≤ a) : fldL (sealL s) a n = fldL s a n :=
  ext_fld _ _ _ _ (by rw [seal_len s h]; exact hn) (by rw [h]; exact hn) fun i h1 h2 => seal_get s h i (by omega)
theorem seal_right (s : List UInt8) (h : s.length = 512) : rightL (sealL s) = true := by
  have hs : sumU s 512 < 262144 := by have := sumU_le s 512; omega
  have hr : readO (fldL (sealL s) 148 8) = ((sumU s 512 : Int), 0) := by
    rw [seal_field s h]
    exact readO_octL 5 _ _ (by decide) (by decide) hs octO_nulsp
  have hg : ((sealL s).getD 148 0).toNat < 128 := by
    have e := getD_fld (sealL s) 148 8 0 (by decide)
    rw [Nat.add_zero] at e
    rw [← e, seal_field s h]
    obtain ⟨d, r, he, h1, h2⟩ := octL_head 5 (sumU s 512) [0, 32]
    rw [he]
    show d.toNat < 128
    omega
  unfold rightL
  rw [hr, seal_len s h, seal_sum s h, decide_eq_true hg]
  simp
end Go.Proofs.YtjldphpdfckjnaaDoor
