import Derived.Test.YtjldphpdfckjnaaDoorParser
import Derived.Test.YtjldphpdfckjnaaDoorRrights
namespace Go.Proofs.YtjldphpdfckjnaaDoor
open Go.RowKit

theorem set1 (b : Bool) : setB (if b then 114 else 45) = b := by cases b <;> rfl
theorem set2 (b : Bool) : setB (if b then 119 else 45) = b := by cases b <;> rfl
theorem set3 (a b : Bool) : setB (if a then (if b then 115 else 115 - 32) else if b then 120 else 45) = b := by cases a <;> cases b <;> rfl
theorem set4 (a b : Bool) : setB (if a then (if b then 116 else 116 - 32) else if b then 120 else 45) = b := by cases a <;> cases b <;> rfl
theorem spe3 (a b : Bool) : spB (if a then (if b then 115 else 115 - 32) else if b then 120 else 45) = a := by cases a <;> cases b <;> rfl
theorem spe4 (a b : Bool) : spB (if a then (if b then 116 else 116 - 32) else if b then 120 else 45) = a := by cases a <;> cases b <;> rfl

theorem bit_mod (m : Int) (n : Nat) (h : n < 12) : bitI (m % 4096) n = bitI m n := by
  have e (a b : Int) (h : a % 2 = b % 2) : decide (a % 2 = 1) = decide (b % 2 = 1) := by rw [h]
  unfold bitI
  refine e _ _ ?_
  obtain rfl | rfl | rfl | rfl | rfl | rfl | rfl | rfl | rfl | rfl | rfl | rfl : n = 0 ∨ n = 1 ∨ n = 2 ∨ n = 3 ∨ n = 4 ∨ n = 5 ∨ n = 6 ∨ n = 7 ∨ n = 8 ∨ n = 9 ∨ n = 10 ∨ n = 11 := by omega
  all_goals (simp only [Int.reducePow]; omega)
theorem rights_mod (m : Int) (k : UInt8) : rightsL (m % 4096) k = rightsL m k := by
  have e6 (x : Int) (n : Nat) : bitI (x / 64) n = bitI x (6 + n) := bit_div x 6 n
  have e3 (x : Int) (n : Nat) : bitI (x / 8) n = bitI x (3 + n) := bit_div x 3 n
  simp only [rightsL, threeL, e6, e3, Nat.reduceAdd]
  simp only [bit_mod m _ (by decide : 0 < 12), bit_mod m _ (by decide : 1 < 12), bit_mod m _ (by decide : 2 < 12), bit_mod m _ (by decide : 3 < 12), bit_mod m _ (by decide : 4 < 12), bit_mod m _ (by decide : 5 < 12),
    bit_mod m _ (by decide : 6 < 12), bit_mod m _ (by decide : 7 < 12), bit_mod m _ (by decide : 8 < 12), bit_mod m _ (by decide : 9 < 12), bit_mod m _ (by decide : 10 < 12), bit_mod m _ (by decide : 11 < 12)]

def bitN (m : Int) (n : Nat) : Nat := if bitI m n then 1 else 0
theorem bitN_val (m : Int) (n : Nat) : (bitN m n : Int) = m / 2 ^ n % 2 := by
  unfold bitN bitI
  by_cases h : m / 2 ^ n % 2 = 1
  · simp [h]
  · have := Int.emod_two_eq (m / 2 ^ n)
    simp [h]
    omega
theorem mode_sum (m : Int) : ((2 * (2 * (2 * (2 * (2 * (2 * (2 * (2 * (2 * 0 + bitN m 8) + bitN m 7) + bitN m 6) + bitN m 5) + bitN m 4) + bitN m 3) + bitN m 2) + bitN m 1) + bitN m 0
    + (2048 * bitN m 11 + 1024 * bitN m 10 + 512 * bitN m 9) : Nat) : Int) = m % 4096 := by
  have h0 := bitN_val m 0
  have h1 := bitN_val m 1
  have h2 := bitN_val m 2
  have h3 := bitN_val m 3
  have h4 := bitN_val m 4
  have h5 := bitN_val m 5
  have h6 := bitN_val m 6
  have h7 := bitN_val m 7
  have h8 := bitN_val m 8
  have h9 := bitN_val m 9
  have h10 := bitN_val m 10
  have h11 := bitN_val m 11
  simp only [Int.reducePow] at *
  generalize bitN m 0 = b0 at *; generalize bitN m 1 = b1 at *; generalize bitN m 2 = b2 at *; generalize bitN m 3 = b3 at *; generalize bitN m 4 = b4 at *; generalize bitN m 5 = b5 at *
  generalize bitN m 6 = b6 at *; generalize bitN m 7 = b7 at *; generalize bitN m 8 = b8 at *; generalize bitN m 9 = b9 at *; generalize bitN m 10 = b10 at *; generalize bitN m 11 = b11 at *
  omega
theorem modeOf_rights (m : Int) (k : UInt8) : (modeOf (rightsL m k) : Int) = m % 4096 := by
  have e6 (n : Nat) : bitI (m / 64) n = bitI m (6 + n) := bit_div m 6 n
  have e3 (n : Nat) : bitI (m / 8) n = bitI m (3 + n) := bit_div m 3 n
  have hb (b : Bool) (x : Nat) : (if b then x else 0) = x * (if b then 1 else 0) := by cases b <;> simp
  rw [← mode_sum]
  simp only [modeOf, m9, spV, rightsL, threeL, e6, e3, Nat.reduceAdd, List.cons_append, List.nil_append, List.getD_cons_zero, List.getD_cons_succ, set1, set2, set3, set4, spe3, spe4, bitN]
  rw [hb _ 2048, hb _ 1024, hb _ 512]
theorem kind_sign (k : UInt8) : Lib.indexByte [45, 104, 108, 99, 98, 100, 112, 67] (signB k) = if 48 ≤ k.toNat ∧ k.toNat ≤ 55 then (k.toNat : Int) - 48 else -1 := by
  have := all_bytes (fun k => decide (Lib.indexByte [45, 104, 108, 99, 98, 100, 112, 67] (signB k) = if 48 ≤ k.toNat ∧ k.toNat ≤ 55 then (k.toNat : Int) - 48 else -1)) (by decide +kernel) k
  exact of_decide_eq_true this
theorem prF_rights (m : Int) (k : UInt8) : prF (rightsL m k) = if 48 ≤ k.toNat ∧ k.toNat ≤ 55 then (m % 4096, k, 0) else (0, 0, 2) := by
  have hl : (rightsL m k).length = 10 := by simp [rightsL, threeL]
  have hk : kindOf (rightsL m k) = if 48 ≤ k.toNat ∧ k.toNat ≤ 55 then (k.toNat : Int) - 48 else -1 := kind_sign k
  have hm := modeOf_rights m k
  unfold prF
  rw [if_neg (by rw [hl]; simp), hk, hm]
  by_cases h : 48 ≤ k.toNat ∧ k.toNat ≤ 55
  · have e : byteI (48 + ((k.toNat : Int) - 48)) = k := by rw [show (48 + ((k.toNat : Int) - 48)) = (k.toNat : Int) from by omega, byteI_of]
    rw [if_pos h, if_neg (by omega), e, rights_mod, if_pos rfl, if_pos h]
  · rw [if_neg h, if_pos (by decide), if_neg h]
theorem prF_cases (s : List UInt8) : ((prF s).2.2 = 0 ∧ 0 ≤ (prF s).1 ∧ (prF s).1 ≤ 4095 ∧ rightsL (prF s).1 (prF s).2.1 = s) ∨ prF s = (0, 0, 2) := by
  by_cases h1 : s.length ≠ 10
  · exact .inr (by rw [prF, if_pos h1])
  by_cases h2 : kindOf s < 0
  · exact .inr (by rw [prF, if_neg h1, if_pos h2])
  by_cases h3 : rightsL (modeOf s) (byteI (48 + kindOf s)) = s
  · have e : prF s = ((modeOf s : Int), byteI (48 + kindOf s), 0) := by rw [prF, if_neg h1, if_neg h2, if_pos h3]
    have hm := m9_lt s 9
    have : spV s 3 ≤ 3584 := by simp only [spV]; generalize spB (s.getD 3 0) = x; generalize spB (s.getD 6 0) = y; generalize spB (s.getD 9 0) = z; cases x <;> cases y <;> cases z <;> simp
    refine .inl ⟨by rw [e], by rw [e]; show 0 ≤ (modeOf s : Int); omega, by rw [e]; show (modeOf s : Int) ≤ 4095; unfold modeOf; omega, by rw [e]; exact h3⟩
  · exact .inr (by rw [prF, if_neg h1, if_neg h2, if_neg h3])
end Go.Proofs.YtjldphpdfckjnaaDoor
