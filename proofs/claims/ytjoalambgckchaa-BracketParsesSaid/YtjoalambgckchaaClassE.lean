import Derived.Test.YtjoalambgckchaaClassD
namespace Go.Proofs.Ytjoalambgckchaa
open Go.RowKit

/-- bytes as one number, the lowest first -/
def val : List Nat → Nat
  | [] => 0
  | a :: l => a + 256 * val l
def msk (m : Nat) : Nat → Nat
  | 0 => 0
  | k + 1 => m + 256 * msk m k
theorem bit_split (a b i : Nat) (ha : a < 256) : (a + 256 * b).testBit i = if i < 8 then a.testBit i else b.testBit (i - 8) := by
  rw [Nat.add_comm]
  exact Nat.testBit_two_pow_mul_add (i := 8) b ha i
theorem and_split (a b c d : Nat) (ha : a < 256) (hc : c < 256) : (a + 256 * b) &&& (c + 256 * d) = (a &&& c) + 256 * (b &&& d) := by
  have hl : a &&& c < 256 := Nat.and_lt_two_pow (n := 8) _ hc
  apply Nat.eq_of_testBit_eq
  intro i
  rw [Nat.testBit_and, bit_split a b i ha, bit_split c d i hc, bit_split _ _ i hl, Nat.testBit_and, Nat.testBit_and]
  split <;> rfl
theorem and_low (y c t : Nat) (hc : c < 2 ^ t) : y &&& c = (y % 2 ^ t) &&& c := by
  apply Nat.eq_of_testBit_eq
  intro i
  rw [Nat.testBit_and, Nat.testBit_and, Nat.testBit_mod_two_pow]
  by_cases h : i < t
  · simp [h]
  · have : c.testBit i = false := Nat.testBit_lt_two_pow (Nat.lt_of_lt_of_le hc (Nat.pow_le_pow_right (show 0 < 2 by decide) (show t ≤ i by omega)))
    rw [this]; simp
def stepG (s m a : Nat) : Nat := (a / 2 ^ s &&& m) + (a &&& m)
theorem stepF (s m : Nat) (hs : s = 1 ∧ m = 85 ∨ s = 2 ∧ m = 51) : ∀ (l : List Nat), (∀ a ∈ l, a < 256) → (val l / 2 ^ s &&& msk m l.length) + (val l &&& msk m l.length) = val (l.map (stepG s m)) := by
  intro l
  induction l with
  | nil => intro _; simp [val, msk]
  | cons a l ih =>
    intro h
    have ha := h a (by simp)
    have ih := ih fun b hb => h b (by simp [hb])
    rw [List.map_cons, val, val, List.length_cons, msk, ← ih]
    have hm : m < 256 := by omega
    rw [and_split a (val l) m _ ha hm]
    have e1 : (a + 256 * val l) / 2 ^ s = (a / 2 ^ s + 2 ^ (8 - s) * (val l % 2 ^ s)) + 256 * (val l / 2 ^ s) := by
      rcases hs with ⟨rfl, _⟩ | ⟨rfl, _⟩ <;> simp only [Nat.reducePow, Nat.reduceSub] <;> omega
    have e2 : a / 2 ^ s + 2 ^ (8 - s) * (val l % 2 ^ s) < 256 := by
      rcases hs with ⟨rfl, _⟩ | ⟨rfl, _⟩ <;> simp only [Nat.reducePow, Nat.reduceSub] <;> omega
    rw [e1, and_split _ _ m _ e2 hm]
    have e3 : (a / 2 ^ s + 2 ^ (8 - s) * (val l % 2 ^ s)) &&& m = a / 2 ^ s &&& m := by
      rw [and_low _ m (8 - s) (by rcases hs with ⟨rfl, rfl⟩ | ⟨rfl, rfl⟩ <;> decide), and_low (a / 2 ^ s) m (8 - s) (by rcases hs with ⟨rfl, rfl⟩ | ⟨rfl, rfl⟩ <;> decide)]
      congr 1
      rw [Nat.add_mul_mod_self_left]
    rw [e3]
    unfold stepG
    omega
theorem step4 : ∀ (l : List Nat), (∀ a ∈ l, a % 16 ≤ 4 ∧ a / 16 ≤ 4) → (val l / 16 + val l) &&& msk 15 l.length = val (l.map fun a => a / 16 + a % 16) := by
  intro l
  induction l with
  | nil => intro _; simp [val, msk]
  | cons a l ih =>
    intro h
    have ha := h a (by simp)
    have hv : val l % 16 ≤ 4 := by
      cases l with
      | nil => simp [val]
      | cons b l => have := (h b (by simp)).1; simp only [val]; omega
    have ih := ih fun b hb => h b (by simp [hb])
    rw [List.map_cons, val, val, List.length_cons, msk, ← ih]
    have e1 : (a + 256 * val l) / 16 + (a + 256 * val l) = (a / 16 + a + 16 * (val l % 16)) + 256 * (val l / 16 + val l) := by omega
    rw [e1, and_split _ _ 15 _ (by omega) (by decide), and_low _ 15 4 (by decide), Nat.and_two_pow_sub_one_eq_mod _ 4]
    congr 1
    omega
def pop8 (c : Nat) : Nat := let a := stepG 2 51 (stepG 1 85 c); a / 16 + a % 16
theorem pop_facts : ∀ c, c < 256 → stepG 1 85 c < 256 ∧ stepG 2 51 (stepG 1 85 c) % 16 ≤ 4 ∧ stepG 2 51 (stepG 1 85 c) / 16 ≤ 4 := by
  have h : ((List.range 256).all fun c => decide (stepG 1 85 c < 256 ∧ stepG 2 51 (stepG 1 85 c) % 16 ≤ 4 ∧ stepG 2 51 (stepG 1 85 c) / 16 ≤ 4)) = true := by decide +kernel
  intro c hc
  exact of_decide_eq_true (List.all_eq_true.1 h c (List.mem_range.2 hc))
theorem dv (a b k : Nat) (h : a < k) : (a + k * b) / k = b := by
  rw [Nat.add_mul_div_left _ _ (by omega), Nat.div_eq_of_lt h, Nat.zero_add]
theorem sumA (e0 e1 e2 V2 V3 : Nat) (h0 : e0 ≤ 8) (y z : Nat) (hy : y = e0 + 256 * (e1 + 256 * V2)) (hV : V2 = e2 + 256 * V3) (hz : z = y + y / 256) :
    z = (e0 + e1 + 256 * (e1 + e2)) + 65536 * (V2 + V3) := by
  have a : y / 256 = e1 + 256 * V2 := by rw [hy]; exact dv _ _ _ (by omega)
  rw [hz, a, hy]
  omega
theorem sumB (A B U : Nat) (hA : A < 65536) (hU : U = B) (z z' : Nat) (hz : z = A + 65536 * U) (hz' : z' = z + z / 65536) : z' = A + B + 65536 * U := by
  have a : z / 65536 = U := by rw [hz]; exact dv _ _ _ hA
  rw [hz', a, hz]
  omega
theorem sumC (L U : Nat) (hL : L < 4294967296) (z z' : Nat) (hz : z = L + 4294967296 * U) (hz' : z' = z + z / 4294967296) : z' = L + U + 4294967296 * U := by
  have a : z / 4294967296 = U := by rw [hz]; exact dv _ _ _ hL
  rw [hz', a, hz]
  omega
theorem val_bound (l : List Nat) (h : ∀ a ∈ l, a ≤ 8) : val l * 31 ≤ 256 ^ l.length - 1 := by
  induction l with
  | nil => simp [val]
  | cons a l ih =>
    have h1 := h a (by simp)
    have h2 := ih fun b hb => h b (by simp [hb])
    rw [val, List.length_cons, Nat.pow_succ]
    have : 0 < 256 ^ l.length := Nat.pow_pos (by decide)
    omega
theorem le_two (z y k : Nat) (h : z = y + y / k) : z ≤ 2 * y := by
  have := Nat.div_le_self y k
  omega
theorem uA (a b c V W X Y : Nat) (h1 : V = a + 256 * W) (h2 : W = b + 256 * X) (h3 : X = c + 256 * Y) : V + W = (a + b + 256 * (b + c)) + 65536 * (X + Y) := by omega
theorem uB (a b c d V W X Y : Nat) (h1 : V = a + 256 * W) (h2 : W = b + 256 * X) (h3 : X = c + 256 * Y) (h4 : Y = d) : V + W + (X + Y) = (a + b + c + d) + 256 * (W + X + Y) := by omega
theorem uC (A B C M N : Nat) (h : M = C + 65536 * N) : A + (B + 65536 * M) + 65536 * (B + 65536 * M) = (A + B + 65536 * (B + C)) + 4294967296 * (M + N) := by omega
theorem uD (a b c d p q r s S T K : Nat) (h : K = S + 256 * T) :
    ((a + b + 256 * p) + (c + d + 256 * q) + 65536 * ((c + d + 256 * q) + (r + 256 * s))) + K + 4294967296 * K = (a + b + c + d + S) + 128 * (2 * (p + q) + 512 * ((c + d + 256 * q) + (r + 256 * s)) + 2 * T + 33554432 * K) := by omega
theorem sum8 (e0 e1 e2 e3 e4 e5 e6 e7 : Nat) (h : ∀ a ∈ [e0, e1, e2, e3, e4, e5, e6, e7], a ≤ 8) (y z1 z2 z3 : Nat) (hy : y = val [e0, e1, e2, e3, e4, e5, e6, e7]) (h1 : z1 = y + y / 256)
    (h2 : z2 = z1 + z1 / 65536) (h3 : z3 = z2 + z2 / 4294967296) : z3 % 128 = e0 + e1 + e2 + e3 + e4 + e5 + e6 + e7 ∧ z3 < 9223372036854775808 ∧ z2 < 9223372036854775808 ∧ z1 < 9223372036854775808 ∧ y < 9223372036854775808 := by
  have hb := val_bound _ h
  rw [← hy] at hb
  have g0 := h e0 (by simp)
  have g1 := h e1 (by simp)
  have g2 := h e2 (by simp)
  have g3 := h e3 (by simp)
  have g4 := h e4 (by simp)
  have g5 := h e5 (by simp)
  have g6 := h e6 (by simp)
  have g7 := h e7 (by simp)
  have hy8 : y * 31 ≤ 18446744073709551615 := by simpa using hb
  have q1 := le_two _ _ _ h1
  have q2 := le_two _ _ _ h2
  have q3 := le_two _ _ _ h3
  refine ⟨?_, by omega, by omega, by omega, by omega⟩
  clear q1 q2 q3 hy8 hb h
  simp only [val, Nat.mul_zero, Nat.add_zero] at hy
  have s1 := sumA e0 e1 e2 _ _ g0 y z1 hy rfl h1
  obtain ⟨V7, hV7⟩ : ∃ V, V = e7 := ⟨_, rfl⟩
  obtain ⟨V6, hV6⟩ : ∃ V, V = e6 + 256 * V7 := ⟨_, rfl⟩
  obtain ⟨V5, hV5⟩ : ∃ V, V = e5 + 256 * V6 := ⟨_, rfl⟩
  obtain ⟨V4, hV4⟩ : ∃ V, V = e4 + 256 * V5 := ⟨_, rfl⟩
  obtain ⟨V3, hV3⟩ : ∃ V, V = e3 + 256 * V4 := ⟨_, rfl⟩
  obtain ⟨V2, hV2⟩ : ∃ V, V = e2 + 256 * V3 := ⟨_, rfl⟩
  rw [← hV7, ← hV6, ← hV5, ← hV4, ← hV3, ← hV2] at s1
  have u1 := uA e2 e3 e4 V2 V3 V4 V5 hV2 hV3 hV4
  have u2 := uA e4 e5 e6 V4 V5 V6 V7 hV4 hV5 hV6
  have uK := uB e4 e5 e6 e7 V4 V5 V6 V7 hV4 hV5 hV6 hV7
  clear hV2 hV3 hV4 hV5 hV6 hV7 hy h1
  have l1 : e0 + e1 + 256 * (e1 + e2) < 65536 := by omega
  have s2 := sumB _ _ _ l1 u1 z1 z2 s1 h2
  rw [u1, uC _ _ _ _ _ u2] at s2
  have l2 : e0 + e1 + 256 * (e1 + e2) + (e2 + e3 + 256 * (e3 + e4)) + 65536 * (e2 + e3 + 256 * (e3 + e4) + (e4 + e5 + 256 * (e5 + e6))) < 4294967296 := by omega
  have s3 := sumC _ _ l2 z2 z3 s2 h3
  rw [uD e0 e1 e2 e3 (e1 + e2) (e3 + e4) (e4 + e5) (e5 + e6) (e4 + e5 + e6 + e7) (V5 + V6 + V7) _ uK] at s3
  rw [s3, Nat.add_mul_mod_self_left]
  have l3 : e0 + e1 + e2 + e3 + (e4 + e5 + e6 + e7) < 128 := by omega
  rw [Nat.mod_eq_of_lt l3]
  simp only [Nat.add_assoc]

end Go.Proofs.Ytjoalambgckchaa
