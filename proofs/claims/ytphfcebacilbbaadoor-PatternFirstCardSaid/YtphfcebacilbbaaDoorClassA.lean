import Derived.Test.YtphfcebacilbbaaDoorKit
import Derived.RegionTactic
import Derived.BigRegion
namespace Go.Proofs.YtphfcebacilbbaaDoor
open Go.RowKit

/-- the j-th word of the set of the bytes that p tells -/
def encW (p : Nat → Bool) : Nat → Nat → Nat
  | _, 0 => 0
  | j, i + 1 => encW p j i + (if p (64 * j + i) then 2 ^ i else 0)
def wordP (p : Nat → Bool) (j : Nat) : Nat := encW p j 64
theorem encW_lt (p : Nat → Bool) (j i : Nat) : encW p j i < 2 ^ i := by
  induction i with
  | zero => simp [encW]
  | succ i ih => rw [encW, Nat.pow_succ]; split <;> omega
theorem encW_bit (p : Nat → Bool) (j i n : Nat) : (encW p j i).testBit n = (decide (n < i) && p (64 * j + n)) := by
  induction i with
  | zero => simp [encW]
  | succ i ih =>
    have hlt := encW_lt p j i
    have e : encW p j (i + 1) = 2 ^ i * (if p (64 * j + i) then 1 else 0) + encW p j i := by rw [encW]; split <;> omega
    rw [e, Nat.testBit_two_pow_mul_add _ hlt, ih]
    by_cases h : n < i
    · simp [h, Nat.lt_succ_of_lt h]
    · by_cases h2 : n = i
      · subst h2
        cases hp : p (64 * j + n) <;> simp
      · have h3 : ¬ n < i + 1 := by omega
        have h4 : 0 < n - i := by omega
        simp only [h, h3, if_false, decide_false, Bool.false_and]
        cases hp : p (64 * j + i) with
        | true =>
          simp only [if_true, Bool.eq_false_iff]
          intro hh
          have := Nat.testBit_one_eq_true_iff_self_eq_zero.1 hh
          omega
        | false => simp
theorem word_bit (p : Nat → Bool) (j n : Nat) : (wordP p j).testBit n = (decide (n < 64) && p (64 * j + n)) := encW_bit p j 64 n
theorem word_lt (p : Nat → Bool) (j : Nat) : wordP p j < 18446744073709551616 := encW_lt p j 64
theorem word_ext (x : Nat) (p : Nat → Bool) (j : Nat) (hx : x < 18446744073709551616) (h : ∀ n, n < 64 → x.testBit n = p (64 * j + n)) : x = wordP p j := by
  apply Nat.eq_of_testBit_eq
  intro n
  rw [word_bit]
  by_cases hn : n < 64
  · simp [hn, h n hn]
  · have : x < 2 ^ n := Nat.lt_of_lt_of_le hx (Nat.pow_le_pow_right (show 0 < 2 by decide) (show 64 ≤ n by omega))
    simp [hn, Nat.testBit_lt_two_pow this]

def SetV (p : Nat → Bool) : Value := .agg #[.int .u64 (wordP p 0), .int .u64 (wordP p 1), .int .u64 (wordP p 2), .int .u64 (wordP p 3)]
@[go_sem] theorem SetV_def (p : Nat → Bool) : SetV p = .agg #[.int .u64 (wordP p 0), .int .u64 (wordP p 1), .int .u64 (wordP p 2), .int .u64 (wordP p 3)] := rfl
def SetAt (w : World) (g : Nat) (p : Nat → Bool) : Prop := ∀ j, j < 4 → w.cell? ⟨g, j, none⟩ = some (.int .u64 (wordP p j)) ∧ w.frozen? ⟨g, j, none⟩ = false
def insP (p : Nat → Bool) (b : Nat) : Nat → Bool := fun n => p n || n == b

theorem ins_same (p : Nat → Bool) (b j : Nat) (h : j ≠ b / 64) : wordP (insP p b) j = wordP p j := by
  symm
  refine word_ext _ _ _ (word_lt p j) fun n hn => ?_
  rw [word_bit]
  have h2 : (64 * j + n == b) = false := beq_eq_false_iff_ne.2 (by omega)
  simp only [hn, decide_true, Bool.true_and, insP, h2, Bool.or_false]
theorem ins_word (p : Nat → Bool) (b : Nat) : bits .or .u64 (wordP p (b / 64) : Int) (IntKind.u64.wrap (2 ^ (b % 64))) = (wordP (insP p b) (b / 64) : Int) := by
  have hk : 2 ^ (b % 64) < 18446744073709551616 := Nat.lt_of_lt_of_eq (Nat.pow_lt_pow_right (show 1 < 2 by decide) (show b % 64 < 64 by omega)) (by decide)
  have e : IntKind.u64.wrap (2 ^ (b % 64)) = ((2 ^ (b % 64) : Nat) : Int) := by
    have e2 : (2 : Int) ^ (b % 64) = ((2 ^ (b % 64) : Nat) : Int) := by rw [Int.natCast_pow]; rfl
    rw [e2]
    clear e2
    generalize 2 ^ (b % 64) = x at hk ⊢
    exact IntWalk.u64_in _ ⟨by omega, by omega⟩
  rw [e, u64_or_nat _ _ (word_lt p _) hk]
  congr 1
  refine word_ext _ _ _ (Nat.or_lt_two_pow (n := 64) (word_lt p _) hk) fun n hn => ?_
  rw [Nat.testBit_or, word_bit, Nat.testBit_two_pow]
  have : decide (b % 64 = n) = (64 * (b / 64) + n == b) := by rw [Bool.eq_iff_iff]; simp only [decide_eq_true_eq, beq_iff_eq]; omega
  rw [this]
  simp only [hn, decide_true, Bool.true_and, insP]
theorem cell_set (w : World) (g i j : Nat) (v x : Value) (h : w.cell? ⟨g, j, none⟩ = some x) : (w.setCell ⟨g, i, none⟩ v).cell? ⟨g, j, none⟩ = some (if j = i then v else x) := by
  by_cases hj : j = i
  · subst hj
    rw [if_pos rfl, World.cell?_setCell_same w _ _ h]
  · rw [if_neg hj, World.cell?_setCell_other w _ _ _ (fun e => hj (by injection e with _ e2 _; exact e2.symm)), h]

/-- what a call that writes into block g alone leaves -/
structure Only (g : Nat) (w w' : World) : Prop where
  os : w'.os = w.os
  tape : w'.tape = w.tape
  output : w'.output = w.output
  size : w'.heap.size = w.heap.size
  block : ∀ k, k ≠ g → w'.heap[k]? = w.heap[k]?
theorem Only.below {g B : Nat} {w w' : World} (h : Only g w w') (hB : B ≤ g) : Below B w w' := ⟨h.os, h.tape, h.output, by rw [h.size]; exact Nat.le_refl _, fun k hk => h.block k (by omega)⟩
theorem Only.cell {g : Nat} {w w' : World} (h : Only g w w') {a : Addr} (ha : a.block ≠ g) : w'.cell? a = w.cell? a := World.cell?_of_block (w := w) (h.block _ ha)

theorem add_any (g : Nat) (p : Nat → Bool) (b : UInt8) (w : World) (h : SetAt w g p) :
    Calls Tryd.prog 72 #[.pointer (some ⟨g, 0, none⟩), .int .u8 b.toNat] w fun e w' => e = .returned (.tuple #[]) ∧ SetAt w' g (insP p b.toNat) ∧ Only g w w' := by
  have hb := b.toNat_lt
  have hj : b.toNat / 64 < 4 := by omega
  obtain ⟨h1, h2⟩ := h _ hj
  have hor := ins_word p b.toNat
  go_enter Tryd.func72, Tryd.ntmps72
  go_wp2
  go_region
  go_end0
  refine ⟨rfl, ?_, ⟨rfl, rfl, rfl, by simp [World.setCell], fun k hk => Below.heap_setCell _ _ _ _ hk⟩⟩
  intro j hj2
  obtain ⟨g1, g2⟩ := h j hj2
  refine ⟨?_, ?_⟩
  · refine (cell_set _ g (b.toNat / 64) j _ _ (by simpa using g1)).trans ?_
    congr 1
    split
    · rename_i e; subst e; rfl
    · rename_i e; rw [ins_same p _ j e]
  · show (w.setCell _ _).frozen? _ = false
    rw [World.frozen?_setCell]
    exact g2
theorem add_args (g : Nat) (p : Nat → Bool) (x : Int) (n : Nat) (w : World) (hx : x = n) (hn : n < 256) (h : SetAt w g p) :
    Calls Tryd.prog 72 #[.pointer (some ⟨g, 0, none⟩), .int .u8 x] w fun e w' => e = .returned (.tuple #[]) ∧ SetAt w' g (insP p n) ∧ Only g w w' := by
  have e : (UInt8.ofNat n).toNat = n := by rw [UInt8.toNat_ofNat', Nat.mod_eq_of_lt hn]
  have := add_any g p (UInt8.ofNat n) w h
  rw [e] at this
  subst hx
  exact this
end Go.Proofs.YtphfcebacilbbaaDoor
