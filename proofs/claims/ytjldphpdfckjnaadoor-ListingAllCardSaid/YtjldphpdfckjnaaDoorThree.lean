import Derived.Test.YtjldphpdfckjnaaDoorQuote
namespace Go.Proofs.YtjldphpdfckjnaaDoor
open Go.RowKit

def bitI (m : Int) (n : Nat) : Bool := decide (m / 2 ^ n % 2 = 1)
theorem and1 (m : Int) : bits .and .i64 m 1 = m % 2 := by
  have h1 : (BitVec.ofInt 64 1).toNat = 2 ^ 1 - 1 := by decide
  have key : (BitVec.ofInt 64 m &&& BitVec.ofInt 64 1).toNat = (m % ((2 ^ 64 : Nat) : Int)).toNat % 2 ^ 1 := by
    rw [BitVec.toNat_and, BitVec.toNat_ofInt, h1, Nat.and_two_pow_sub_one_eq_mod]
  show IntKind.i64.wrap ((BitVec.ofInt 64 m &&& BitVec.ofInt 64 1).toNat : Nat) = m % 2
  rw [key, IntKind.wrap_i64]
  omega
theorem and2 (m : Int) : bits .and .i64 m 2 = m / 2 % 2 * 2 := by
  have h1 : (BitVec.ofInt 64 2).toNat = 2 ^ 1 := by decide
  have key : (BitVec.ofInt 64 m &&& BitVec.ofInt 64 2).toNat = (m % ((2 ^ 64 : Nat) : Int)).toNat / 2 ^ 1 % 2 * 2 ^ 1 := by
    rw [BitVec.toNat_and, BitVec.toNat_ofInt, h1, nat_bit]
  show IntKind.i64.wrap ((BitVec.ofInt 64 m &&& BitVec.ofInt 64 2).toNat : Nat) = _
  rw [key, IntKind.wrap_i64]
  omega
theorem and4 (m : Int) : bits .and .i64 m 4 = m / 4 % 2 * 4 := by
  have h1 : (BitVec.ofInt 64 4).toNat = 2 ^ 2 := by decide
  have key : (BitVec.ofInt 64 m &&& BitVec.ofInt 64 4).toNat = (m % ((2 ^ 64 : Nat) : Int)).toNat / 2 ^ 2 % 2 * 2 ^ 2 := by
    rw [BitVec.toNat_and, BitVec.toNat_ofInt, h1, nat_bit]
  show IntKind.i64.wrap ((BitVec.ofInt 64 m &&& BitVec.ofInt 64 4).toNat : Nat) = _
  rw [key, IntKind.wrap_i64]
  omega

def threeL (m : Int) (sp : Bool) (wi : UInt8) : List UInt8 :=
  [if bitI m 2 then 114 else 45, if bitI m 1 then 119 else 45, if sp then (if bitI m 0 then wi else wi - 32) else if bitI m 0 then 120 else 45]

theorem cells3 (w : World) (g : Nat) (a b c : UInt8) (h0 : w.cell? ⟨g, 0, none⟩ = some (bv a)) (h1 : w.cell? ⟨g, 1, none⟩ = some (bv b)) (h2 : w.cell? ⟨g, 2, none⟩ = some (bv c)) : CellsB w g [a, b, c] :=
  CellsB.mk _ _ _ fun j hj => match j, hj with | 0, _ => h0 | 1, _ => h1 | 2, _ => h2

set_option maxHeartbeats 4000000 in
theorem three_any (m : Int) (sp : Bool) (wi : UInt8) (wn : Int) (w : World) (hw : (wi = 115 ∧ wn = 115) ∨ (wi = 116 ∧ wn = 116)) :
    Calls Tryd.prog 75 #[.int .i64 m, .bool sp, .int .u8 wn] w fun e w' => e = .returned (.slice (some ⟨w.heap.size, 0, none⟩) 3 3) ∧ CellsB w' w.heap.size (threeL m sp wi) ∧ Below w.heap.size w w' := by
  have e2 : (bits .and .i64 m 4 != 0) = bitI m 2 := by rw [and4, Bool.eq_iff_iff]; simp [bitI]; omega
  have e1 : (bits .and .i64 m 2 != 0) = bitI m 1 := by rw [and2, Bool.eq_iff_iff]; simp [bitI]; omega
  have e0 : (bits .and .i64 m 1 != 0) = bitI m 0 := by rw [and1, Bool.eq_iff_iff]; simp [bitI]; omega
  rcases hw with ⟨rfl, rfl⟩ | ⟨rfl, rfl⟩ <;> cases h2 : bitI m 2 <;> cases h1 : bitI m 1 <;> cases h0 : bitI m 0 <;> cases sp
  all_goals (rw [h2] at e2; rw [h1] at e1; rw [h0] at e0)
  all_goals (have H2 := Lib.hid h2; have H1 := Lib.hid h1; have H0 := Lib.hid h0; clear h2 h1 h0)
  all_goals
    go_enter Tryd.func75, Tryd.ntmps75
    go_wp2
    go_ret
    refine ⟨rfl, ?_, (Below.refl _ _).alloc (Nat.le_refl _) _⟩
    simp only [threeL, H2.out, H1.out, H0.out]
    exact cells3 _ _ _ _ _ (World.cell?_alloc_mark _ _ _ _ _) (World.cell?_alloc_mark _ _ _ _ _) (World.cell?_alloc_mark _ _ _ _ _)
end Go.Proofs.YtjldphpdfckjnaaDoor
