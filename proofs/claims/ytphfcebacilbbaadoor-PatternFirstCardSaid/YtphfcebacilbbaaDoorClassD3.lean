/- A letter's other case. -/
import Derived.Test.YtphfcebacilbbaaDoorClassD
namespace Go.Proofs.YtphfcebacilbbaaDoor
open Go.RowKit

def otherB (b : UInt8) : UInt8 := if 65 ≤ b.toNat ∧ b.toNat ≤ 90 then b + 32 else if 97 ≤ b.toNat ∧ b.toNat ≤ 122 then b - 32 else b
def letB (b : UInt8) : Bool := decide (65 ≤ b.toNat ∧ b.toNat ≤ 90 ∨ 97 ≤ b.toNat ∧ b.toNat ≤ 122)
theorem other_facts (b : UInt8) : (letB b = true ∧ decide ((97 : Int) ≤ bits .or .u8 (b.toNat : Int) 32) = true ∧ decide (bits .or .u8 (b.toNat : Int) 32 ≤ 122) = true ∧ bits .xor .u8 (b.toNat : Int) 32 = ((otherB b).toNat : Int)) ∨
    (letB b = false ∧ otherB b = b ∧ ((bits .or .u8 (b.toNat : Int) 32) < 97 ∨ 122 < bits .or .u8 (b.toNat : Int) 32)) := by
  have := all_bytes (fun b => decide ((letB b = true ∧ decide ((97 : Int) ≤ bits .or .u8 (b.toNat : Int) 32) = true ∧ decide (bits .or .u8 (b.toNat : Int) 32 ≤ 122) = true ∧ bits .xor .u8 (b.toNat : Int) 32 = ((otherB b).toNat : Int)) ∨
    (letB b = false ∧ otherB b = b ∧ ((bits .or .u8 (b.toNat : Int) 32) < 97 ∨ 122 < bits .or .u8 (b.toNat : Int) 32)))) (by decide +kernel) b
  exact of_decide_eq_true this
theorem other_any (b : UInt8) (w : World) :
    Calls Tryd.prog 42 #[.int .u8 b.toNat] w fun e w' => e = .returned (.int .u8 (otherB b).toNat) ∧ w = w' := by
  rcases other_facts b with ⟨_, h1, h2, h3⟩ | ⟨_, h1, h2⟩
  · have g1 := of_decide_eq_true h1
    have g2 := of_decide_eq_true h2
    go_enter Tryd.func42, Tryd.ntmps42
    go_wp2
    go_ret
    exact ⟨rfl, rfl⟩
  · have H1 := Lib.hid h1
    clear h1
    rcases h2 with h2 | h2
    all_goals
      go_enter Tryd.func42, Tryd.ntmps42
      go_wp2
      go_ret
      exact ⟨by rw [H1.out]; rfl, rfl⟩
theorem rother_facts (b : UInt8) : (65 ≤ (b.toNat : Int) ∧ (b.toNat : Int) ≤ 90 ∧ ((otherB b).toNat : Int) = (b.toNat : Int) + 32) ∨ (97 ≤ (b.toNat : Int) ∧ (b.toNat : Int) ≤ 122 ∧ ((otherB b).toNat : Int) = (b.toNat : Int) - 32) ∨
    (((b.toNat : Int) < 65 ∨ (90 < (b.toNat : Int) ∧ (b.toNat : Int) < 97) ∨ 122 < (b.toNat : Int)) ∧ otherB b = b) := by
  have := all_bytes (fun b => decide ((65 ≤ (b.toNat : Int) ∧ (b.toNat : Int) ≤ 90 ∧ ((otherB b).toNat : Int) = (b.toNat : Int) + 32) ∨ (97 ≤ (b.toNat : Int) ∧ (b.toNat : Int) ≤ 122 ∧ ((otherB b).toNat : Int) = (b.toNat : Int) - 32) ∨
    (((b.toNat : Int) < 65 ∨ (90 < (b.toNat : Int) ∧ (b.toNat : Int) < 97) ∨ 122 < (b.toNat : Int)) ∧ otherB b = b))) (by decide +kernel) b
  exact of_decide_eq_true this
theorem rother_any (b : UInt8) (w : World) :
    Calls Tryd.prog 77 #[.int .u8 b.toNat] w fun e w' => e = .returned (.int .u8 (otherB b).toNat) ∧ w = w' := by
  rcases rother_facts b with ⟨h1, h2, h3⟩ | ⟨h1, h2, h3⟩ | ⟨h1 | ⟨h1, h2⟩ | h1, h3⟩
  all_goals
    have H3 := Lib.hid h3
    clear h3
    go_enter Tryd.func77, Tryd.ntmps77
    go_wp2
    go_ret
    exact ⟨by rw [H3.out]; rfl, rfl⟩
end Go.Proofs.YtphfcebacilbbaaDoor
