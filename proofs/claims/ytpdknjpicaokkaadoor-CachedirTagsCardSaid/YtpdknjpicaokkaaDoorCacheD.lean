/- cachedir's Out. -/
import Derived.Test.YtpdknjpicaokkaaDoorCacheC
namespace Go.Proofs.YtpdknjpicaokkaaDoor
open Go.RowKit

def tagL : List UInt8 := [67, 65, 67, 72, 69, 68, 73, 82, 46, 84, 65, 71]
def hitB (M : List UInt8 → Bool) (l : List (List UInt8)) (mode : Int) (n : Nat) : Bool := M (joinL (l.take n)) && (decide (mode ≠ 1) || !(decide (n + 1 = l.length) && decide (l.getD n [] = tagL)))
def anyB (M : List UInt8 → Bool) (l : List (List UInt8)) (mode : Int) (n : Nat) : Bool := (List.range n).any (hitB M l mode)
def outB (M : List UInt8 → Bool) (l : List (List UInt8)) (mode : Int) : Bool := decide (1 ≤ mode ∧ mode ≤ 3) && (anyB M l mode l.length || (decide (mode = 3) && !l.isEmpty && M (joinL l)))
theorem any_hit {M : List UInt8 → Bool} {l : List (List UInt8)} {mode : Int} {n k : Nat} (hk : k < n) (h : hitB M l mode k = true) : anyB M l mode n = true := List.any_eq_true.2 ⟨k, List.mem_range.2 hk, h⟩
theorem any_succ (M : List UInt8 → Bool) (l : List (List UInt8)) (mode : Int) (n : Nat) : anyB M l mode (n + 1) = (anyB M l mode n || hitB M l mode n) := by
  unfold anyB
  rw [List.range_succ, List.any_append]
  simp
set_option maxRecDepth 100000 in
theorem out_no (p : Value) (s : List UInt8) (M : List UInt8 → Bool) (mode : Int) (hm : mode < 1 ∨ 3 < mode) (l : List (List UInt8)) (w : World) :
    Calls Tryd.prog 18 #[p, .string (S s), .int .i64 mode] w fun e w' => e = .returned (.bool (outB M l mode)) ∧ w' = w := by
  have HN := Lib.hid (show outB M l mode = false by unfold outB; rw [decide_eq_false (by omega)]; rfl)
  have hc : decide (mode < 1) = true ∨ (decide (mode < 1) = false ∧ 3 < mode) := by
    by_cases h : mode < 1
    · exact .inl (decide_eq_true h)
    · exact .inr ⟨decide_eq_false h, by omega⟩
  clear hm
  rcases hc with h1 | ⟨h1, h2⟩
  all_goals
    simp only [decide_eq_true_eq, decide_eq_false_iff_not] at h1
    go_enter Tryd.func18, Tryd.ntmps18
    go_wp2_with fail
    go_ret
    exact ⟨by rw [HN.out]; rfl, rfl⟩
theorem joinL_take_le (s : List UInt8) (hs : s.length ≤ 100000) (k : Nat) : (joinL ((partsL s).take k)).length ≤ 9223372036854775807 := by
  have hlen := parts_len s
  have h1 := joinL_le 1000000 ((partsL s).take k) (fun q hq => Nat.le_trans (parts_each s q (List.mem_of_mem_take hq)) (by omega))
  rw [List.length_take] at h1
  have h2 : min k (partsL s).length * (1000000 + 1) ≤ 200000 * (1000000 + 1) := Nat.mul_le_mul_right _ (by omega)
  omega
end Go.Proofs.YtpdknjpicaokkaaDoor
