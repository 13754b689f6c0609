/- r04.Digits: a number's digits. -/
import Derived.Test.YtnemjfojlgjkfaaDoorNetP
import Derived.Test.YtnemjfojlgjkfaaDoorKit
import Derived.BigQuiet
namespace Go.Proofs.YtnemjfojlgjkfaaDoor
open Go.RowKit Go.Lib

def digC0 (n : Nat) : UInt8 := UInt8.ofNat (48 + n)
theorem digit_const0 (n : Nat) (hn : n < 10) : (⟨#[48, 49, 50, 51, 52, 53, 54, 55, 56, 57]⟩ : ByteArray).extract n (n + 1) = S [digC0 n] := by
  have h : n = 0 ∨ n = 1 ∨ n = 2 ∨ n = 3 ∨ n = 4 ∨ n = 5 ∨ n = 6 ∨ n = 7 ∨ n = 8 ∨ n = 9 := by omega
  rcases h with rfl | rfl | rfl | rfl | rfl | rfl | rfl | rfl | rfl | rfl <;> rfl
theorem rdig_big : ∀ (k n : Nat), n < 10 ^ (k + 1) → k ≤ 16 → ∀ w : World, Calls Tryd.prog 32 #[.int .i64 n] w fun e w' => e = .returned (.string (S (decDigits n))) ∧ ∃ m, w' = w.drewN m := by
  intro k
  induction k with
  | zero =>
    intro n hn _ w
    have hn : n < 10 := by simpa using hn
    have e1 : decDigits n = [digC0 n] := by rw [decDigits, dif_pos hn]; rfl
    have E1 := Lib.hid e1
    have hc := digit_const0 n hn
    clear e1
    go_enter Tryd.func32, Tryd.ntmps32
    go_wp2_with fail
    go_ret
    exact ⟨by rw [E1.out]; rfl, 0, rfl⟩
  | succ k ih =>
    intro n hn hk w
    by_cases h10 : n < 10
    · have e1 : decDigits n = [digC0 n] := by rw [decDigits, dif_pos h10]; rfl
      have E1 := Lib.hid e1
      have hc := digit_const0 n h10
      clear e1
      go_enter Tryd.func32, Tryd.ntmps32
      go_wp2_with fail
      go_ret
      exact ⟨by rw [E1.out]; rfl, 0, rfl⟩
    · have e1 : S (decDigits (n / 10)) ++ S [digC0 (n % 10)] = S (decDigits n) := by rw [S_append]; rw [decDigits.eq_1 n, dif_neg h10]; rfl
      have hb : n ≤ 100000000000000000 := by
        have : 10 ^ (k + 1 + 1) ≤ 10 ^ 17 := Nat.pow_le_pow_right (by decide) (by omega)
        omega
      have hlen := digs_len k (n / 10) (by rw [Nat.pow_succ] at hn; omega)
      have hlen2 : (decDigits (n / 10)).length ≤ 20 := by omega
      have IH := Lib.hid (fun w => ih (n / 10) (by rw [Nat.pow_succ] at hn; omega) (by omega) w)
      have E1 := Lib.hid e1
      have hc := digit_const0 (n % 10) (Nat.mod_lt _ (by decide))
      clear e1 ih hn hlen
      go_enter Tryd.func32, Tryd.ntmps32
      go_wp2_with fail
      go_quiet ((go_at_call 32; exact Calls.quiet_of (IH.out _)))
      go_wp2
      go_ret
      exact ⟨by rw [← E1.out]; rfl, nq, rfl⟩
end Go.Proofs.YtnemjfojlgjkfaaDoor
