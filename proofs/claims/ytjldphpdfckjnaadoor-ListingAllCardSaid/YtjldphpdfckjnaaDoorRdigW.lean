/- r04.Digits: the digits of any number of sixty-four bits. -/
import Derived.Test.YtjldphpdfckjnaaDoorNetP
import Derived.Test.YtjldphpdfckjnaaDoorKit
import Derived.BigQuiet
namespace Go.Proofs.YtjldphpdfckjnaaDoor
open Go.RowKit Go.Lib

def digC9 (n : Nat) : UInt8 := UInt8.ofNat (48 + n)
theorem digit_const9 (n : Nat) (hn : n < 10) : (⟨#[48, 49, 50, 51, 52, 53, 54, 55, 56, 57]⟩ : ByteArray).extract n (n + 1) = S [digC9 n] := by
  have h : n = 0 ∨ n = 1 ∨ n = 2 ∨ n = 3 ∨ n = 4 ∨ n = 5 ∨ n = 6 ∨ n = 7 ∨ n = 8 ∨ n = 9 := by omega
  rcases h with rfl | rfl | rfl | rfl | rfl | rfl | rfl | rfl | rfl | rfl <;> rfl
set_option maxRecDepth 100000 in
theorem rdig_wide : ∀ (k n : Nat), n < 10 ^ (k + 1) → k ≤ 18 → n ≤ 9223372036854775807 → ∀ w : World, Calls Tryd.prog 77 #[.int .i64 n] w fun e w' => e = .returned (.string (S (decDigits n))) ∧ ∃ m, w' = w.drewN m := by
  intro k
  induction k with
  | zero =>
    intro n hn _ hw w
    have hn : n < 10 := by simpa using hn
    have e1 : decDigits n = [digC9 n] := by rw [decDigits, dif_pos hn]; rfl
    have E1 := Lib.hid e1
    have hc := digit_const9 n hn
    clear e1
    go_enter Tryd.func77, Tryd.ntmps77
    go_wp2_with fail
    go_ret
    exact ⟨by rw [E1.out]; rfl, 0, rfl⟩
  | succ k ih =>
    intro n hn hk hw w
    by_cases h10 : n < 10
    · have e1 : decDigits n = [digC9 n] := by rw [decDigits, dif_pos h10]; rfl
      have E1 := Lib.hid e1
      have hc := digit_const9 n h10
      clear e1
      go_enter Tryd.func77, Tryd.ntmps77
      go_wp2_with fail
      go_ret
      exact ⟨by rw [E1.out]; rfl, 0, rfl⟩
    · have e1 : S (decDigits (n / 10)) ++ S [digC9 (n % 10)] = S (decDigits n) := by rw [S_append]; rw [decDigits.eq_1 n, dif_neg h10]; rfl
      have hlen := digs_len k (n / 10) (by rw [Nat.pow_succ] at hn; omega)
      have hlen2 : (decDigits (n / 10)).length ≤ 20 := by omega
      have IH := Lib.hid (fun w => ih (n / 10) (by rw [Nat.pow_succ] at hn; omega) (by omega) (by omega) w)
      have E1 := Lib.hid e1
      have hc := digit_const9 (n % 10) (Nat.mod_lt _ (by decide))
      clear e1 ih hn hlen
      go_enter Tryd.func77, Tryd.ntmps77
      go_wp2_with fail
      go_quiet ((go_at_call 77; exact Calls.quiet_of (IH.out _)))
      go_wp2
      go_ret
      exact ⟨by rw [← E1.out]; rfl, nq, rfl⟩
end Go.Proofs.YtjldphpdfckjnaaDoor
