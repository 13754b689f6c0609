/- Numbers of fields: the document's power, of 8. Numbers of fields: the document's Octal. -/
import Derived.Test.YtjldphpdfckjnaaDoorOctG
namespace Go.Proofs.YtjldphpdfckjnaaDoor
open Go.RowKit

theorem pow8_le11 (k : Nat) (h : k ≤ 10) : 8 ^ k ≤ 1073741824 := Nat.le_trans (Nat.pow_le_pow_right (by omega) h) (by decide)
set_option maxRecDepth 100000 in
theorem rPower_any (m : Nat) (w : World) (hm : m ≤ 11) :
    Calls Tryd.prog 122 #[.int .i64 8, .int .i64 m] w fun e w' => e = .returned (.int .i64 ((8 ^ m : Nat) : Int)) ∧ w = w' := by
  generalize hP : 8 ^ m = P
  have HP := Lib.hid hP
  clear hP
  go_enter Tryd.func122, Tryd.ntmps122
  go_wp2_with fail
  go_loopw [5, 6] (fun v i wr => ∃ k u : Nat, i = .int .i64 k ∧ v = .int .i64 u ∧ k ≤ m ∧ Hid (u = 8 ^ k) ∧ w = wr) (fun _ i _ => m - (intOf i).toNat)
  case atStart => exact ⟨0, 1, rfl, rfl, Nat.zero_le _, Lib.hid rfl, rfl⟩
  case round =>
    obtain ⟨k, u, rfl, rfl, hk, HU, rfl⟩ := hrel
    by_cases hlt : k < m
    · have hkI : (k : Int) < (m : Int) := by omega
      have hu : u ≤ 1073741824 := by rw [HU.out]; exact pow8_le11 k (by omega)
      have huI : (u : Int) < 18014398509481984 := by omega
      have HN : Hid (u * 8 = 8 ^ (k + 1)) := Lib.hid (by rw [HU.out, Nat.pow_succ])
      go_wp2_with fail
      go_roundw
      case rel => exact ⟨k + 1, u * 8, by go_num, by push_cast; rfl, by omega, HN, trivial⟩
      case measure => simp [intOf] <;> omega
    · have hkk : k = m := by omega
      subst hkk
      have hkI : ¬ (k : Int) < (k : Int) := by omega
      have HE : Hid (P = u) := Lib.hid (by rw [← HP.out, HU.out])
      go_wp2_with fail
      go_ret
      exact ⟨by rw [HE.out]; rfl, rfl⟩
end Go.Proofs.YtjldphpdfckjnaaDoor
namespace Go.Proofs.YtjldphpdfckjnaaDoor
open Go.RowKit

/-- so many digits of a number in octal, ahead of a text -/
def octL : Nat → Nat → List UInt8 → List UInt8
  | 0, _, t => t
  | m + 1, v, t => octL m (v / 8) (UInt8.ofNat (48 + v % 8) :: t)
theorem dig8 (d : Nat) (h : d < 8) : (S [48, 49, 50, 51, 52, 53, 54, 55]).extract d (d + 1) = S [UInt8.ofNat (48 + d)] := by
  rw [S_extract]
  have : d = 0 ∨ d = 1 ∨ d = 2 ∨ d = 3 ∨ d = 4 ∨ d = 5 ∨ d = 6 ∨ d = 7 := by omega
  rcases this with rfl | rfl | rfl | rfl | rfl | rfl | rfl | rfl <;> rfl
theorem octL_len : ∀ (m v : Nat) (t : List UInt8), (octL m v t).length = m + t.length
  | 0, _, t => by rw [octL, Nat.zero_add]
  | m + 1, v, t => by rw [octL, octL_len m, List.length_cons]; omega
set_option maxRecDepth 100000 in
set_option maxHeartbeats 1000000 in
theorem rOctal_yes (v n : Nat) (w : World) (h2 : 2 ≤ n) (h12 : n ≤ 12) (hv : v < 8 ^ (n - 1)) :
    Calls Tryd.prog 91 #[.int .i64 v, .int .i64 n] w fun e w' => e = .returned (.tuple #[.string (S (octL (n - 1) v [0])), .bool true]) ∧ w = w' := by
  have HP := Lib.hid (rPower_any (n - 1) w (by omega))
  have e1 : ((n - 1 : Nat) : Int) = (n : Int) - 1 := by omega
  rw [e1] at HP
  have hv2 : v < 8589934592 := Nat.lt_of_lt_of_le hv (Nat.le_trans (Nat.pow_le_pow_right (by omega) (show n - 1 ≤ 11 by omega)) (by decide))
  generalize 8 ^ (n - 1) = P at *
  have a1 : ¬ (n : Int) < 2 := by omega
  have a2 : ¬ (n : Int) > 12 := by omega
  have a3 : ¬ (v : Int) < 0 := by omega
  have a4 : ¬ (v : Int) ≥ (P : Int) := by omega
  have a5 : decide (P ≤ v) = false := decide_eq_false (by omega)
  generalize hO : octL (n - 1) v [0] = O
  have HO := Lib.hid hO
  clear hO e1
  go_enter Tryd.func91, Tryd.ntmps91
  go_wp2_with fail
  refine (HP.out).mono ?_
  rintro e w1 ⟨rfl, rfl⟩
  clear HP
  go_wp2_with fail
  go_loopw [0, 6, 7] (fun v0 v6 v7 wr => ∃ (k x : Nat) (t : List UInt8), v7 = .int .i64 k ∧ v0 = .int .i64 x ∧ v6 = .string (S t) ∧ 1 ≤ k ∧ k ≤ n ∧ x < 8589934592 ∧ t.length ≤ 20 + k ∧ Hid (octL (n - k) x t = O) ∧ w = wr) (fun _ _ v7 _ => n - (intOf v7).toNat)
  case atStart => exact ⟨1, v, [0], rfl, rfl, rfl, Nat.le_refl _, by omega, hv2, by simp, HO, rfl⟩
  case round =>
    obtain ⟨k, x, t, rfl, rfl, rfl, hk1, hk, hx, ht, HB, rfl⟩ := hrel
    clear HO
    by_cases hlt : k < n
    · have hkI : (k : Int) < (n : Int) := by omega
      have HN : Hid (octL (n - (k + 1)) (x / 8) (UInt8.ofNat (48 + x % 8) :: t) = O) := Lib.hid (by
        rw [← HB.out, show n - k = (n - (k + 1)) + 1 by omega]; rfl)
      have hlt8 : x % 8 < 8 := Nat.mod_lt _ (by decide)
      have hm0 : (0 : Int) ≤ (x : Int) % 8 := by omega
      have hm7 : (x : Int) % 8 < 8 := by omega
      have hw : IntKind.i64.wrap ((x : Int) % 8 + 1) = (x : Int) % 8 + 1 := wrap_lit_i64 _ (by omega) (by omega)
      go_wp2_with fail
      go_roundw
      case rel => exact ⟨k + 1, x / 8, UInt8.ofNat (48 + x % 8) :: t, by go_num, by push_cast; rfl, congrArg Value.string ((congrArg (· ++ S t) (dig8 _ hlt8)).trans (S_append [UInt8.ofNat (48 + x % 8)] t)), by omega, by omega, by omega, by rw [List.length_cons]; omega, HN, trivial⟩
      case measure => simp [intOf] <;> omega
    · have hkk : k = n := by omega
      subst hkk
      have hkI : ¬ (k : Int) < (k : Int) := by omega
      have HE : Hid (O = t) := Lib.hid (by rw [← HB.out, Nat.sub_self]; rfl)
      go_wp2_with fail
      go_ret2
      exact ⟨by rw [HE.out]; rfl, rfl⟩
set_option maxRecDepth 100000 in
set_option maxHeartbeats 1000000 in
theorem rOctal_no (v : Int) (n : Nat) (w : World) (h2 : 2 ≤ n) (h12 : n ≤ 12) (hv : v < 0 ∨ ((8 ^ (n - 1) : Nat) : Int) ≤ v) :
    Calls Tryd.prog 91 #[.int .i64 v, .int .i64 n] w fun e w' => e = .returned (.tuple #[.string (S []), .bool false]) ∧ w = w' := by
  have HP := Lib.hid (rPower_any (n - 1) w (by omega))
  have e1 : ((n - 1 : Nat) : Int) = (n : Int) - 1 := by omega
  rw [e1] at HP
  generalize 8 ^ (n - 1) = P at *
  have a1 : ¬ (n : Int) < 2 := by omega
  have a2 : ¬ (n : Int) > 12 := by omega
  clear e1
  by_cases h0 : v < 0
  · clear hv
    go_enter Tryd.func91, Tryd.ntmps91
    go_wp2_with fail
    go_ret2
    exact ⟨rfl, rfl⟩
  · have a4 : v ≥ (P : Int) := by omega
    clear hv
    go_enter Tryd.func91, Tryd.ntmps91
    go_wp2_with fail
    refine (HP.out).mono ?_
    rintro e w1 ⟨rfl, rfl⟩
    go_wp2_with fail
    go_ret2
    exact ⟨rfl, rfl⟩
end Go.Proofs.YtjldphpdfckjnaaDoor
