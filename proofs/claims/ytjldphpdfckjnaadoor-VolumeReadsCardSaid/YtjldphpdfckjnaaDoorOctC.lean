/- Numbers of fields, in octal and in binary: the plain law; the document's add, and its Read in binary. Numbers of fields: the document's Read whole; octal's may. Numbers of fields: octal's digits; a shifted number and a few bits below it. -/
import Derived.Test.YtjldphpdfckjnaaDoorKit
namespace Go.Proofs.YtjldphpdfckjnaaDoor
open Go.RowKit

def addO (v b d : Nat) : Nat := if 9007199254740991 < v then v else v * b + d
def binO (f : UInt8 → Nat) : List UInt8 → Nat → Nat
  | [], v => v
  | c :: r, v => binO f r (addO v 256 (f c))
/-- a: 0 ahead of the digits, 1 within them, 2 behind -/
def octO : Nat → Nat → List UInt8 → Option Nat
  | _, v, [] => some v
  | a, v, c :: r => if 48 ≤ c.toNat ∧ c.toNat ≤ 55 ∧ a ≠ 2 then octO 1 (v * 8 + (c.toNat - 48)) r
      else if c.toNat = 32 ∧ a = 0 then octO 0 v r
      else if c.toNat = 32 ∨ c.toNat = 0 then octO 2 v r else none
def posO (s : List UInt8) : Nat := binO (fun c => c.toNat) (s.drop 1) 0
def negO (s : List UInt8) : Nat := binO (fun c => 255 - c.toNat) (s.drop 1) 0
def firstO (s : List UInt8) : Nat := match s with | [] => 0 | c :: _ => c.toNat
/-- a field's number, and an error's number -/
def readO (s : List UInt8) : Int × Nat :=
  if s.length < 2 ∨ 12 < s.length then (0, 1)
  else if firstO s = 128 then (if 9007199254740991 < posO s then (0, 6) else ((posO s : Int), 0))
  else if firstO s = 255 then (if 9007199254740991 < negO s + 1 then (0, 6) else (-(negO s : Int) - 1, 0))
  else match octO 0 0 s with | none => (0, 2) | some v => ((v : Int), 0)
theorem addO_lt (v d : Nat) (hv : v < 4611686018427387904) (hd : d ≤ 255) : addO v 256 d < 4611686018427387904 := by
  unfold addO
  by_cases h : 9007199254740991 < v
  · rw [if_pos h]; exact hv
  · rw [if_neg h]; omega
theorem binO_at (f : UInt8 → Nat) (s : List UInt8) (k v : Nat) (h : k < (S s).size) : binO f (s.drop k) v = binO f (s.drop (k + 1)) (addO v 256 (f ((S s)[k]'h))) := by
  rw [S_size] at h
  rw [List.drop_eq_getElem_cons h]; rfl
theorem binO_end (f : UInt8 → Nat) (s : List UInt8) (v : Nat) : binO f (s.drop s.length) v = v := by
  rw [List.drop_eq_nil_of_le (Nat.le_refl _)]; rfl
theorem firstO_at (s : List UInt8) (h : 0 < (S s).size) : firstO s = ((S s)[0]'h).toNat := by
  cases s with
  | nil => exact absurd h (by simp [S_size])
  | cons c r => rfl

set_option maxRecDepth 100000 in
theorem add_any (v b d : Nat) (w : World) (hv : v < 4611686018427387904) (hb : b ≤ 256) (hd : d ≤ 255) :
    Calls Tryd.prog 129 #[.int .i64 v, .int .i64 b, .int .i64 d] w fun e w' => e = .returned (.int .i64 (addO v b d)) ∧ w = w' := by
  by_cases h : 9007199254740991 < v
  · have hI : (v : Int) > 9007199254740991 := by omega
    have H : Hid (addO v b d = v) := Lib.hid (if_pos h)
    go_enter Tryd.func129, Tryd.ntmps129
    go_wp2_with fail
    go_ret
    exact ⟨by rw [H.out]; rfl, rfl⟩
  · have hI : ¬ (v : Int) > 9007199254740991 := by omega
    have H : Hid (addO v b d = v * b + d) := Lib.hid (if_neg h)
    have hm : v * b ≤ 9007199254740991 * 256 := Nat.mul_le_mul (by omega) hb
    have e1 : IntKind.i64.wrap ((v : Int) * (b : Int)) = (v : Int) * (b : Int) := by
      rw [← Int.natCast_mul]; exact wrap_lit_i64 _ (by omega) (by omega)
    have e2 : IntKind.i64.wrap ((v : Int) * (b : Int) + (d : Int)) = (v : Int) * (b : Int) + (d : Int) := by
      rw [← Int.natCast_mul]; exact wrap_lit_i64 _ (by omega) (by omega)
    clear hm
    go_enter Tryd.func129, Tryd.ntmps129
    go_wp2_with fail
    go_ret
    exact ⟨by rw [H.out]; push_cast; rfl, rfl⟩

set_option maxRecDepth 100000 in
set_option maxHeartbeats 1000000 in
theorem rRead_pos (s : List UInt8) (w : World) (h2 : 2 ≤ s.length) (h12 : s.length ≤ 12) (h0 : 0 < (S s).size) (hc : ((S s)[0]'h0).toNat = 128) :
    Calls Tryd.prog 102 #[.string (S s)] w fun e w' => e = .returned (.tuple #[.int .i64 (readO s).1, .int .i64 (readO s).2]) ∧ w = w' := by
  have HR : Hid (readO s = if 9007199254740991 < posO s then (0, 6) else ((posO s : Int), 0)) := Lib.hid (by
    unfold readO; rw [if_neg (by omega), firstO_at s h0, if_pos hc])
  have a1 : ¬ (s.length : Int) < 2 := by omega
  have a2 : ¬ (s.length : Int) > 12 := by omega
  have a3 : (((S s)[0]'h0).toNat : Int) = 128 := by omega
  clear hc
  go_enter Tryd.func102, Tryd.ntmps102
  go_wp2_with fail
  go_loopw [5, 6] (fun v i wr => ∃ k u : Nat, i = .int .i64 k ∧ v = .int .i64 u ∧ 1 ≤ k ∧ k ≤ s.length ∧ u < 4611686018427387904 ∧ Hid (binO (fun c => c.toNat) (s.drop k) u = posO s) ∧ w = wr) (fun _ i _ => s.length - (intOf i).toNat)
  case atStart => exact ⟨1, 0, rfl, rfl, Nat.le_refl _, by omega, by omega, Lib.hid rfl, rfl⟩
  case round =>
    obtain ⟨k, u, rfl, rfl, hk1, hk, hu, HB, rfl⟩ := hrel
    by_cases hlt : k < s.length
    · have hkI : (k : Int) < (s.length : Int) := by omega
      have hks : k < (S s).size := by rw [S_size]; exact hlt
      have HN := Lib.hid ((binO_at (fun c => c.toNat) s k u hks).symm.trans HB.out)
      have hd : ((S s)[k]'hks).toNat ≤ 255 := by have := ((S s)[k]'hks).toNat_lt; omega
      have HA := Lib.hid (add_any u 256 ((S s)[k]'hks).toNat w hu (Nat.le_refl _) hd)
      have hl := addO_lt u ((S s)[k]'hks).toNat hu hd
      go_wp2_with fail
      refine (HA.out).mono ?_
      rintro e w1 ⟨rfl, rfl⟩
      go_wp2_with fail
      go_roundw
      case rel => exact ⟨k + 1, _, by go_num, rfl, by omega, by omega, hl, HN, trivial⟩
      case measure => simp [intOf] <;> omega
    · have hkk : k = s.length := by omega
      subst hkk
      have hkI : ¬ (s.length : Int) < (s.length : Int) := by omega
      have HE : Hid (u = posO s) := Lib.hid (by rw [← HB.out, binO_end])
      by_cases hm : 9007199254740991 < u
      · have hmI : (u : Int) > 9007199254740991 := by omega
        have HR2 : Hid (readO s = (0, 6)) := Lib.hid (by rw [HR.out, ← HE.out, if_pos hm])
        go_wp2_with fail
        go_ret2
        exact ⟨by rw [HR2.out]; rfl, rfl⟩
      · have hmI : ¬ (u : Int) > 9007199254740991 := by omega
        have HR2 : Hid (readO s = ((u : Int), 0)) := Lib.hid (by rw [HR.out, ← HE.out, if_neg hm])
        go_wp2_with fail
        go_ret2
        exact ⟨by rw [HR2.out]; rfl, rfl⟩
set_option maxRecDepth 100000 in
set_option maxHeartbeats 1000000 in
theorem rRead_neg (s : List UInt8) (w : World) (h2 : 2 ≤ s.length) (h12 : s.length ≤ 12) (h0 : 0 < (S s).size) (hc : ((S s)[0]'h0).toNat = 255) :
    Calls Tryd.prog 102 #[.string (S s)] w fun e w' => e = .returned (.tuple #[.int .i64 (readO s).1, .int .i64 (readO s).2]) ∧ w = w' := by
  have HR : Hid (readO s = if 9007199254740991 < negO s + 1 then (0, 6) else (-(negO s : Int) - 1, 0)) := Lib.hid (by
    unfold readO; rw [if_neg (by omega), firstO_at s h0, if_neg (by omega), if_pos hc])
  have a1 : ¬ (s.length : Int) < 2 := by omega
  have a2 : ¬ (s.length : Int) > 12 := by omega
  have a3 : (((S s)[0]'h0).toNat : Int) = 255 := by omega
  clear hc
  go_enter Tryd.func102, Tryd.ntmps102
  go_wp2_with fail
  go_loopw [7, 8] (fun v i wr => ∃ k u : Nat, i = .int .i64 k ∧ v = .int .i64 u ∧ 1 ≤ k ∧ k ≤ s.length ∧ u < 4611686018427387904 ∧ Hid (binO (fun c => 255 - c.toNat) (s.drop k) u = negO s) ∧ w = wr) (fun _ i _ => s.length - (intOf i).toNat)
  case atStart => exact ⟨1, 0, rfl, rfl, Nat.le_refl _, by omega, by omega, Lib.hid rfl, rfl⟩
  case round =>
    obtain ⟨k, u, rfl, rfl, hk1, hk, hu, HB, rfl⟩ := hrel
    by_cases hlt : k < s.length
    · have hkI : (k : Int) < (s.length : Int) := by omega
      have hks : k < (S s).size := by rw [S_size]; exact hlt
      have HN := Lib.hid ((binO_at (fun c => 255 - c.toNat) s k u hks).symm.trans HB.out)
      have hd : ((S s)[k]'hks).toNat ≤ 255 := by have := ((S s)[k]'hks).toNat_lt; omega
      have hd2 : 255 - ((S s)[k]'hks).toNat ≤ 255 := by omega
      have eD : (255 : Int) - (((S s)[k]'hks).toNat : Int) = ((255 - ((S s)[k]'hks).toNat : Nat) : Int) := by omega
      have HA := Lib.hid (add_any u 256 (255 - ((S s)[k]'hks).toNat) w hu (Nat.le_refl _) hd2)
      have hl := addO_lt u (255 - ((S s)[k]'hks).toNat) hu hd2
      go_wp2_with fail
      refine (HA.out).mono ?_
      rintro e w1 ⟨rfl, rfl⟩
      go_wp2_with fail
      go_roundw
      case rel => exact ⟨k + 1, _, by go_num, rfl, by omega, by omega, hl, HN, trivial⟩
      case measure => simp [intOf] <;> omega
    · have hkk : k = s.length := by omega
      subst hkk
      have hkI : ¬ (s.length : Int) < (s.length : Int) := by omega
      have HE : Hid (u = negO s) := Lib.hid (by rw [← HB.out, binO_end])
      by_cases hm : 9007199254740991 < u + 1
      · have hmI : (u : Int) + 1 > 9007199254740991 := by omega
        have HR2 : Hid (readO s = (0, 6)) := Lib.hid (by rw [HR.out, ← HE.out, if_pos hm])
        go_wp2_with fail
        go_ret2
        exact ⟨by rw [HR2.out]; rfl, rfl⟩
      · have hmI : ¬ (u : Int) + 1 > 9007199254740991 := by omega
        have HR2 : Hid (readO s = (-(u : Int) - 1, 0)) := Lib.hid (by rw [HR.out, ← HE.out, if_neg hm])
        go_wp2_with fail
        go_ret2
        exact ⟨by rw [HR2.out]; rfl, rfl⟩
theorem octO_end (s : List UInt8) (a v : Nat) : octO a v (s.drop s.length) = some v := by
  rw [List.drop_eq_nil_of_le (Nat.le_refl _)]; cases a <;> rfl
theorem octO_at (s : List UInt8) (a v k : Nat) (h : k < (S s).size) : octO a v (s.drop k) = if 48 ≤ ((S s)[k]'h).toNat ∧ ((S s)[k]'h).toNat ≤ 55 ∧ a ≠ 2 then octO 1 (v * 8 + (((S s)[k]'h).toNat - 48)) (s.drop (k + 1))
      else if ((S s)[k]'h).toNat = 32 ∧ a = 0 then octO 0 v (s.drop (k + 1))
      else if ((S s)[k]'h).toNat = 32 ∨ ((S s)[k]'h).toNat = 0 then octO 2 v (s.drop (k + 1)) else none := by
  rw [S_size] at h
  rw [List.drop_eq_getElem_cons h]
  show octO a v (s[k] :: s.drop (k + 1)) = _
  rw [octO]; rfl
theorem octO_blank (s : List UInt8) (v k : Nat) (h : k < (S s).size) (hc : ((S s)[k]'h).toNat = 32) : octO 0 v (s.drop k) = octO 0 v (s.drop (k + 1)) := by
  rw [octO_at s 0 v k h, if_neg (by omega), if_pos ⟨hc, rfl⟩]
theorem octO_dig (s : List UInt8) (a v k : Nat) (h : k < (S s).size) (ha : a ≤ 1) (h1 : 48 ≤ ((S s)[k]'h).toNat) (h2 : ((S s)[k]'h).toNat ≤ 55) : octO a v (s.drop k) = octO 1 (v * 8 + (((S s)[k]'h).toNat - 48)) (s.drop (k + 1)) := by
  rw [octO_at s a v k h, if_pos ⟨h1, h2, by omega⟩]
theorem octO_behind (s : List UInt8) (v k : Nat) (h : k < (S s).size) (hc : ((S s)[k]'h).toNat = 32 ∨ ((S s)[k]'h).toNat = 0) : octO 2 v (s.drop k) = octO 2 v (s.drop (k + 1)) := by
  rw [octO_at s 2 v k h, if_neg (by omega), if_neg (by omega), if_pos hc]
theorem octO_bad (s : List UInt8) (v k : Nat) (h : k < (S s).size) (hc : ¬ (((S s)[k]'h).toNat = 32 ∨ ((S s)[k]'h).toNat = 0)) : octO 2 v (s.drop k) = none := by
  rw [octO_at s 2 v k h, if_neg (by omega), if_neg (by omega), if_neg hc]
theorem octO_turn (s : List UInt8) (a v k : Nat) (hk : k ≤ s.length) (hd : ∀ h : k < (S s).size, ¬ (48 ≤ ((S s)[k]'h).toNat ∧ ((S s)[k]'h).toNat ≤ 55)) (hb : a = 0 → ∀ h : k < (S s).size, ((S s)[k]'h).toNat ≠ 32) : octO a v (s.drop k) = octO 2 v (s.drop k) := by
  by_cases h : k < (S s).size
  · have hn := hd h
    have e1 : octO a v (s.drop k) = if ((S s)[k]'h).toNat = 32 ∨ ((S s)[k]'h).toNat = 0 then octO 2 v (s.drop (k + 1)) else none := by
      rw [octO_at s a v k h, if_neg (fun e => hn ⟨e.1, e.2.1⟩), if_neg (fun e => hb e.2 h e.1)]
    have e2 : octO 2 v (s.drop k) = if ((S s)[k]'h).toNat = 32 ∨ ((S s)[k]'h).toNat = 0 then octO 2 v (s.drop (k + 1)) else none := by
      rw [octO_at s 2 v k h, if_neg (fun e => hn ⟨e.1, e.2.1⟩), if_neg (fun e => absurd e.2 (by decide))]
    rw [e1, e2]
  · have : k = s.length := by rw [S_size] at h; omega
    subst this
    rw [octO_end, octO_end]
theorem pow8_le (k : Nat) (h : k ≤ 12) : 8 ^ k ≤ 68719476736 := Nat.le_trans (Nat.pow_le_pow_right (by omega) h) (by decide)
theorem pow8_step (v k d : Nat) (h : v < 8 ^ k) (hd : d ≤ 7) : v * 8 + d < 8 ^ (k + 1) := by rw [Nat.pow_succ]; omega
theorem octO_lt (s : List UInt8) (hs : s.length ≤ 12) (v : Nat) (h : v < 8 ^ s.length) : v < 68719476736 := Nat.lt_of_lt_of_le h (pow8_le _ hs)

set_option maxRecDepth 100000 in
set_option maxHeartbeats 2000000 in
theorem rRead_oct (s : List UInt8) (w : World) (h2 : 2 ≤ s.length) (h12 : s.length ≤ 12) (h0 : 0 < (S s).size) (hc : ((S s)[0]'h0).toNat ≠ 128) (hc2 : ((S s)[0]'h0).toNat ≠ 255) :
    Calls Tryd.prog 102 #[.string (S s)] w fun e w' => e = .returned (.tuple #[.int .i64 (readO s).1, .int .i64 (readO s).2]) ∧ w = w' := by
  have HR : Hid (readO s = match octO 0 0 s with | none => (0, 2) | some v => ((v : Int), 0)) := Lib.hid (by
    unfold readO; rw [if_neg (by omega), firstO_at s h0, if_neg hc, if_neg hc2])
  have a1 : ¬ (s.length : Int) < 2 := by omega
  have a2 : ¬ (s.length : Int) > 12 := by omega
  have a3 : ¬ (((S s)[0]'h0).toNat : Int) = 128 := by omega
  have a4 : ¬ (((S s)[0]'h0).toNat : Int) = 255 := by omega
  have a3B : ((((S s)[0]'h0).toNat : Int) == 128) = false := beq_eq_false_iff_ne.2 a3
  have a4B : ((((S s)[0]'h0).toNat : Int) == 255) = false := beq_eq_false_iff_ne.2 a4
  clear hc hc2
  generalize readO s = RR at *
  generalize hO : octO 0 0 s = O at *
  have HO := Lib.hid hO
  clear hO
  go_enter Tryd.func102, Tryd.ntmps102
  go_wp2_with fail
  go_loopw [9] (fun i wr => ∃ k : Nat, i = .int .i64 k ∧ k ≤ s.length ∧ Hid (octO 0 0 (s.drop k) = O) ∧ w = wr) (fun i _ => s.length - (intOf i).toNat)
  case atStart => exact ⟨0, rfl, Nat.zero_le _, HO, rfl⟩
  case round =>
    obtain ⟨k, rfl, hk, HB, rfl⟩ := hrel
    clear HO a1 a2 a3 a4 a3B a4B
    by_cases hlt : k < s.length
    · have hkI : (k : Int) < (s.length : Int) := by omega
      have hks : k < (S s).size := by rw [S_size]; exact hlt
      by_cases hb : ((S s)[k]'hks).toNat = 32
      · have hbI : (((S s)[k]'hks).toNat : Int) = 32 := by omega
        have HN := Lib.hid ((octO_blank s 0 k hks hb).symm.trans HB.out)
        clear hb
        go_wp2_with fail
        go_roundw
        case rel => exact ⟨k + 1, by go_num, by omega, HN, trivial⟩
        case measure => simp [intOf] <;> omega
      · have hbI : ¬ (((S s)[k]'hks).toNat : Int) = 32 := by omega
        have hbB : ((((S s)[k]'hks).toNat : Int) == 32) = false := beq_eq_false_iff_ne.2 hbI
        have HX : Hid (∀ h : k < (S s).size, ((S s)[k]'h).toNat ≠ 32) := Lib.hid (fun _ => hb)
        clear hb
        go_wp2_with fail
        go_loopw [9, 10] (fun i v wr => ∃ k a u : Nat, i = .int .i64 k ∧ v = .int .i64 u ∧ k ≤ s.length ∧ a ≤ 1 ∧ Hid (u < 8 ^ k) ∧ Hid (octO a u (s.drop k) = O) ∧ Hid (a = 0 → ∀ h : k < (S s).size, ((S s)[k]'h).toNat ≠ 32) ∧ w = wr) (fun i _ _ => s.length - (intOf i).toNat)
        case atStart => exact ⟨k, 0, 0, rfl, rfl, hk, Nat.zero_le _, Lib.hid (Nat.pow_pos (by decide)), HB, Lib.hid (fun _ => HX.out), rfl⟩
        case round =>
          obtain ⟨k2, a, u, rfl, rfl, hk2, ha, HU, HB2, HX2, rfl⟩ := hrel
          have hu : u < 68719476736 := Nat.lt_of_lt_of_le HU.out (pow8_le _ (by omega))
          have huI : ¬ (u : Int) > 9007199254740991 := by omega
          clear HB HX
          by_cases hlt2 : k2 < s.length
          · have hkI2 : (k2 : Int) < (s.length : Int) := by omega
            have hks2 : k2 < (S s).size := by rw [S_size]; exact hlt2
            by_cases h48 : 48 ≤ ((S s)[k2]'hks2).toNat
            · have h48I : (((S s)[k2]'hks2).toNat : Int) ≥ 48 := by omega
              by_cases h55 : ((S s)[k2]'hks2).toNat ≤ 55
              · have h55I : (((S s)[k2]'hks2).toNat : Int) ≤ 55 := by omega
                have eD : (((S s)[k2]'hks2).toNat : Int) - 48 = ((((S s)[k2]'hks2).toNat - 48 : Nat) : Int) := by omega
                have HN2 := Lib.hid ((octO_dig s a u k2 hks2 ha h48 h55).symm.trans HB2.out)
                have HU2 := Lib.hid (pow8_step u k2 (((S s)[k2]'hks2).toNat - 48) HU.out (by omega))
                have HA : Hid (∀ W, Calls Tryd.prog 129 #[.int .i64 u, .int .i64 8, .int .i64 ((((S s)[k2]'hks2).toNat - 48 : Nat) : Int)] W fun e w' => e = .returned (.int .i64 ((u * 8 + (((S s)[k2]'hks2).toNat - 48) : Nat) : Int)) ∧ W = w') := Lib.hid (fun W => by
                  have := add_any u 8 (((S s)[k2]'hks2).toNat - 48) W (by omega) (by omega) (by omega)
                  rw [addO, if_neg (by omega)] at this
                  exact this)
                go_wp2_with fail
                refine (HA.out _).mono ?_
                rintro e w1 ⟨rfl, rfl⟩
                go_wp2_with fail
                go_roundw
                case rel => exact ⟨k2 + 1, 1, _, by go_num, rfl, by omega, by omega, HU2, HN2, Lib.hid (fun h => absurd h (by decide)), trivial⟩
                case measure => simp [intOf] <;> omega
              · have h55I : ¬ (((S s)[k2]'hks2).toNat : Int) ≤ 55 := by omega
                have HT := Lib.hid ((octO_turn s a u k2 hk2 (fun _ => by omega) HX2.out).symm.trans HB2.out)
                go_wp2_with fail
                go_loopw [9] (fun i wr => ∃ k : Nat, i = .int .i64 k ∧ k ≤ s.length ∧ Hid (octO 2 u (s.drop k) = O) ∧ w = wr) (fun i _ => s.length - (intOf i).toNat)
                case atStart => exact ⟨k2, rfl, hk2, HT, rfl⟩
                case round =>
                  obtain ⟨k3, rfl, hk3, HB3, rfl⟩ := hrel
                  clear HT
                  by_cases hlt3 : k3 < s.length
                  · have hkI3 : (k3 : Int) < (s.length : Int) := by omega
                    have hks3 : k3 < (S s).size := by rw [S_size]; exact hlt3
                    by_cases hb3 : ((S s)[k3]'hks3).toNat = 32
                    · have hbI3 : (((S s)[k3]'hks3).toNat : Int) = 32 := by omega
                      have HN3 := Lib.hid ((octO_behind s u k3 hks3 (Or.inl hb3)).symm.trans HB3.out)
                      clear hb3
                      go_wp2_with fail
                      go_roundw
                      case rel => exact ⟨k3 + 1, by go_num, by omega, HN3, trivial⟩
                      case measure => simp [intOf] <;> omega
                    · have hbI3 : ¬ (((S s)[k3]'hks3).toNat : Int) = 32 := by omega
                      by_cases hb4 : ((S s)[k3]'hks3).toNat = 0
                      · have hbI4 : (((S s)[k3]'hks3).toNat : Int) = 0 := by omega
                        have HN3 := Lib.hid ((octO_behind s u k3 hks3 (Or.inr hb4)).symm.trans HB3.out)
                        clear hb3 hb4
                        go_wp2_with fail
                        go_roundw
                        case rel => exact ⟨k3 + 1, by go_num, by omega, HN3, trivial⟩
                        case measure => simp [intOf] <;> omega
                      · have hbI4 : ¬ (((S s)[k3]'hks3).toNat : Int) = 0 := by omega
                        have HRR : Hid (RR = (0, 2)) := Lib.hid (by rw [HR.out, ← HB3.out, octO_bad s u k3 hks3 (by omega)])
                        have hbB3 : ((((S s)[k3]'hks3).toNat : Int) != 32) = true := bne_iff_ne.2 hbI3
                        have hbB4 : ((((S s)[k3]'hks3).toNat : Int) != 0) = true := bne_iff_ne.2 hbI4
                        clear hb3 hb4
                        go_wp2_with fail
                        go_ret2
                        exact ⟨by rw [HRR.out]; rfl, rfl⟩
                  · have hkk : k3 = s.length := by omega
                    subst hkk
                    have hkI3 : ¬ (s.length : Int) < (s.length : Int) := by omega
                    have HRR : Hid (RR = ((u : Int), 0)) := Lib.hid (by rw [HR.out, ← HB3.out, octO_end])
                    go_wp2_with fail
                    go_ret2
                    exact ⟨by rw [HRR.out]; rfl, rfl⟩
            · have h48I : ¬ (((S s)[k2]'hks2).toNat : Int) ≥ 48 := by omega
              have HT := Lib.hid ((octO_turn s a u k2 hk2 (fun _ => by omega) HX2.out).symm.trans HB2.out)
              go_wp2_with fail
              go_loopw [9] (fun i wr => ∃ k : Nat, i = .int .i64 k ∧ k ≤ s.length ∧ Hid (octO 2 u (s.drop k) = O) ∧ w = wr) (fun i _ => s.length - (intOf i).toNat)
              case atStart => exact ⟨k2, rfl, hk2, HT, rfl⟩
              case round =>
                obtain ⟨k3, rfl, hk3, HB3, rfl⟩ := hrel
                clear HT
                by_cases hlt3 : k3 < s.length
                · have hkI3 : (k3 : Int) < (s.length : Int) := by omega
                  have hks3 : k3 < (S s).size := by rw [S_size]; exact hlt3
                  by_cases hb3 : ((S s)[k3]'hks3).toNat = 32
                  · have hbI3 : (((S s)[k3]'hks3).toNat : Int) = 32 := by omega
                    have HN3 := Lib.hid ((octO_behind s u k3 hks3 (Or.inl hb3)).symm.trans HB3.out)
                    clear hb3
                    go_wp2_with fail
                    go_roundw
                    case rel => exact ⟨k3 + 1, by go_num, by omega, HN3, trivial⟩
                    case measure => simp [intOf] <;> omega
                  · have hbI3 : ¬ (((S s)[k3]'hks3).toNat : Int) = 32 := by omega
                    by_cases hb4 : ((S s)[k3]'hks3).toNat = 0
                    · have hbI4 : (((S s)[k3]'hks3).toNat : Int) = 0 := by omega
                      have HN3 := Lib.hid ((octO_behind s u k3 hks3 (Or.inr hb4)).symm.trans HB3.out)
                      clear hb3 hb4
                      go_wp2_with fail
                      go_roundw
                      case rel => exact ⟨k3 + 1, by go_num, by omega, HN3, trivial⟩
                      case measure => simp [intOf] <;> omega
                    · have hbI4 : ¬ (((S s)[k3]'hks3).toNat : Int) = 0 := by omega
                      have HRR : Hid (RR = (0, 2)) := Lib.hid (by rw [HR.out, ← HB3.out, octO_bad s u k3 hks3 (by omega)])
                      have hbB3 : ((((S s)[k3]'hks3).toNat : Int) != 32) = true := bne_iff_ne.2 hbI3
                      have hbB4 : ((((S s)[k3]'hks3).toNat : Int) != 0) = true := bne_iff_ne.2 hbI4
                      clear hb3 hb4
                      go_wp2_with fail
                      go_ret2
                      exact ⟨by rw [HRR.out]; rfl, rfl⟩
                · have hkk : k3 = s.length := by omega
                  subst hkk
                  have hkI3 : ¬ (s.length : Int) < (s.length : Int) := by omega
                  have HRR : Hid (RR = ((u : Int), 0)) := Lib.hid (by rw [HR.out, ← HB3.out, octO_end])
                  go_wp2_with fail
                  go_ret2
                  exact ⟨by rw [HRR.out]; rfl, rfl⟩
          · have hkI2 : ¬ (k2 : Int) < (s.length : Int) := by omega
            have HT := Lib.hid ((octO_turn s a u k2 hk2 (fun h => absurd (by rw [S_size] at h; exact h) hlt2) HX2.out).symm.trans HB2.out)
            go_wp2_with fail
            go_loopw [9] (fun i wr => ∃ k : Nat, i = .int .i64 k ∧ k ≤ s.length ∧ Hid (octO 2 u (s.drop k) = O) ∧ w = wr) (fun i _ => s.length - (intOf i).toNat)
            case atStart => exact ⟨k2, rfl, hk2, HT, rfl⟩
            case round =>
              obtain ⟨k3, rfl, hk3, HB3, rfl⟩ := hrel
              clear HT
              by_cases hlt3 : k3 < s.length
              · have hkI3 : (k3 : Int) < (s.length : Int) := by omega
                have hks3 : k3 < (S s).size := by rw [S_size]; exact hlt3
                by_cases hb3 : ((S s)[k3]'hks3).toNat = 32
                · have hbI3 : (((S s)[k3]'hks3).toNat : Int) = 32 := by omega
                  have HN3 := Lib.hid ((octO_behind s u k3 hks3 (Or.inl hb3)).symm.trans HB3.out)
                  clear hb3
                  go_wp2_with fail
                  go_roundw
                  case rel => exact ⟨k3 + 1, by go_num, by omega, HN3, trivial⟩
                  case measure => simp [intOf] <;> omega
                · have hbI3 : ¬ (((S s)[k3]'hks3).toNat : Int) = 32 := by omega
                  by_cases hb4 : ((S s)[k3]'hks3).toNat = 0
                  · have hbI4 : (((S s)[k3]'hks3).toNat : Int) = 0 := by omega
                    have HN3 := Lib.hid ((octO_behind s u k3 hks3 (Or.inr hb4)).symm.trans HB3.out)
                    clear hb3 hb4
                    go_wp2_with fail
                    go_roundw
                    case rel => exact ⟨k3 + 1, by go_num, by omega, HN3, trivial⟩
                    case measure => simp [intOf] <;> omega
                  · have hbI4 : ¬ (((S s)[k3]'hks3).toNat : Int) = 0 := by omega
                    have HRR : Hid (RR = (0, 2)) := Lib.hid (by rw [HR.out, ← HB3.out, octO_bad s u k3 hks3 (by omega)])
                    have hbB3 : ((((S s)[k3]'hks3).toNat : Int) != 32) = true := bne_iff_ne.2 hbI3
                    have hbB4 : ((((S s)[k3]'hks3).toNat : Int) != 0) = true := bne_iff_ne.2 hbI4
                    clear hb3 hb4
                    go_wp2_with fail
                    go_ret2
                    exact ⟨by rw [HRR.out]; rfl, rfl⟩
              · have hkk : k3 = s.length := by omega
                subst hkk
                have hkI3 : ¬ (s.length : Int) < (s.length : Int) := by omega
                have HRR : Hid (RR = ((u : Int), 0)) := Lib.hid (by rw [HR.out, ← HB3.out, octO_end])
                go_wp2_with fail
                go_ret2
                exact ⟨by rw [HRR.out]; rfl, rfl⟩
    · have hkI : ¬ (k : Int) < (s.length : Int) := by omega
      have HX : Hid (∀ h : k < (S s).size, ((S s)[k]'h).toNat ≠ 32) := Lib.hid (fun h => absurd (by rw [S_size] at h; exact h) hlt)
      go_wp2_with fail
      go_loopw [9, 10] (fun i v wr => ∃ k a u : Nat, i = .int .i64 k ∧ v = .int .i64 u ∧ k ≤ s.length ∧ a ≤ 1 ∧ Hid (u < 8 ^ k) ∧ Hid (octO a u (s.drop k) = O) ∧ Hid (a = 0 → ∀ h : k < (S s).size, ((S s)[k]'h).toNat ≠ 32) ∧ w = wr) (fun i _ _ => s.length - (intOf i).toNat)
      case atStart => exact ⟨k, 0, 0, rfl, rfl, hk, Nat.zero_le _, Lib.hid (Nat.pow_pos (by decide)), HB, Lib.hid (fun _ => HX.out), rfl⟩
      case round =>
        obtain ⟨k2, a, u, rfl, rfl, hk2, ha, HU, HB2, HX2, rfl⟩ := hrel
        have hu : u < 68719476736 := Nat.lt_of_lt_of_le HU.out (pow8_le _ (by omega))
        have huI : ¬ (u : Int) > 9007199254740991 := by omega
        clear HB HX
        by_cases hlt2 : k2 < s.length
        · have hkI2 : (k2 : Int) < (s.length : Int) := by omega
          have hks2 : k2 < (S s).size := by rw [S_size]; exact hlt2
          by_cases h48 : 48 ≤ ((S s)[k2]'hks2).toNat
          · have h48I : (((S s)[k2]'hks2).toNat : Int) ≥ 48 := by omega
            by_cases h55 : ((S s)[k2]'hks2).toNat ≤ 55
            · have h55I : (((S s)[k2]'hks2).toNat : Int) ≤ 55 := by omega
              have eD : (((S s)[k2]'hks2).toNat : Int) - 48 = ((((S s)[k2]'hks2).toNat - 48 : Nat) : Int) := by omega
              have HN2 := Lib.hid ((octO_dig s a u k2 hks2 ha h48 h55).symm.trans HB2.out)
              have HU2 := Lib.hid (pow8_step u k2 (((S s)[k2]'hks2).toNat - 48) HU.out (by omega))
              have HA : Hid (∀ W, Calls Tryd.prog 129 #[.int .i64 u, .int .i64 8, .int .i64 ((((S s)[k2]'hks2).toNat - 48 : Nat) : Int)] W fun e w' => e = .returned (.int .i64 ((u * 8 + (((S s)[k2]'hks2).toNat - 48) : Nat) : Int)) ∧ W = w') := Lib.hid (fun W => by
                have := add_any u 8 (((S s)[k2]'hks2).toNat - 48) W (by omega) (by omega) (by omega)
                rw [addO, if_neg (by omega)] at this
                exact this)
              go_wp2_with fail
              refine (HA.out _).mono ?_
              rintro e w1 ⟨rfl, rfl⟩
              go_wp2_with fail
              go_roundw
              case rel => exact ⟨k2 + 1, 1, _, by go_num, rfl, by omega, by omega, HU2, HN2, Lib.hid (fun h => absurd h (by decide)), trivial⟩
              case measure => simp [intOf] <;> omega
            · have h55I : ¬ (((S s)[k2]'hks2).toNat : Int) ≤ 55 := by omega
              have HT := Lib.hid ((octO_turn s a u k2 hk2 (fun _ => by omega) HX2.out).symm.trans HB2.out)
              go_wp2_with fail
              go_loopw [9] (fun i wr => ∃ k : Nat, i = .int .i64 k ∧ k ≤ s.length ∧ Hid (octO 2 u (s.drop k) = O) ∧ w = wr) (fun i _ => s.length - (intOf i).toNat)
              case atStart => exact ⟨k2, rfl, hk2, HT, rfl⟩
              case round =>
                obtain ⟨k3, rfl, hk3, HB3, rfl⟩ := hrel
                clear HT
                by_cases hlt3 : k3 < s.length
                · have hkI3 : (k3 : Int) < (s.length : Int) := by omega
                  have hks3 : k3 < (S s).size := by rw [S_size]; exact hlt3
                  by_cases hb3 : ((S s)[k3]'hks3).toNat = 32
                  · have hbI3 : (((S s)[k3]'hks3).toNat : Int) = 32 := by omega
                    have HN3 := Lib.hid ((octO_behind s u k3 hks3 (Or.inl hb3)).symm.trans HB3.out)
                    clear hb3
                    go_wp2_with fail
                    go_roundw
                    case rel => exact ⟨k3 + 1, by go_num, by omega, HN3, trivial⟩
                    case measure => simp [intOf] <;> omega
                  · have hbI3 : ¬ (((S s)[k3]'hks3).toNat : Int) = 32 := by omega
                    by_cases hb4 : ((S s)[k3]'hks3).toNat = 0
                    · have hbI4 : (((S s)[k3]'hks3).toNat : Int) = 0 := by omega
                      have HN3 := Lib.hid ((octO_behind s u k3 hks3 (Or.inr hb4)).symm.trans HB3.out)
                      clear hb3 hb4
                      go_wp2_with fail
                      go_roundw
                      case rel => exact ⟨k3 + 1, by go_num, by omega, HN3, trivial⟩
                      case measure => simp [intOf] <;> omega
                    · have hbI4 : ¬ (((S s)[k3]'hks3).toNat : Int) = 0 := by omega
                      have HRR : Hid (RR = (0, 2)) := Lib.hid (by rw [HR.out, ← HB3.out, octO_bad s u k3 hks3 (by omega)])
                      have hbB3 : ((((S s)[k3]'hks3).toNat : Int) != 32) = true := bne_iff_ne.2 hbI3
                      have hbB4 : ((((S s)[k3]'hks3).toNat : Int) != 0) = true := bne_iff_ne.2 hbI4
                      clear hb3 hb4
                      go_wp2_with fail
                      go_ret2
                      exact ⟨by rw [HRR.out]; rfl, rfl⟩
                · have hkk : k3 = s.length := by omega
                  subst hkk
                  have hkI3 : ¬ (s.length : Int) < (s.length : Int) := by omega
                  have HRR : Hid (RR = ((u : Int), 0)) := Lib.hid (by rw [HR.out, ← HB3.out, octO_end])
                  go_wp2_with fail
                  go_ret2
                  exact ⟨by rw [HRR.out]; rfl, rfl⟩
          · have h48I : ¬ (((S s)[k2]'hks2).toNat : Int) ≥ 48 := by omega
            have HT := Lib.hid ((octO_turn s a u k2 hk2 (fun _ => by omega) HX2.out).symm.trans HB2.out)
            go_wp2_with fail
            go_loopw [9] (fun i wr => ∃ k : Nat, i = .int .i64 k ∧ k ≤ s.length ∧ Hid (octO 2 u (s.drop k) = O) ∧ w = wr) (fun i _ => s.length - (intOf i).toNat)
            case atStart => exact ⟨k2, rfl, hk2, HT, rfl⟩
            case round =>
              obtain ⟨k3, rfl, hk3, HB3, rfl⟩ := hrel
              clear HT
              by_cases hlt3 : k3 < s.length
              · have hkI3 : (k3 : Int) < (s.length : Int) := by omega
                have hks3 : k3 < (S s).size := by rw [S_size]; exact hlt3
                by_cases hb3 : ((S s)[k3]'hks3).toNat = 32
                · have hbI3 : (((S s)[k3]'hks3).toNat : Int) = 32 := by omega
                  have HN3 := Lib.hid ((octO_behind s u k3 hks3 (Or.inl hb3)).symm.trans HB3.out)
                  clear hb3
                  go_wp2_with fail
                  go_roundw
                  case rel => exact ⟨k3 + 1, by go_num, by omega, HN3, trivial⟩
                  case measure => simp [intOf] <;> omega
                · have hbI3 : ¬ (((S s)[k3]'hks3).toNat : Int) = 32 := by omega
                  by_cases hb4 : ((S s)[k3]'hks3).toNat = 0
                  · have hbI4 : (((S s)[k3]'hks3).toNat : Int) = 0 := by omega
                    have HN3 := Lib.hid ((octO_behind s u k3 hks3 (Or.inr hb4)).symm.trans HB3.out)
                    clear hb3 hb4
                    go_wp2_with fail
                    go_roundw
                    case rel => exact ⟨k3 + 1, by go_num, by omega, HN3, trivial⟩
                    case measure => simp [intOf] <;> omega
                  · have hbI4 : ¬ (((S s)[k3]'hks3).toNat : Int) = 0 := by omega
                    have HRR : Hid (RR = (0, 2)) := Lib.hid (by rw [HR.out, ← HB3.out, octO_bad s u k3 hks3 (by omega)])
                    have hbB3 : ((((S s)[k3]'hks3).toNat : Int) != 32) = true := bne_iff_ne.2 hbI3
                    have hbB4 : ((((S s)[k3]'hks3).toNat : Int) != 0) = true := bne_iff_ne.2 hbI4
                    clear hb3 hb4
                    go_wp2_with fail
                    go_ret2
                    exact ⟨by rw [HRR.out]; rfl, rfl⟩
              · have hkk : k3 = s.length := by omega
                subst hkk
                have hkI3 : ¬ (s.length : Int) < (s.length : Int) := by omega
                have HRR : Hid (RR = ((u : Int), 0)) := Lib.hid (by rw [HR.out, ← HB3.out, octO_end])
                go_wp2_with fail
                go_ret2
                exact ⟨by rw [HRR.out]; rfl, rfl⟩
        · have hkI2 : ¬ (k2 : Int) < (s.length : Int) := by omega
          have HT := Lib.hid ((octO_turn s a u k2 hk2 (fun h => absurd (by rw [S_size] at h; exact h) hlt2) HX2.out).symm.trans HB2.out)
          go_wp2_with fail
          go_loopw [9] (fun i wr => ∃ k : Nat, i = .int .i64 k ∧ k ≤ s.length ∧ Hid (octO 2 u (s.drop k) = O) ∧ w = wr) (fun i _ => s.length - (intOf i).toNat)
          case atStart => exact ⟨k2, rfl, hk2, HT, rfl⟩
          case round =>
            obtain ⟨k3, rfl, hk3, HB3, rfl⟩ := hrel
            clear HT
            by_cases hlt3 : k3 < s.length
            · have hkI3 : (k3 : Int) < (s.length : Int) := by omega
              have hks3 : k3 < (S s).size := by rw [S_size]; exact hlt3
              by_cases hb3 : ((S s)[k3]'hks3).toNat = 32
              · have hbI3 : (((S s)[k3]'hks3).toNat : Int) = 32 := by omega
                have HN3 := Lib.hid ((octO_behind s u k3 hks3 (Or.inl hb3)).symm.trans HB3.out)
                clear hb3
                go_wp2_with fail
                go_roundw
                case rel => exact ⟨k3 + 1, by go_num, by omega, HN3, trivial⟩
                case measure => simp [intOf] <;> omega
              · have hbI3 : ¬ (((S s)[k3]'hks3).toNat : Int) = 32 := by omega
                by_cases hb4 : ((S s)[k3]'hks3).toNat = 0
                · have hbI4 : (((S s)[k3]'hks3).toNat : Int) = 0 := by omega
                  have HN3 := Lib.hid ((octO_behind s u k3 hks3 (Or.inr hb4)).symm.trans HB3.out)
                  clear hb3 hb4
                  go_wp2_with fail
                  go_roundw
                  case rel => exact ⟨k3 + 1, by go_num, by omega, HN3, trivial⟩
                  case measure => simp [intOf] <;> omega
                · have hbI4 : ¬ (((S s)[k3]'hks3).toNat : Int) = 0 := by omega
                  have HRR : Hid (RR = (0, 2)) := Lib.hid (by rw [HR.out, ← HB3.out, octO_bad s u k3 hks3 (by omega)])
                  have hbB3 : ((((S s)[k3]'hks3).toNat : Int) != 32) = true := bne_iff_ne.2 hbI3
                  have hbB4 : ((((S s)[k3]'hks3).toNat : Int) != 0) = true := bne_iff_ne.2 hbI4
                  clear hb3 hb4
                  go_wp2_with fail
                  go_ret2
                  exact ⟨by rw [HRR.out]; rfl, rfl⟩
            · have hkk : k3 = s.length := by omega
              subst hkk
              have hkI3 : ¬ (s.length : Int) < (s.length : Int) := by omega
              have HRR : Hid (RR = ((u : Int), 0)) := Lib.hid (by rw [HR.out, ← HB3.out, octO_end])
              go_wp2_with fail
              go_ret2
              exact ⟨by rw [HRR.out]; rfl, rfl⟩
end Go.Proofs.YtjldphpdfckjnaaDoor
namespace Go.Proofs.YtjldphpdfckjnaaDoor
open Go.RowKit

set_option maxRecDepth 100000 in
theorem rRead_none (s : List UInt8) (w : World) (hs : s.length ≤ 1000000) (h : s.length < 2 ∨ 12 < s.length) :
    Calls Tryd.prog 102 #[.string (S s)] w fun e w' => e = .returned (.tuple #[.int .i64 (readO s).1, .int .i64 (readO s).2]) ∧ w = w' := by
  have HR : Hid (readO s = (0, 1)) := Lib.hid (by unfold readO; rw [if_pos h])
  rcases h with h | h
  · have a1 : (s.length : Int) < 2 := by omega
    go_enter Tryd.func102, Tryd.ntmps102
    go_wp2_with fail
    go_ret2
    exact ⟨by rw [HR.out]; rfl, rfl⟩
  · have a1 : ¬ (s.length : Int) < 2 := by omega
    have a2 : (s.length : Int) > 12 := by omega
    go_enter Tryd.func102, Tryd.ntmps102
    go_wp2_with fail
    go_ret2
    exact ⟨by rw [HR.out]; rfl, rfl⟩
/-- the document's Read -/
theorem rRead_any (s : List UInt8) (w : World) (hs : s.length ≤ 1000000) :
    Calls Tryd.prog 102 #[.string (S s)] w fun e w' => e = .returned (.tuple #[.int .i64 (readO s).1, .int .i64 (readO s).2]) ∧ w = w' := by
  by_cases h : s.length < 2 ∨ 12 < s.length
  · exact rRead_none s w hs h
  have h0 : 0 < (S s).size := by rw [S_size]; omega
  by_cases h1 : ((S s)[0]'h0).toNat = 128
  · exact rRead_pos s w (by omega) (by omega) h0 h1
  by_cases h2 : ((S s)[0]'h0).toNat = 255
  · exact rRead_neg s w (by omega) (by omega) h0 h2
  exact rRead_oct s w (by omega) (by omega) h0 h1 h2
def mayO (n : Int) : Bool := decide (2 ≤ n ∧ n ≤ 12)
set_option maxRecDepth 100000 in
theorem may_any (n : Int) (w : World) : Calls Tryd.prog 123 #[.int .i64 n] w fun e w' => e = .returned (.bool (mayO n)) ∧ w = w' := by
  by_cases h : n ≥ 2
  · by_cases h2 : n ≤ 12
    · have HM : Hid (mayO n = true) := Lib.hid (decide_eq_true ⟨h, h2⟩)
      go_enter Tryd.func123, Tryd.ntmps123
      go_wp2_with fail
      go_ret
      exact ⟨by rw [HM.out]; rfl, rfl⟩
    · have HM : Hid (mayO n = false) := Lib.hid (decide_eq_false (fun e => h2 e.2))
      go_enter Tryd.func123, Tryd.ntmps123
      go_wp2_with fail
      go_ret
      exact ⟨by rw [HM.out]; rfl, rfl⟩
  · have HM : Hid (mayO n = false) := Lib.hid (decide_eq_false (fun e => h e.1))
    go_enter Tryd.func123, Tryd.ntmps123
    go_wp2_with fail
    go_ret
    exact ⟨by rw [HM.out]; rfl, rfl⟩
end Go.Proofs.YtjldphpdfckjnaaDoor
namespace Go.Proofs.YtjldphpdfckjnaaDoor
open Go.RowKit

theorem and_low (x y k : Nat) (hx : x % 2 ^ k = 0) (hy : y < 2 ^ k) : x &&& y = 0 := by
  apply Nat.eq_of_testBit_eq
  intro i
  rw [Nat.testBit_and, Nat.zero_testBit]
  by_cases h : i < k
  · obtain ⟨q, rfl⟩ := Nat.dvd_of_mod_eq_zero hx
    rw [Nat.testBit_two_pow_mul, decide_eq_false (by omega)]; rfl
  · rw [Nat.testBit_lt_two_pow (Nat.lt_of_lt_of_le hy (Nat.pow_le_pow_right (by omega) (by omega))), Bool.and_false]
theorem wrap_back (z : Int) (h1 : -9223372036854775808 ≤ z) (h2 : z ≤ 9223372036854775807) : IntKind.i64.wrap (((BitVec.ofInt 64 z).toNat : Nat) : Int) = z := by
  rw [BitVec.toNat_ofInt]
  have e : (((z % (2 ^ 64 : Nat)).toNat : Nat) : Int) = z % 18446744073709551616 := Int.toNat_of_nonneg (Int.emod_nonneg _ (by decide))
  rw [e]
  have e2 : IntKind.i64.wrap (z % 18446744073709551616) = IntKind.i64.wrap z := by
    simp [IntKind.wrap, IntKind.bits]
  rw [e2]; exact wrap_lit_i64 z h1 h2
theorem or_low (z : Int) (b : Nat) (k : Nat) (hk : k = 3 ∨ k = 8) (hz : z % 2 ^ k = 0) (hb : b < 2 ^ k) (h1 : -9223372036854775808 ≤ z + b) (h2 : z + b ≤ 9223372036854775807) : bits .or .i64 z (b : Int) = z + (b : Int) := by
  show IntKind.i64.wrap (((BitVec.ofInt 64 z ||| BitVec.ofInt 64 (b : Int)).toNat : Nat) : Int) = _
  have hand : BitVec.ofInt 64 z &&& BitVec.ofInt 64 (b : Int) = 0#64 := by
    apply BitVec.eq_of_toNat_eq
    rw [BitVec.toNat_and]
    refine and_low _ _ k ?_ ?_
    · rw [BitVec.toNat_ofInt]
      rcases hk with rfl | rfl <;> simp at hz ⊢ <;> omega
    · rw [BitVec.toNat_ofInt]
      rcases hk with rfl | rfl <;> simp at hb ⊢ <;> omega
  rw [← BitVec.add_eq_or_of_and_eq_zero _ _ hand, ← BitVec.ofInt_add]
  exact wrap_back _ h1 h2
end Go.Proofs.YtjldphpdfckjnaaDoor
