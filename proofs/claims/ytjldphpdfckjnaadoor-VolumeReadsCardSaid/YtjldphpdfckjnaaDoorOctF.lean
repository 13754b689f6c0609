/- Numbers of fields: octal's bits, of a field that begins with 128, walked. Numbers of fields: octal's bits, of a field that begins with 255, walked. -/
import Derived.Test.YtjldphpdfckjnaaDoorOctD
namespace Go.Proofs.YtjldphpdfckjnaaDoor
open Go.RowKit

theorem binO_big (f : UInt8 → Nat) : ∀ (l : List UInt8) (v : Nat), 9007199254740991 < v → binO f l v = v
  | [], _, _ => rfl
  | c :: r, v, h => by rw [binO, addO, if_pos h]; exact binO_big f r v h
set_option maxRecDepth 100000 in
set_option maxHeartbeats 2000000 in
theorem bits_pos (s : List UInt8) (w : World) (h2 : 2 ≤ s.length) (h12 : s.length ≤ 12) (h0 : 0 < (S s).size) (hc : ((S s)[0]'h0).toNat = 128) :
    Calls Tryd.prog 124 #[.string (S s)] w fun e w' => e = .returned (.tuple #[.int .i64 (readO s).1, .int .i64 (readO s).2]) ∧ w = w' := by
  have HR : Hid (readO s = if 9007199254740991 < posO s then (0, 6) else ((posO s : Int), 0)) := Lib.hid (by
    unfold readO; rw [if_neg (by omega), firstO_at s h0, if_pos hc])
  have a3 : ¬ (((S s)[0]'h0).toNat : Int) = 255 := by omega
  have a3B : ((((S s)[0]'h0).toNat : Int) == 255) = false := beq_eq_false_iff_ne.2 a3
  clear hc
  generalize readO s = RR at *
  go_enter Tryd.func124, Tryd.ntmps124
  go_wp2_with fail
  go_loopw [4, 5] (fun v i wr => ∃ k u : Nat, i = .int .i64 k ∧ v = .int .i64 u ∧ 1 ≤ k ∧ k ≤ s.length ∧ u ≤ 9007199254740991 ∧ Hid (binO (fun c => c.toNat) (s.drop k) u = posO s) ∧ w = wr) (fun _ i _ => s.length - (intOf i).toNat)
  case atStart => exact ⟨1, 0, rfl, rfl, Nat.le_refl _, by omega, by omega, Lib.hid rfl, rfl⟩
  case round =>
    obtain ⟨k, u, rfl, rfl, hk1, hk, hu, HB, rfl⟩ := hrel
    by_cases hlt : k < s.length
    · have hkI : (k : Int) < (s.length : Int) := by omega
      have hks : k < (S s).size := by rw [S_size]; exact hlt
      have hd := ((S s)[k]'hks).toNat_lt
      obtain ⟨x, hx⟩ : ∃ x : Nat, x = u * 256 + ((S s)[k]'hks).toNat := ⟨_, rfl⟩
      have HN : Hid (binO (fun c => c.toNat) (s.drop (k + 1)) x = posO s) := Lib.hid (by
        rw [← HB.out, binO_at (fun c => c.toNat) s k u hks, addO, if_neg (by omega), hx])
      have HOR : bits .or .i64 ((u : Int) * 256) (((S s)[k]'hks).toNat : Int) = (x : Int) := by
        rw [or_low ((u : Int) * 256) ((S s)[k]'hks).toNat 8 (Or.inr rfl) (by omega) (by omega) (by omega) (by omega)]; omega
      have hlo : ¬ (x : Int) < -9007199254740992 := by omega
      clear hx
      by_cases hm : 9007199254740991 < x
      · have hmI : (x : Int) > 9007199254740991 := by omega
        have HRR : Hid (RR = (0, 6)) := Lib.hid (by rw [HR.out, ← HN.out, binO_big _ _ _ hm, if_pos hm])
        go_wp2_with fail
        go_ret2
        exact ⟨by rw [HRR.out]; rfl, rfl⟩
      · have hmI : ¬ (x : Int) > 9007199254740991 := by omega
        go_wp2_with fail
        go_roundw
        case rel => exact ⟨k + 1, x, by go_num, rfl, by omega, by omega, by omega, HN, trivial⟩
        case measure => simp [intOf] <;> omega
    · have hkk : k = s.length := by omega
      subst hkk
      have hkI : ¬ (s.length : Int) < (s.length : Int) := by omega
      have hlo : ¬ (u : Int) < -9007199254740991 := by omega
      have HRR : Hid (RR = ((u : Int), 0)) := Lib.hid (by rw [HR.out, ← HB.out, binO_end, if_neg (by omega)])
      go_wp2_with fail
      go_ret2
      exact ⟨by rw [HRR.out]; rfl, rfl⟩
end Go.Proofs.YtjldphpdfckjnaaDoor
namespace Go.Proofs.YtjldphpdfckjnaaDoor
open Go.RowKit

set_option maxRecDepth 100000 in
set_option maxHeartbeats 2000000 in
theorem bits_neg (s : List UInt8) (w : World) (h2 : 2 ≤ s.length) (h12 : s.length ≤ 12) (h0 : 0 < (S s).size) (hc : ((S s)[0]'h0).toNat = 255) :
    Calls Tryd.prog 124 #[.string (S s)] w fun e w' => e = .returned (.tuple #[.int .i64 (readO s).1, .int .i64 (readO s).2]) ∧ w = w' := by
  have HR : Hid (readO s = if 9007199254740991 < negO s + 1 then (0, 6) else (-(negO s : Int) - 1, 0)) := Lib.hid (by
    unfold readO; rw [if_neg (by omega), firstO_at s h0, if_neg (by omega), if_pos hc])
  have a3 : (((S s)[0]'h0).toNat : Int) = 255 := by omega
  have a3B : ((((S s)[0]'h0).toNat : Int) == 255) = true := beq_iff_eq.2 a3
  clear hc
  generalize readO s = RR at *
  go_enter Tryd.func124, Tryd.ntmps124
  go_wp2_with fail
  go_loopw [4, 5] (fun v i wr => ∃ (k u : Nat) (z : Int), i = .int .i64 k ∧ v = .int .i64 z ∧ z = -(u : Int) - 1 ∧ 1 ≤ k ∧ k ≤ s.length ∧ u ≤ 9007199254740991 ∧ Hid (binO (fun c => 255 - c.toNat) (s.drop k) u = negO s) ∧ w = wr) (fun _ i _ => s.length - (intOf i).toNat)
  case atStart => exact ⟨1, 0, -1, rfl, rfl, by omega, Nat.le_refl _, by omega, by omega, Lib.hid rfl, rfl⟩
  case round =>
    obtain ⟨k, u, z, rfl, rfl, hz, hk1, hk, hu, HB, rfl⟩ := hrel
    by_cases hlt : k < s.length
    · have hkI : (k : Int) < (s.length : Int) := by omega
      have hks : k < (S s).size := by rw [S_size]; exact hlt
      have hd := ((S s)[k]'hks).toNat_lt
      obtain ⟨x, hx⟩ : ∃ x : Nat, x = u * 256 + (255 - ((S s)[k]'hks).toNat) := ⟨_, rfl⟩
      have HN : Hid (binO (fun c => 255 - c.toNat) (s.drop (k + 1)) x = negO s) := Lib.hid (by
        rw [← HB.out, binO_at (fun c => 255 - c.toNat) s k u hks, addO, if_neg (by omega), hx])
      obtain ⟨y, hy⟩ : ∃ y : Int, y = -(x : Int) - 1 := ⟨_, rfl⟩
      have HOR : bits .or .i64 (z * 256) (((S s)[k]'hks).toNat : Int) = y := by
        rw [or_low (z * 256) ((S s)[k]'hks).toNat 8 (Or.inr rfl) (by omega) (by omega) (by omega) (by omega)]; omega
      have hz1 : -9007199254740992 ≤ z ∧ z ≤ -1 := by omega
      have hhi : ¬ y > 9007199254740991 := by omega
      by_cases hm : 9007199254740991 < x
      · have hmI : y < -9007199254740992 := by omega
        have HRR : Hid (RR = (0, 6)) := Lib.hid (by rw [HR.out, ← HN.out, binO_big _ _ _ hm, if_pos (by omega)])
        clear hx hy hz
        go_wp2_with fail
        go_ret2
        exact ⟨by rw [HRR.out]; rfl, rfl⟩
      · have hmI : ¬ y < -9007199254740992 := by omega
        have HY := Lib.hid hy
        clear hx hy hz
        go_wp2_with fail
        go_roundw
        case rel => exact ⟨k + 1, x, y, by go_num, rfl, HY.out, by omega, by omega, by omega, HN, trivial⟩
        case measure => simp [intOf] <;> omega
    · have hkk : k = s.length := by omega
      subst hkk
      have hkI : ¬ (s.length : Int) < (s.length : Int) := by omega
      have hE : u = negO s := by rw [← HB.out, binO_end]
      by_cases hm : 9007199254740991 < u + 1
      · have hlo : z < -9007199254740991 := by omega
        have HRR : Hid (RR = (0, 6)) := Lib.hid (by rw [HR.out, ← hE, if_pos hm])
        clear hE hz
        go_wp2_with fail
        go_ret2
        exact ⟨by rw [HRR.out]; rfl, rfl⟩
      · have hlo : ¬ z < -9007199254740991 := by omega
        have HRR : Hid (RR = (z, 0)) := Lib.hid (by rw [HR.out, ← hE, if_neg hm, hz])
        clear hE hz
        go_wp2_with fail
        go_ret2
        exact ⟨by rw [HRR.out]; rfl, rfl⟩
end Go.Proofs.YtjldphpdfckjnaaDoor
