/- Numbers of fields: octal's digits, walked. -/
import Derived.Test.YtjldphpdfckjnaaDoorOctC
import Derived.Test.YtjldphpdfckjnaaDoorLabel
namespace Go.Proofs.YtjldphpdfckjnaaDoor
open Go.RowKit

def octR (O : Option Nat) : Int × Nat := match O with | none => (0, 2) | some v => ((v : Int), 0)
set_option maxRecDepth 100000 in
set_option maxHeartbeats 2000000 in
theorem digits_any (s : List UInt8) (w : World) (h12 : s.length ≤ 12) :
    Calls Tryd.prog 125 #[.string (S s)] w fun e w' => e = .returned (.tuple #[.int .i64 (octR (octO 0 0 s)).1, .int .i64 (octR (octO 0 0 s)).2]) ∧ w = w' := by
  generalize hO : octO 0 0 s = O
  have HO := Lib.hid hO
  clear hO
  generalize hR : octR O = RR
  have HR := Lib.hid hR
  clear hR
  go_enter Tryd.func125, Tryd.ntmps125
  go_wp2_with fail
  refine scope_l2 0 (fun _ _ => False) (fun _ _ => 0) rfl rfl (fun _ _ h => h.elim) (fun hJ => ?_)
  clear hJ
  go_wp2_with fail
  try refine wp_label ?_
  go_wp2_with fail
  go_loopw [4, 5, 6, 11] (fun va vv vo vi wr => ∃ k a u : Nat, vo = .bool false ∧ vi = .int .i64 k ∧ va = .int .i64 a ∧ vv = .int .i64 u ∧ k ≤ s.length ∧ a ≤ 2 ∧ Hid (u < 8 ^ k) ∧ Hid (octO a u (s.drop k) = O) ∧ w = wr) (fun _ _ _ vi _ => s.length - (intOf vi).toNat)
  case atStart => exact ⟨0, 0, 0, rfl, rfl, rfl, rfl, Nat.zero_le _, by omega, Lib.hid (by decide), HO, rfl⟩
  case round =>
    obtain ⟨k, a, u, rfl, rfl, rfl, rfl, hk, ha, HU, HB, rfl⟩ := hrel
    clear HO
    have hu : u < 68719476736 := Nat.lt_of_lt_of_le HU.out (pow8_le _ (by omega))
    by_cases hlt : k < s.length
    · have hkI : (k : Int) < (s.length : Int) := by omega
      have hks : k < (S s).size := by rw [S_size]; exact hlt
      have HAT := Lib.hid (octO_at s a u k hks)
      have hcl := ((S s)[k]'hks).toNat_lt
      by_cases hdg : 48 ≤ ((S s)[k]'hks).toNat ∧ ((S s)[k]'hks).toNat ≤ 55 ∧ a ≠ 2
      · obtain ⟨h48, h55, ha2⟩ := hdg
        have h48I : (((S s)[k]'hks).toNat : Int) ≥ 48 := by omega
        have h55I : (((S s)[k]'hks).toNat : Int) ≤ 55 := by omega
        have haI : ¬ (a : Int) = 2 := by omega
        have haB : ((a : Int) != 2) = true := bne_iff_ne.2 haI
        obtain ⟨x, hx⟩ : ∃ x : Nat, x = u * 8 + (((S s)[k]'hks).toNat - 48) := ⟨_, rfl⟩
        have HN : Hid (octO 1 x (s.drop (k + 1)) = O) := Lib.hid (by rw [hx, ← HB.out, HAT.out, if_pos ⟨h48, h55, ha2⟩])
        have HU2 : Hid (x < 8 ^ (k + 1)) := Lib.hid (by rw [hx]; exact pow8_step u k (((S s)[k]'hks).toNat - 48) HU.out (by omega))
        have eD : (((S s)[k]'hks).toNat : Int) - 48 = ((((S s)[k]'hks).toNat - 48 : Nat) : Int) := by omega
        have HOR : bits .or .i64 ((u : Int) * 8) ((((S s)[k]'hks).toNat : Int) - 48) = (x : Int) := by
          rw [eD, or_low ((u : Int) * 8) (((S s)[k]'hks).toNat - 48) 3 (Or.inl rfl) (by omega) (by omega) (by omega) (by omega)]; omega
        clear eD
        have hvI : ¬ (x : Int) > 9007199254740991 := by omega
        clear hx
        go_wp2_with fail
        go_roundw
        case rel => exact ⟨k + 1, 1, x, rfl, by go_num, rfl, rfl, by omega, by omega, HU2, HN, trivial⟩
        case measure => simp [intOf] <;> omega
      · have HUW : Hid (u < 8 ^ (k + 1)) := Lib.hid (Nat.lt_of_lt_of_le HU.out (Nat.pow_le_pow_right (by omega) (by omega)))
        by_cases h32 : ((S s)[k]'hks).toNat = 32
        · have hcI : (((S s)[k]'hks).toNat : Int) = 32 := by omega
          have h48I : ¬ (((S s)[k]'hks).toNat : Int) ≥ 48 := by omega
          by_cases ha0 : a = 0
          · have haI : (a : Int) = 0 := by omega
            have haB : ((a : Int) == 0) = true := beq_iff_eq.2 haI
            have HN : Hid (octO a u (s.drop (k + 1)) = O) := Lib.hid (by rw [← HB.out, HAT.out, if_neg hdg, if_pos ⟨h32, ha0⟩, ha0])
            clear hdg h32 ha0
            go_wp2_with fail
            go_roundw
            case rel => exact ⟨k + 1, a, u, rfl, by go_num, rfl, rfl, by omega, by omega, HUW, HN, trivial⟩
            case measure => simp [intOf] <;> omega
          · have haI : ¬ (a : Int) = 0 := by omega
            have haB : ((a : Int) == 0) = false := beq_eq_false_iff_ne.2 haI
            have HN : Hid (octO 2 u (s.drop (k + 1)) = O) := Lib.hid (by rw [← HB.out, HAT.out, if_neg hdg, if_neg (fun e => ha0 e.2), if_pos (Or.inl h32)])
            clear hdg h32 ha0
            go_wp2_with fail
            go_roundw
            case rel => exact ⟨k + 1, 2, u, rfl, by go_num, rfl, rfl, by omega, by omega, HUW, HN, trivial⟩
            case measure => simp [intOf] <;> omega
        · have h32I : ¬ (((S s)[k]'hks).toNat : Int) = 32 := by omega
          have h32B : ((((S s)[k]'hks).toNat : Int) == 32) = false := beq_eq_false_iff_ne.2 h32I
          by_cases hz : ((S s)[k]'hks).toNat = 0
          · have hcI : (((S s)[k]'hks).toNat : Int) = 0 := by omega
            have h48I : ¬ (((S s)[k]'hks).toNat : Int) ≥ 48 := by omega
            have HN : Hid (octO 2 u (s.drop (k + 1)) = O) := Lib.hid (by rw [← HB.out, HAT.out, if_neg hdg, if_neg (fun e => h32 e.1), if_pos (Or.inr hz)])
            clear hdg h32 hz
            go_wp2_with fail
            go_roundw
            case rel => exact ⟨k + 1, 2, u, rfl, by go_num, rfl, rfl, by omega, by omega, HUW, HN, trivial⟩
            case measure => simp [intOf] <;> omega
          · have hzI : ¬ (((S s)[k]'hks).toNat : Int) = 0 := by omega
            have hzB : ((((S s)[k]'hks).toNat : Int) == 0) = false := beq_eq_false_iff_ne.2 hzI
            have HRR : Hid (RR = (0, 2)) := Lib.hid (by rw [← HR.out, ← HB.out, HAT.out, if_neg hdg, if_neg (fun e => h32 e.1), if_neg (by omega)]; rfl)
            have h3 : ((S s)[k]'hks).toNat < 48 ∨ 55 < ((S s)[k]'hks).toNat ∨ (48 ≤ ((S s)[k]'hks).toNat ∧ ((S s)[k]'hks).toNat ≤ 55 ∧ a = 2) := by omega
            clear hdg h32 hz
            rcases h3 with h | h | ⟨h48, h55, h⟩
            · have h48I : ¬ (((S s)[k]'hks).toNat : Int) ≥ 48 := by omega
              go_wp2_with fail
              simp only [Exit.jump]
              go_ret2
              exact ⟨by rw [HRR.out]; rfl, rfl⟩
            · have h48I : (((S s)[k]'hks).toNat : Int) ≥ 48 := by omega
              have h55I : ¬ (((S s)[k]'hks).toNat : Int) ≤ 55 := by omega
              go_wp2_with fail
              simp only [Exit.jump]
              go_ret2
              exact ⟨by rw [HRR.out]; rfl, rfl⟩
            · have h48I : (((S s)[k]'hks).toNat : Int) ≥ 48 := by omega
              have h55I : (((S s)[k]'hks).toNat : Int) ≤ 55 := by omega
              have haI : (a : Int) = 2 := by omega
              have haB : ((a : Int) != 2) = false := by rw [haI]; rfl
              go_wp2_with fail
              simp only [Exit.jump]
              go_ret2
              exact ⟨by rw [HRR.out]; rfl, rfl⟩
    · have hkk : k = s.length := by omega
      subst hkk
      have hkI : ¬ (s.length : Int) < (s.length : Int) := by omega
      have HRR : Hid (RR = ((u : Int), 0)) := Lib.hid (by rw [← HR.out, ← HB.out, octO_end]; rfl)
      go_wp2_with fail
      simp only [Exit.jump]
      go_ret2
      exact ⟨by rw [HRR.out]; rfl, rfl⟩
end Go.Proofs.YtjldphpdfckjnaaDoor
