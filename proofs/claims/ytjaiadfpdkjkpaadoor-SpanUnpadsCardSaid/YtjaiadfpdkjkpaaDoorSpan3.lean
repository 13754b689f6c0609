/- span.Unpad and the document's Pad and Unpad. -/
import Derived.Test.YtjaiadfpdkjkpaaDoorSpan2
namespace Go.Proofs.YtjaiadfpdkjkpaaDoor
open Go.RowKit

theorem chainS {w u v : World} (h : Below w.heap.size w u) (k : Below u.heap.size u v) : Below w.heap.size w v := h.trans (k.mono h.size)
def allI (n : Int) : Int := n + restI n
def unpF (l : List UInt8) (n : Int) : List UInt8 × Nat :=
  if n < 0 ∨ 1099511627776 < n then ([], 6) else if (l.length : Int) < allI n then ([], 3) else if allI n < (l.length : Int) then ([], 2) else if blankB (l.drop n.toNat) = true then (l.take n.toNat, 0) else ([], 2)
def unpV (l : List UInt8) (n : Int) : Value := .tuple #[.string (S (unpF l n).1), .int .i64 ((unpF l n).2 : Nat)]
theorem unp_cases (l : List UInt8) (n : Int) : (n < 0 ∧ unpV l n = .tuple #[.string (S []), .int .i64 6]) ∨ (¬ n < 0 ∧ 1099511627776 < n ∧ unpV l n = .tuple #[.string (S []), .int .i64 6]) ∨
    ∃ m : Nat, n = m ∧ m ≤ 1099511627776 ∧ (((l.length : Int) < allI m ∧ unpV l n = .tuple #[.string (S []), .int .i64 3]) ∨ (allI m < (l.length : Int) ∧ unpV l n = .tuple #[.string (S []), .int .i64 2]) ∨
      (¬ (l.length : Int) < allI m ∧ ¬ allI m < (l.length : Int) ∧ m ≤ l.length ∧ blankB (l.drop m) = false ∧ unpV l n = .tuple #[.string (S []), .int .i64 2]) ∨ (¬ (l.length : Int) < allI m ∧ ¬ allI m < (l.length : Int) ∧ m ≤ l.length ∧ blankB (l.drop m) = true ∧ unpV l n = .tuple #[.string (S (l.take m)), .int .i64 0])) := by
  unfold unpV unpF
  by_cases h1 : n < 0
  · exact .inl ⟨h1, by rw [if_pos (.inl h1)]; rfl⟩
  · by_cases h2 : 1099511627776 < n
    · exact .inr (.inl ⟨h1, h2, by rw [if_pos (.inr h2)]; rfl⟩)
    · refine .inr (.inr ⟨n.toNat, by omega, by omega, ?_⟩)
      have e : ((n.toNat : Nat) : Int) = n := by omega
      rw [e, if_neg (by omega)]
      by_cases h3 : (l.length : Int) < allI n
      · exact .inl ⟨h3, by rw [if_pos h3]; rfl⟩
      · by_cases h4 : allI n < (l.length : Int)
        · exact .inr (.inl ⟨h4, by rw [if_neg h3, if_pos h4]; rfl⟩)
        · have hm : n.toNat ≤ l.length := by
            have := restI_bd n
            unfold allI at h3
            omega
          rw [if_neg h3, if_neg h4]
          by_cases h5 : blankB (l.drop n.toNat) = true
          · exact .inr (.inr (.inr ⟨h3, h4, hm, h5, by rw [if_pos h5]; rfl⟩))
          · exact .inr (.inr (.inl ⟨h3, h4, hm, by simpa using h5, by rw [if_neg h5]; rfl⟩))
theorem ext_from (l : List UInt8) (k : Nat) : (S l).extract k l.length = S (l.drop k) := by rw [S_extract, List.take_of_length_le (by rw [List.length_drop]; exact Nat.le_refl _)]
theorem ext_to (l : List UInt8) (k : Nat) : (S l).extract 0 k = S (l.take k) := by rw [S_extract, List.drop_zero, Nat.sub_zero]
set_option maxRecDepth 100000 in
set_option maxHeartbeats 4000000 in
theorem Unpad_any (l : List UInt8) (hl : l.length ≤ 1000000) (n : Int) (w : World) :
    Calls Tryd.prog 10 #[.string (S l), .int .i64 n] w fun e w' => e = .returned (unpV l n) ∧ ∃ q, w' = w.drewN q := by
  rcases unp_cases l n with ⟨h1, hv⟩ | ⟨h1, h2, hv⟩ | ⟨m, rfl, hm, hrest⟩
  · have HV := Lib.hid hv
    clear hv
    go_enter Tryd.func10, Tryd.ntmps10
    go_wp2_with fail
    refine (right_no n _ (.inl h1)).mono ?_
    rintro e w1 ⟨rfl, rfl⟩
    go_wp2_with fail
    go_ret2
    exact ⟨by rw [HV.out]; rfl, 0, rfl⟩
  · have HV := Lib.hid hv
    clear hv
    go_enter Tryd.func10, Tryd.ntmps10
    go_wp2_with fail
    refine (right_no n _ (.inr h2)).mono ?_
    rintro e w1 ⟨rfl, rfl⟩
    go_wp2_with fail
    go_ret2
    exact ⟨by rw [HV.out]; rfl, 0, rfl⟩
  · obtain ⟨b0, b1⟩ := restI_bd m
    have HA := Lib.hid (show allI m = (m : Int) + restI m from rfl)
    have hR := fun w => rest_any (m : Int) w (by omega) (by omega)
    rw [HA.out] at hrest
    generalize restI m = r at *
    have HR := Lib.hid hR
    clear hR
    rcases hrest with ⟨h1, hv⟩ | ⟨h1, hv⟩ | ⟨h1, h2, h3, h4, hv⟩ | ⟨h1, h2, h3, h4, hv⟩
    · have HV := Lib.hid hv
      clear hv
      go_enter Tryd.func10, Tryd.ntmps10
      go_wp2_with fail
      refine (right_yes m _ (by omega) (by omega)).mono ?_
      rintro e w1 ⟨rfl, rfl⟩
      go_wp2_with fail
      refine (HR.out _).mono ?_
      rintro e w2 ⟨rfl, rfl⟩
      go_wp2_with fail
      go_ret2
      exact ⟨by rw [HV.out]; rfl, 0, rfl⟩
    · have HV := Lib.hid hv
      have h5 : ¬ (l.length : Int) < (m : Int) + r := by omega
      clear hv
      go_enter Tryd.func10, Tryd.ntmps10
      go_wp2_with fail
      refine (right_yes m _ (by omega) (by omega)).mono ?_
      rintro e w1 ⟨rfl, rfl⟩
      go_wp2_with fail
      refine (HR.out _).mono ?_
      rintro e w2 ⟨rfl, rfl⟩
      go_wp2_with fail
      go_ret2
      exact ⟨by rw [HV.out]; rfl, 0, rfl⟩
    all_goals
      have HV := Lib.hid hv
      have e1 := ext_from l m
      have e2 := ext_to l m
      have hb := trim_blank (l.drop m)
      rw [h4] at hb
      have HB := Lib.hid hb
      have hdl : (l.drop m).length ≤ 1000000 := by rw [List.length_drop]; omega
      have h33 : (m : Int) ≤ (l.length : Int) := by omega
      clear hv hb h4
      generalize l.drop m = d at *
      generalize l.take m = t at *
      go_enter Tryd.func10, Tryd.ntmps10
      go_wp2_with fail
      refine (right_yes m _ (by omega) (by omega)).mono ?_
      rintro e w1 ⟨rfl, rfl⟩
      go_wp2_with fail
      refine (HR.out _).mono ?_
      rintro e w2 ⟨rfl, rfl⟩
      go_wp2_with fail
      refine (Go.Proofs.Tryd.strings_Trim_one (S d) 0 (by decide) _ (by rw [S_size]; omega)).mono ?_
      rintro e w3 ⟨rfl, hw3⟩
      obtain ⟨q, rfl⟩ : ∃ q, w3 = w.drewN q := hw3.elim (fun h => ⟨0, h⟩) (fun h => ⟨1, h⟩)
      rw [S_data, show (⟨(Lib.trimB d 0).toArray⟩ : ByteArray) = S (Lib.trimB d 0) from rfl]
      have hb := HB.out
      generalize Lib.trimB d 0 = z at *
      go_wp2_with fail
      go_ret2
      exact ⟨by rw [HV.out]; rfl, q, rfl⟩
end Go.Proofs.YtjaiadfpdkjkpaaDoor
