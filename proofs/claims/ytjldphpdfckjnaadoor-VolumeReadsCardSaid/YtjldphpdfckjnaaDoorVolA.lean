/- Payloads and their padding, the program's and the document's. -/
import Derived.Test.YtjldphpdfckjnaaDoorSpanR
import Derived.Test.YtjldphpdfckjnaaDoorBlank
import Derived.Test.YtjldphpdfckjnaaDoorShelf
namespace Go.Proofs.YtjldphpdfckjnaaDoor
open Go.RowKit

theorem rblocks_any (n : Int) (w : World) (h0 : 0 ≤ n) (h1 : n ≤ 1099511627776) :
    Calls Tryd.prog 68 #[.int .i64 n] w fun e w' => e = .returned (.int .i64 ((n + restI n) / 512)) ∧ w = w' := by
  have e : (n + restI n) / 512 = if 0 < n % 512 then n / 512 + 1 else n / 512 := by unfold restI; split <;> omega
  have E := Lib.hid e
  clear e
  go_enter Tryd.func68, Tryd.ntmps68
  go_wp2
  all_goals (go_ret; refine ⟨?_, rfl⟩; rw [E.out]; first | (rw [if_pos (by omega)]; rfl) | (rw [if_neg (by omega)]; rfl))

def zerosL (n : Nat) : List UInt8 := List.replicate n 0
theorem rep_zero (n : Nat) : Lib.repeatL [0] n = zerosL n := by
  have := Lib.repeatL_replicate 0 1 n
  rw [Nat.mul_one] at this
  exact this
def padK (n : Nat) : Nat := (restI n).toNat
theorem padK_int (n : Nat) : (restI n) = (padK n : Int) := by have := restI_bd n; unfold padK; omega
def padB (l : List UInt8) : List UInt8 := l ++ zerosL (padK l.length)
set_option maxRecDepth 100000 in
theorem Pad_any (l : List UInt8) (hl : l.length ≤ 1000000) (w : World) :
    Calls Tryd.prog 70 #[.string (S l)] w fun e w' => e = .returned (.string (S (padB l))) ∧ Below w.heap.size w w' := by
  have hb := restI_bd l.length
  have hp : padK l.length ≤ 512 := by unfold padK; omega
  have hr := fun w => rest_any (l.length : Int) w (by omega) (by omega)
  rw [padK_int] at hr
  have HR := Lib.hid hr
  have HP := Lib.hid (show S l ++ S (zerosL (padK l.length)) = S (padB l) from S_append _ _)
  have HZ := Lib.hid (rep_zero (padK l.length))
  have hzl : (zerosL (padK l.length)).length ≤ 512 := by unfold zerosL; rw [List.length_replicate]; exact hp
  clear hr hb
  generalize zerosL (padK l.length) = z at *
  generalize padK l.length = n at *
  go_enter Tryd.func70, Tryd.ntmps70
  go_wp2_with fail
  refine (HR.out _).mono ?_
  rintro e w1 ⟨rfl, rfl⟩
  go_wp2_with fail
  refine (Go.Proofs.Tryd.strings_Repeat _ n _ (by omega) (by show 1 * n ≤ _; omega)).mono ?_
  rintro e w2 ⟨rfl, hb2⟩
  rw [show (⟨#[0]⟩ : ByteArray).data.toList = [0] from rfl, HZ.out, show (⟨z.toArray⟩ : ByteArray) = S z from rfl]
  go_wp2_with fail
  go_ret
  exact ⟨by rw [← HP.out]; rfl, hb2⟩

theorem chainS {w u v : World} (h : Below w.heap.size w u) (k : Below u.heap.size u v) : Below w.heap.size w v := h.trans (k.mono h.size)
def allI (n : Int) : Int := n + restI n
def unpF (l : List UInt8) (n : Int) : List UInt8 × Nat :=
  if n < 0 ∨ 1099511627776 < n then ([], 6) else if (l.length : Int) < allI n then ([], 3) else if allI n < (l.length : Int) then ([], 2) else if blankB (l.drop n.toNat) = true then (l.take n.toNat, 0) else ([], 2)
def unpV (l : List UInt8) (n : Int) : Value := .tuple #[.string (S (unpF l n).1), .int .i64 ((unpF l n).2 : Nat)]
theorem unp_cases (l : List UInt8) (n : Int) : (n < 0 ∧ unpV l n = .tuple #[.string (S []), .int .i64 6]) ∨ (¬ n < 0 ∧ 1099511627776 < n ∧ unpV l n = .tuple #[.string (S []), .int .i64 6]) ∨
    ∃ m : Nat, n = m ∧ m ≤ 1099511627776 ∧ (((l.length : Int) < allI m ∧ unpV l n = .tuple #[.string (S []), .int .i64 3]) ∨ (allI m < (l.length : Int) ∧ unpV l n = .tuple #[.string (S []), .int .i64 2]) ∨
      (¬ (l.length : Int) < allI m ∧ ¬ allI m < (l.length : Int) ∧ m ≤ l.length ∧ blankB (l.drop m) = false ∧ unpV l n = .tuple #[.string (S []), .int .i64 2]) ∨ (¬ (l.length : Int) < allI m ∧ ¬ allI m < (l.length : Int) ∧ m ≤ l.length ∧ blankB (l.drop m) = true ∧ unpV l n = .tuple #[.string (S (l.take m)), .int .i64 0])) := by
  unfold unpV unpF
  by_cases h1 : n < 0
  · exact .inl ⟨h1, by rw [if_pos (.inl h1)]; rfl⟩
  · by_cases h2 : 1099511627776 < n
    · exact .inr (.inl ⟨h1, h2, by rw [if_pos (.inr h2)]; rfl⟩)
    · refine .inr (.inr ⟨n.toNat, by omega, by omega, ?_⟩)
      have e : ((n.toNat : Nat) : Int) = n := by omega
      rw [e, if_neg (by omega)]
      by_cases h3 : (l.length : Int) < allI n
      · exact .inl ⟨h3, by rw [if_pos h3]; rfl⟩
      · by_cases h4 : allI n < (l.length : Int)
        · exact .inr (.inl ⟨h4, by rw [if_neg h3, if_pos h4]; rfl⟩)
        · have hm : n.toNat ≤ l.length := by
            have := restI_bd n
            unfold allI at h3
            omega
          rw [if_neg h3, if_neg h4]
          by_cases h5 : blankB (l.drop n.toNat) = true
          · exact .inr (.inr (.inr ⟨h3, h4, hm, h5, by rw [if_pos h5]; rfl⟩))
          · exact .inr (.inr (.inl ⟨h3, h4, hm, by simpa using h5, by rw [if_neg h5]; rfl⟩))
theorem ext_from (l : List UInt8) (k : Nat) : (S l).extract k l.length = S (l.drop k) := by rw [S_extract, List.take_of_length_le (by rw [List.length_drop]; exact Nat.le_refl _)]
theorem ext_to (l : List UInt8) (k : Nat) : (S l).extract 0 k = S (l.take k) := by rw [S_extract, List.drop_zero, Nat.sub_zero]
set_option maxRecDepth 100000 in
set_option maxHeartbeats 4000000 in
theorem Unpad_any (l : List UInt8) (hl : l.length ≤ 1000000) (n : Int) (w : World) :
    Calls Tryd.prog 29 #[.string (S l), .int .i64 n] w fun e w' => e = .returned (unpV l n) ∧ ∃ q, w' = w.drewN q := by
  rcases unp_cases l n with ⟨h1, hv⟩ | ⟨h1, h2, hv⟩ | ⟨m, rfl, hm, hrest⟩
  · have HV := Lib.hid hv
    clear hv
    go_enter Tryd.func29, Tryd.ntmps29
    go_wp2_with fail
    refine (right_no n _ (.inl h1)).mono ?_
    rintro e w1 ⟨rfl, rfl⟩
    go_wp2_with fail
    go_ret2
    exact ⟨by rw [HV.out]; rfl, 0, rfl⟩
  · have HV := Lib.hid hv
    clear hv
    go_enter Tryd.func29, Tryd.ntmps29
    go_wp2_with fail
    refine (right_no n _ (.inr h2)).mono ?_
    rintro e w1 ⟨rfl, rfl⟩
    go_wp2_with fail
    go_ret2
    exact ⟨by rw [HV.out]; rfl, 0, rfl⟩
  · obtain ⟨b0, b1⟩ := restI_bd m
    have HA := Lib.hid (show allI m = (m : Int) + restI m from rfl)
    have hR := fun w => rest_any (m : Int) w (by omega) (by omega)
    rw [HA.out] at hrest
    generalize restI m = r at *
    have HR := Lib.hid hR
    clear hR
    rcases hrest with ⟨h1, hv⟩ | ⟨h1, hv⟩ | ⟨h1, h2, h3, h4, hv⟩ | ⟨h1, h2, h3, h4, hv⟩
    · have HV := Lib.hid hv
      clear hv
      go_enter Tryd.func29, Tryd.ntmps29
      go_wp2_with fail
      refine (right_yes m _ (by omega) (by omega)).mono ?_
      rintro e w1 ⟨rfl, rfl⟩
      go_wp2_with fail
      refine (HR.out _).mono ?_
      rintro e w2 ⟨rfl, rfl⟩
      go_wp2_with fail
      go_ret2
      exact ⟨by rw [HV.out]; rfl, 0, rfl⟩
    · have HV := Lib.hid hv
      have h5 : ¬ (l.length : Int) < (m : Int) + r := by omega
      clear hv
      go_enter Tryd.func29, Tryd.ntmps29
      go_wp2_with fail
      refine (right_yes m _ (by omega) (by omega)).mono ?_
      rintro e w1 ⟨rfl, rfl⟩
      go_wp2_with fail
      refine (HR.out _).mono ?_
      rintro e w2 ⟨rfl, rfl⟩
      go_wp2_with fail
      go_ret2
      exact ⟨by rw [HV.out]; rfl, 0, rfl⟩
    all_goals
      have HV := Lib.hid hv
      have e1 := ext_from l m
      have e2 := ext_to l m
      have hb := trim_blank (l.drop m)
      rw [h4] at hb
      have HB := Lib.hid hb
      have hdl : (l.drop m).length ≤ 1000000 := by rw [List.length_drop]; omega
      have h33 : (m : Int) ≤ (l.length : Int) := by omega
      clear hv hb h4
      generalize l.drop m = d at *
      generalize l.take m = t at *
      go_enter Tryd.func29, Tryd.ntmps29
      go_wp2_with fail
      refine (right_yes m _ (by omega) (by omega)).mono ?_
      rintro e w1 ⟨rfl, rfl⟩
      go_wp2_with fail
      refine (HR.out _).mono ?_
      rintro e w2 ⟨rfl, rfl⟩
      go_wp2_with fail
      refine (Go.Proofs.Tryd.strings_Trim_one (S d) 0 (by decide) _ (by rw [S_size]; omega)).mono ?_
      rintro e w3 ⟨rfl, hw3⟩
      obtain ⟨q, rfl⟩ : ∃ q, w3 = w.drewN q := hw3.elim (fun h => ⟨0, h⟩) (fun h => ⟨1, h⟩)
      rw [S_data, show (⟨(Lib.trimB d 0).toArray⟩ : ByteArray) = S (Lib.trimB d 0) from rfl]
      have hb := HB.out
      generalize Lib.trimB d 0 = z at *
      go_wp2_with fail
      go_ret2
      exact ⟨by rw [HV.out]; rfl, q, rfl⟩

set_option maxRecDepth 100000 in
set_option maxHeartbeats 4000000 in
theorem rPad_any (l : List UInt8) (hl : l.length ≤ 1000000) (w : World) :
    Calls Tryd.prog 26 #[.string (S l)] w fun e w' => e = .returned (.string (S (padB l))) ∧ w' = w := by
  have hb := restI_bd l.length
  have hp := padK_int l.length
  have hp9 : padK l.length ≤ 512 := by omega
  have HP := Lib.hid hp
  clear hp
  go_enter Tryd.func26, Tryd.ntmps26
  go_wp2_with fail
  go_loopw [0] (fun v wr => wr = w ∧ ∃ k : Nat, k ≤ padK l.length ∧ v = .string (S (l ++ zerosL k))) (fun v _ => match v with | .string b => l.length + padK l.length - b.size | _ => 0)
  case atStart => exact ⟨rfl, 0, Nat.zero_le _, by simp [zerosL]⟩
  case round =>
    obtain ⟨rfl, k, hk, rfl⟩ := hrel
    have hlen : (l ++ zerosL k).length = l.length + k := by rw [List.length_append]; unfold zerosL; rw [List.length_replicate]
    have HL := Lib.hid hlen
    have hl1 : (l ++ zerosL k).length ≤ 1000512 := by omega
    have HS := Lib.hid (show S (l ++ zerosL k) ++ (⟨#[0]⟩ : ByteArray) = S (l ++ zerosL (k + 1)) by
      rw [show (⟨#[0]⟩ : ByteArray) = S [0] from rfl, S_append]
      unfold zerosL
      rw [List.replicate_succ', List.append_assoc])
    by_cases hlt : k < padK l.length
    · have hx : (((l ++ zerosL k).length : Int) % 512 != 0) = true := by
        rw [bne_iff_ne, hlen]
        have := HP.out
        unfold restI at this
        omega
      clear hlen
      generalize l ++ zerosL k = t at *
      go_wp2_with fail
      rw [HS.out]
      go_roundw
      case rel => exact ⟨by first | rfl | trivial, k + 1, by omega, rfl⟩
      case measure =>
        have h1 := HL.out
        have h2 : (S (l ++ zerosL (k + 1))).size = l.length + (k + 1) := by rw [S_size, List.length_append]; unfold zerosL; rw [List.length_replicate]
        have h3 : (S t).size = l.length + k := by rw [S_size]; exact h1
        show l.length + padK l.length - (S (l ++ zerosL (k + 1))).size < l.length + padK l.length - (S t).size
        omega
    · have hx : (((l ++ zerosL k).length : Int) % 512 != 0) = false := by
        have : ((l ++ zerosL k).length : Int) % 512 = 0 := by
          rw [hlen]
          have := HP.out
          unfold restI at this
          omega
        rw [this]; rfl
      have HE := Lib.hid (show l ++ zerosL k = padB l by unfold padB; rw [show k = padK l.length by omega])
      clear hlen
      generalize l ++ zerosL k = t at *
      go_wp2_with fail
      go_ret
      exact ⟨by rw [← HE.out]; rfl, rfl⟩
set_option maxRecDepth 100000 in
set_option maxHeartbeats 4000000 in
theorem rUnpad_any (l : List UInt8) (hl : l.length ≤ 1000000) (n : Int) (w : World) :
    Calls Tryd.prog 32 #[.string (S l), .int .i64 n] w fun e w' => e = .returned (unpV l n) ∧ w' = w := by
  rcases unp_cases l n with ⟨h1, hv⟩ | ⟨h1, h2, hv⟩ | ⟨m, rfl, hm, hrest⟩
  · have HV := Lib.hid hv
    clear hv
    go_enter Tryd.func32, Tryd.ntmps32
    go_wp2_with fail
    go_ret2
    exact ⟨by rw [HV.out]; rfl, rfl⟩
  · have HV := Lib.hid hv
    clear hv
    go_enter Tryd.func32, Tryd.ntmps32
    go_wp2_with fail
    go_ret2
    exact ⟨by rw [HV.out]; rfl, rfl⟩
  · obtain ⟨b0, b1⟩ := restI_bd m
    have hR := fun w => rblocks_any (m : Int) w (by omega) (by omega)
    have hB : 512 * (((m : Int) + restI m) / 512) = allI m := by unfold allI restI; omega
    have hA : allI m ≤ 1099511628288 ∧ 0 ≤ allI m := by unfold allI; omega
    have hA2 : (m : Int) ≤ allI m := by unfold allI; omega
    generalize ((m : Int) + restI m) / 512 = B at *
    generalize allI m = A at *
    have HR := Lib.hid hR
    have HBB := Lib.hid hB
    obtain ⟨hA0, hA1⟩ := hA
    have hB0 : 0 ≤ B := by omega
    have hB1 : B ≤ 2147483649 := by omega
    clear hR
    rcases hrest with ⟨h1, hv⟩ | ⟨h1, hv⟩ | ⟨h1, h2, h3, h4, hv⟩ | ⟨h1, h2, h3, h4, hv⟩
    · have HV := Lib.hid hv
      clear hv
      go_enter Tryd.func32, Tryd.ntmps32
      go_wp2_with fail
      refine (HR.out _).mono ?_
      rintro e w2 ⟨rfl, rfl⟩
      go_wp2_with fail
      go_ret2
      exact ⟨by rw [HV.out]; rfl, rfl⟩
    · have HV := Lib.hid hv
      have h5 : ¬ (l.length : Int) < A := by omega
      clear hv
      go_enter Tryd.func32, Tryd.ntmps32
      go_wp2_with fail
      refine (HR.out _).mono ?_
      rintro e w2 ⟨rfl, rfl⟩
      go_wp2_with fail
      refine (HR.out _).mono ?_
      rintro e w3 ⟨rfl, rfl⟩
      go_wp2_with fail
      go_ret2
      exact ⟨by rw [HV.out]; rfl, rfl⟩
    all_goals
      have HV := Lib.hid hv
      have e1 := ext_from l m
      have e2 := ext_to l m
      have hdl : (l.drop m).length ≤ 1000000 := by rw [List.length_drop]; omega
      have h33 : (m : Int) ≤ (l.length : Int) := by omega
      have hbl := fun w => rBlank_any (S (l.drop m)) (by rw [S_size]; omega) w
      rw [S_data, h4] at hbl
      have HBl := Lib.hid hbl
      clear hv h4 hbl
      generalize l.drop m = d at *
      generalize l.take m = t at *
      go_enter Tryd.func32, Tryd.ntmps32
      go_wp2_with fail
      refine (HR.out _).mono ?_
      rintro e w2 ⟨rfl, rfl⟩
      go_wp2_with fail
      refine (HR.out _).mono ?_
      rintro e w3 ⟨rfl, rfl⟩
      go_wp2_with fail
      refine (HBl.out _).mono ?_
      rintro e w4 ⟨rfl, rfl⟩
      go_wp2_with fail
      go_ret2
      exact ⟨by rw [HV.out]; rfl, rfl⟩
theorem pad_back (l : List UInt8) (h : l.length ≤ 3000) : unpV (padB l) l.length = .tuple #[.string (S l), .int .i64 0] := by
  have hb := restI_bd l.length
  have hp := padK_int l.length
  have hlen : (padB l).length = l.length + padK l.length := by unfold padB zerosL; rw [List.length_append, List.length_replicate]
  have hA : allI l.length = ((padB l).length : Int) := by unfold allI; rw [hlen, hp]; omega
  have hd : (padB l).drop l.length = zerosL (padK l.length) := by unfold padB; rw [List.drop_append_of_le_length (Nat.le_refl _), List.drop_length, List.nil_append]
  have ht : (padB l).take l.length = l := by unfold padB; rw [List.take_append_of_le_length (Nat.le_refl _), List.take_length]
  unfold unpV unpF
  rw [if_neg (by omega), hA, if_neg (by omega), if_neg (by omega), Int.toNat_natCast, hd, ht]
  have : blankB (zerosL (padK l.length)) = true := by
    unfold blankB zerosL
    rw [List.all_eq_true]
    intro x hx
    rw [List.eq_of_mem_replicate hx]
    rfl
  rw [if_pos this]
  rfl
end Go.Proofs.YtjldphpdfckjnaaDoor
