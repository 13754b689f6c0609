/- The document's Pad and Unpad; the laws SpanPads and SpanUnpads. -/
import Derived.Test.YtjaiadfpdkjkpaaDoorSpan3
namespace Go.Proofs.YtjaiadfpdkjkpaaDoor
open Go.RowKit

set_option maxRecDepth 100000 in
set_option maxHeartbeats 4000000 in
theorem rPad_any (l : List UInt8) (hl : l.length ≤ 1000000) (w : World) :
    Calls Tryd.prog 16 #[.string (S l)] w fun e w' => e = .returned (.string (S (padL l))) ∧ w' = w := by
  have hb := restI_bd l.length
  have hp := padN_int l.length
  have hp9 : padN l.length ≤ 512 := by omega
  have HP := Lib.hid hp
  clear hp
  go_enter Tryd.func16, Tryd.ntmps16
  go_wp2_with fail
  go_loopw [0] (fun v wr => wr = w ∧ ∃ k : Nat, k ≤ padN l.length ∧ v = .string (S (l ++ zerosL k))) (fun v _ => match v with | .string b => l.length + padN l.length - b.size | _ => 0)
  case atStart => exact ⟨rfl, 0, Nat.zero_le _, by simp [zerosL]⟩
  case round =>
    obtain ⟨rfl, k, hk, rfl⟩ := hrel
    have hlen : (l ++ zerosL k).length = l.length + k := by rw [List.length_append]; unfold zerosL; rw [List.length_replicate]
    have HL := Lib.hid hlen
    have hl1 : (l ++ zerosL k).length ≤ 1000512 := by omega
    have HS := Lib.hid (show S (l ++ zerosL k) ++ (⟨#[0]⟩ : ByteArray) = S (l ++ zerosL (k + 1)) by
      rw [show (⟨#[0]⟩ : ByteArray) = S [0] from rfl, S_append]
      unfold zerosL
      rw [List.replicate_succ', List.append_assoc])
    by_cases hlt : k < padN l.length
    · have hx : (((l ++ zerosL k).length : Int) % 512 != 0) = true := by
        rw [bne_iff_ne, hlen]
        have := HP.out
        unfold restI at this
        omega
      clear hlen
      generalize l ++ zerosL k = t at *
      go_wp2_with fail
      rw [HS.out]
      go_roundw
      case rel => exact ⟨by first | rfl | trivial, k + 1, by omega, rfl⟩
      case measure =>
        have h1 := HL.out
        have h2 : (S (l ++ zerosL (k + 1))).size = l.length + (k + 1) := by rw [S_size, List.length_append]; unfold zerosL; rw [List.length_replicate]
        have h3 : (S t).size = l.length + k := by rw [S_size]; exact h1
        show l.length + padN l.length - (S (l ++ zerosL (k + 1))).size < l.length + padN l.length - (S t).size
        omega
    · have hx : (((l ++ zerosL k).length : Int) % 512 != 0) = false := by
        have : ((l ++ zerosL k).length : Int) % 512 = 0 := by
          rw [hlen]
          have := HP.out
          unfold restI at this
          omega
        rw [this]; rfl
      have HE := Lib.hid (show l ++ zerosL k = padL l by unfold padL; rw [show k = padN l.length by omega])
      clear hlen
      generalize l ++ zerosL k = t at *
      go_wp2_with fail
      go_ret
      exact ⟨by rw [← HE.out]; rfl, rfl⟩
set_option maxRecDepth 100000 in
set_option maxHeartbeats 4000000 in
theorem rUnpad_any (l : List UInt8) (hl : l.length ≤ 1000000) (n : Int) (w : World) :
    Calls Tryd.prog 11 #[.string (S l), .int .i64 n] w fun e w' => e = .returned (unpV l n) ∧ w' = w := by
  rcases unp_cases l n with ⟨h1, hv⟩ | ⟨h1, h2, hv⟩ | ⟨m, rfl, hm, hrest⟩
  · have HV := Lib.hid hv
    clear hv
    go_enter Tryd.func11, Tryd.ntmps11
    go_wp2_with fail
    go_ret2
    exact ⟨by rw [HV.out]; rfl, rfl⟩
  · have HV := Lib.hid hv
    clear hv
    go_enter Tryd.func11, Tryd.ntmps11
    go_wp2_with fail
    go_ret2
    exact ⟨by rw [HV.out]; rfl, rfl⟩
  · obtain ⟨b0, b1⟩ := restI_bd m
    have hR := fun w => rblocks_any (m : Int) w (by omega) (by omega)
    have hB : 512 * (((m : Int) + restI m) / 512) = allI m := by unfold allI restI; omega
    have hA : allI m ≤ 1099511628288 ∧ 0 ≤ allI m := by unfold allI; omega
    have hA2 : (m : Int) ≤ allI m := by unfold allI; omega
    generalize ((m : Int) + restI m) / 512 = B at *
    generalize allI m = A at *
    have HR := Lib.hid hR
    have HBB := Lib.hid hB
    obtain ⟨hA0, hA1⟩ := hA
    have hB0 : 0 ≤ B := by omega
    have hB1 : B ≤ 2147483649 := by omega
    clear hR
    rcases hrest with ⟨h1, hv⟩ | ⟨h1, hv⟩ | ⟨h1, h2, h3, h4, hv⟩ | ⟨h1, h2, h3, h4, hv⟩
    · have HV := Lib.hid hv
      clear hv
      go_enter Tryd.func11, Tryd.ntmps11
      go_wp2_with fail
      refine (HR.out _).mono ?_
      rintro e w2 ⟨rfl, rfl⟩
      go_wp2_with fail
      go_ret2
      exact ⟨by rw [HV.out]; rfl, rfl⟩
    · have HV := Lib.hid hv
      have h5 : ¬ (l.length : Int) < A := by omega
      clear hv
      go_enter Tryd.func11, Tryd.ntmps11
      go_wp2_with fail
      refine (HR.out _).mono ?_
      rintro e w2 ⟨rfl, rfl⟩
      go_wp2_with fail
      refine (HR.out _).mono ?_
      rintro e w3 ⟨rfl, rfl⟩
      go_wp2_with fail
      go_ret2
      exact ⟨by rw [HV.out]; rfl, rfl⟩
    all_goals
      have HV := Lib.hid hv
      have e1 := ext_from l m
      have e2 := ext_to l m
      have hdl : (l.drop m).length ≤ 1000000 := by rw [List.length_drop]; omega
      have h33 : (m : Int) ≤ (l.length : Int) := by omega
      have hbl := fun w => rBlank_any (S (l.drop m)) (by rw [S_size]; omega) w
      rw [S_data, h4] at hbl
      have HBl := Lib.hid hbl
      clear hv h4 hbl
      generalize l.drop m = d at *
      generalize l.take m = t at *
      go_enter Tryd.func11, Tryd.ntmps11
      go_wp2_with fail
      refine (HR.out _).mono ?_
      rintro e w2 ⟨rfl, rfl⟩
      go_wp2_with fail
      refine (HR.out _).mono ?_
      rintro e w3 ⟨rfl, rfl⟩
      go_wp2_with fail
      refine (HBl.out _).mono ?_
      rintro e w4 ⟨rfl, rfl⟩
      go_wp2_with fail
      go_ret2
      exact ⟨by rw [HV.out]; rfl, rfl⟩
theorem pad_back (l : List UInt8) (h : l.length ≤ 3000) : unpV (padL l) l.length = .tuple #[.string (S l), .int .i64 0] := by
  have hb := restI_bd l.length
  have hp := padN_int l.length
  have hlen : (padL l).length = l.length + padN l.length := by unfold padL zerosL; rw [List.length_append, List.length_replicate]
  have hA : allI l.length = ((padL l).length : Int) := by unfold allI; rw [hlen, hp]; omega
  have hd : (padL l).drop l.length = zerosL (padN l.length) := by unfold padL; rw [List.drop_append_of_le_length (Nat.le_refl _), List.drop_length, List.nil_append]
  have ht : (padL l).take l.length = l := by unfold padL; rw [List.take_append_of_le_length (Nat.le_refl _), List.take_length]
  unfold unpV unpF
  rw [if_neg (by omega), hA, if_neg (by omega), if_neg (by omega), Int.toNat_natCast, hd, ht]
  have : blankB (zerosL (padN l.length)) = true := by
    unfold blankB zerosL
    rw [List.all_eq_true]
    intro x hx
    rw [List.eq_of_mem_replicate hx]
    rfl
  rw [if_pos this]
  rfl
set_option maxRecDepth 100000 in
set_option maxHeartbeats 4000000 in
theorem lawPads (s : ByteArray) (w : World) :
    Calls Tryd.prog 4 #[.string s] w fun e w' => e = .returned (.bool true) ∧ Below w.heap.size w w' := by
  by_cases hl : 3000 < s.size
  · go_enter Tryd.func4, Tryd.ntmps4
    go_wp2_with fail
    refine (awake09 _).mono ?_
    rintro e w1 ⟨rfl, hb⟩
    go_wp2_with fail
    go_ret
    exact ⟨rfl, hb⟩
  obtain ⟨l, rfl⟩ : ∃ l : List UInt8, s = S l := ⟨s.data.toList, S_eta s⟩
  have hl : ¬ 3000 < l.length := hl
  have hb := restI_bd l.length
  have hp := padN_int l.length
  have hlen : (padL l).length = l.length + padN l.length := by unfold padL zerosL; rw [List.length_append, List.length_replicate]
  have hpl : (padL l).length ≤ 4000 := by omega
  have h1 := fun w => Unpad_any (padL l) (by omega) l.length w
  rw [pad_back l (by omega)] at h1
  have H1 := Lib.hid h1
  have H2 := Lib.hid (fun w => Pad_any l (by omega) w)
  have H3 := Lib.hid (fun w => rPad_any l (by omega) w)
  have h4 := fun w => blocks_yes (l.length : Int) w (by omega) (by omega)
  have hB : 512 * (((l.length : Int) + restI l.length) / 512) = ((padL l).length : Int) := by
    rw [hlen]
    unfold restI at *
    omega
  generalize ((l.length : Int) + restI l.length) / 512 = B at *
  have H4 := Lib.hid h4
  have hB0 : 0 ≤ B := by omega
  have hB1 : B ≤ 100 := by omega
  clear h1 h4 hlen hp hb
  generalize padL l = p at *
  go_enter Tryd.func4, Tryd.ntmps4
  go_wp2_with fail
  refine (H2.out _).mono ?_
  rintro e w1 ⟨rfl, hb1⟩
  go_wp2_with fail
  refine (H1.out _).mono ?_
  rintro e w2 ⟨rfl, q, rfl⟩
  go_wp2_with fail
  refine (H4.out _).mono ?_
  rintro e w3 ⟨rfl, rfl⟩
  go_wp2_with fail
  refine (H3.out _).mono ?_
  rintro e w4 ⟨rfl, rfl⟩
  go_wp2_with fail
  refine (awake09 _).mono ?_
  rintro e w5 ⟨rfl, hb5⟩
  have hx5 := chainS (belowDrewN hb1) hb5
  go_wp2_with fail
  go_ret
  exact ⟨rfl, hx5⟩
set_option maxRecDepth 100000 in
set_option maxHeartbeats 4000000 in
theorem lawUnpads (s : ByteArray) (n : Int) (w : World) (_ : -9223372036854775808 ≤ n) (_ : n ≤ 9223372036854775807) :
    Calls Tryd.prog 3 #[.string s, .int .i64 n] w fun e w' => e = .returned (.bool true) ∧ Below w.heap.size w w' := by
  by_cases hl : 3000 < s.size
  · go_enter Tryd.func3, Tryd.ntmps3
    go_wp2_with fail
    refine (awake09 _).mono ?_
    rintro e w1 ⟨rfl, hb⟩
    go_wp2_with fail
    go_ret
    exact ⟨rfl, hb⟩
  obtain ⟨l, rfl⟩ : ∃ l : List UInt8, s = S l := ⟨s.data.toList, S_eta s⟩
  have hl : ¬ 3000 < l.length := hl
  have H1 := Lib.hid (fun w => Unpad_any l (by omega) n w)
  have H2 := Lib.hid (fun w => rUnpad_any l (by omega) n w)
  rw [show unpV l n = .tuple #[.string (S (unpF l n).1), .int .i64 ((unpF l n).2 : Nat)] from rfl] at H1 H2
  have h3 := fun w => rBlank_any (S endL) (by rw [S_size, endL_len]; decide) w
  have he : blankB endL = true := by
    have : endL = zerosL 1024 := rep_zero 1024
    rw [this]
    unfold blankB zerosL
    rw [List.all_eq_true]
    intro x hx
    rw [List.eq_of_mem_replicate hx]
    rfl
  rw [S_data, he] at h3
  have H3 := Lib.hid h3
  have HE := Lib.hid (fun w => end_any w)
  clear h3 he
  generalize unpF l n = u at *
  obtain ⟨a, c⟩ := u
  generalize endL = E at *
  go_enter Tryd.func3, Tryd.ntmps3
  go_wp2_with fail
  refine (H1.out _).mono ?_
  rintro e w1 ⟨rfl, q, rfl⟩
  go_wp2_with fail
  refine (H2.out _).mono ?_
  rintro e w2 ⟨rfl, rfl⟩
  go_wp2_with fail
  refine (HE.out _).mono ?_
  rintro e w3 ⟨rfl, hb3⟩
  go_wp2_with fail
  refine (H3.out _).mono ?_
  rintro e w4 ⟨rfl, rfl⟩
  go_wp2_with fail
  refine (awake09 _).mono ?_
  rintro e w5 ⟨rfl, hb5⟩
  have hx5 := chainS (chainS (belowDrewN (Below.refl _ _)) hb3) hb5
  go_wp2_with fail
  go_ret
  exact ⟨rfl, hx5⟩
end Go.Proofs.YtjaiadfpdkjkpaaDoor
