/- Volumes: the sum of bytes and a volume, the program's and the document's, walked. -/
import Derived.Test.YtjldphpdfckjnaaDoorVolP
import Derived.Test.YtjldphpdfckjnaaDoorHdO
import Derived.Test.YtjldphpdfckjnaaDoorHdV
namespace Go.Proofs.YtjldphpdfckjnaaDoor
open Go.RowKit

theorem sumB_S (l : List UInt8) (k : Nat) (h : k < (S l).size) : sumB (l.take (k + 1)) = sumB (l.take k) + ((S l)[k]'h).toNat := by
  have h2 : k < l.length := by rw [S_size] at h; exact h
  rw [sumB_take l k h2]
  rfl
theorem sumB_tk (l : List UInt8) (k : Nat) (h : l.length ≤ 1000000) : sumB (l.take k) ≤ 255000000 := by
  have := sumB_le (l.take k)
  rw [List.length_take] at this
  omega
set_option maxRecDepth 100000 in
theorem vsum_any (l : List UInt8) (hl : l.length ≤ 1000000) (w : World) :
    Calls Tryd.prog 30 #[.string (S l)] w fun e w' => e = .returned (.int .i64 (sumB l : Nat)) ∧ w = w' := by
  go_enter Tryd.func30, Tryd.ntmps30
  go_wp2
  go_loop [3, 7] (fun n i => ∃ k : Nat, k ≤ l.length ∧ i = .int .i64 k ∧ n = .int .i64 (sumB (l.take k) : Nat)) (fun _ i => l.length - (intOf i).toNat)
  case atStart => exact ⟨0, Nat.zero_le _, rfl, rfl⟩
  case round =>
    obtain ⟨k, hk, rfl, rfl⟩ := hrel
    have hb := sumB_tk l k hl
    by_cases hlt : k < l.length
    · have hlt2 : k < (S l).size := by rw [S_size]; exact hlt
      have HS := Lib.hid (sumB_S l k hlt2)
      have hc := ((S l)[k]'hlt2).toNat_lt
      generalize sumB (l.take k) = A at *
      go_wp2
      go_round
      case rel => exact ⟨k + 1, by omega, by go_num, by rw [HS.out]; go_num⟩
      case measure => simp [intOf]; omega
    · have he : k = l.length := by omega
      have HL := Lib.hid (show sumB (l.take k) = sumB l by rw [he, List.take_length])
      have hbA : sumB l ≤ 255000000 := by rw [← HL.out]; exact hb
      clear he
      generalize sumB (l.take k) = A at *
      go_wp2
      go_ret
      exact ⟨by rw [HL.out]; rfl, rfl⟩
set_option maxRecDepth 100000 in
theorem rvsum_any (l : List UInt8) (hl : l.length ≤ 1000000) (w : World) :
    Calls Tryd.prog 25 #[.string (S l)] w fun e w' => e = .returned (.int .i64 (sumB l : Nat)) ∧ w = w' := by
  go_enter Tryd.func25, Tryd.ntmps25
  go_wp2
  go_loop [3, 4] (fun n i => ∃ k : Nat, k ≤ l.length ∧ i = .int .i64 k ∧ n = .int .i64 (sumB (l.take k) : Nat)) (fun _ i => l.length - (intOf i).toNat)
  case atStart => exact ⟨0, Nat.zero_le _, rfl, rfl⟩
  case round =>
    obtain ⟨k, hk, rfl, rfl⟩ := hrel
    have hb := sumB_tk l k hl
    by_cases hlt : k < l.length
    · have hlt2 : k < (S l).size := by rw [S_size]; exact hlt
      have HS := Lib.hid (sumB_S l k hlt2)
      have hc := ((S l)[k]'hlt2).toNat_lt
      generalize sumB (l.take k) = A at *
      go_wp2
      go_round
      case rel => exact ⟨k + 1, by omega, by go_num, by rw [HS.out]; go_num⟩
      case measure => simp [intOf]; omega
    · have he : k = l.length := by omega
      have HL := Lib.hid (show sumB (l.take k) = sumB l by rw [he, List.take_length])
      have hbA : sumB l ≤ 255000000 := by rw [← HL.out]; exact hb
      clear he
      generalize sumB (l.take k) = A at *
      go_wp2
      go_ret
      exact ⟨by first | rfl | (rw [HL.out]; rfl) | (rw [HL.out]; go_num), rfl⟩
theorem wfI_of (v : Int) (h0 : 0 ≤ v) (h1 : v < 8589934592) : wfI v := by
  unfold wfI
  simp [Lit.wf, IntKind.min, IntKind.max, IntKind.signed, IntKind.bits]
  omega
theorem wf_vol (s : List UInt8) (num cnt : Int) (n0 : 0 ≤ num) (n1 : num < 2097152) (c0 : 0 ≤ cnt) (c1 : cnt < 2097152) (hs : s.length ≤ 1000000) : wfH (volH s num cnt) := by
  have := sumB_le s
  exact ⟨wfI_of 0 (by decide) (by decide), wfI_of num n0 (by omega), wfI_of cnt c0 (by omega), wfI_of _ (by show 0 ≤ (s.length : Int); omega) (by show (s.length : Int) < _; omega), wfI_of _ (by show 0 ≤ (sumB s : Int); omega) (by show (sumB s : Int) < _; omega), wfI_of 0 (by decide) (by decide), wfI_of 0 (by decide) (by decide)⟩
theorem short_vol (s : List UInt8) (num cnt : Int) : shortH (volH s num cnt) 1000000 := ⟨by show volN.length ≤ _; decide, by show 0 ≤ _; decide, by show 0 ≤ _; decide, by show 0 ≤ _; decide⟩
theorem vol_val (s : List UInt8) (num cnt : Int) : HV (volH s num cnt) = .agg #[.string ⟨#[118, 111, 108, 117, 109, 101]⟩, .string ⟨#[]⟩, .int .u8 86, .int .i64 0, .int .i64 num, .int .i64 cnt, .int .i64 s.length, .int .i64 (sumB s : Nat), .string ⟨#[]⟩, .string ⟨#[]⟩, .int .i64 0, .int .i64 0, .int .i64 0] := rfl
set_option maxRecDepth 100000 in
theorem one_any (s : List UInt8) (num cnt : Int) (n0 : 0 ≤ num) (n1 : num < 2097152) (c0 : 0 ≤ cnt) (c1 : cnt < 2097152) (hs : s.length ≤ 1000000) (w : World) :
    Calls Tryd.prog 33 #[.string (S s), .int .i64 num, .int .i64 cnt] w fun e w' => e = .returned (.string (S (oneV s num cnt))) ∧ Below w.heap.size w w' := by
  have HB := Lib.hid (fun w => hBuild_yes (volH s num cnt) w (short_vol s num cnt) (wf_vol s num cnt n0 n1 c0 c1 hs) (fits_vol s num cnt n0 n1 c0 c1 hs))
  rw [vol_val] at HB
  have HS := Lib.hid (show S (buildN (volH s num cnt)) ++ S (padB s) = S (oneV s num cnt) from S_append _ _)
  have hBl : (buildN (volH s num cnt)).length ≤ 1000 := by rw [(build_fields _ (fits_vol s num cnt n0 n1 c0 c1 hs)).len]; decide
  have hPl : (padB s).length ≤ 2000000 := by
    have := restI_bd s.length
    unfold padB zerosL padK; rw [List.length_append, List.length_replicate]; omega
  generalize buildN (volH s num cnt) = B at *
  have HU := Lib.hid (fun w => vsum_any s hs w)
  have HP := Lib.hid (fun w => Pad_any s hs w)
  generalize padB s = PB at *
  generalize sumB s = A at *
  go_enter Tryd.func33, Tryd.ntmps33
  go_wp2_with fail
  refine (HU.out _).mono ?_
  rintro e w1 ⟨rfl, rfl⟩
  go_wp2_with fail
  refine (HB.out _).mono ?_
  rintro e w1 ⟨rfl, hb1⟩
  go_wp2_with fail
  refine (HP.out _).mono ?_
  rintro e w2 ⟨rfl, hb2⟩
  go_wp2_with fail
  go_ret
  exact ⟨by rw [HS.out]; rfl, chainS hb1 hb2⟩
set_option maxRecDepth 100000 in
theorem rone_any (s : List UInt8) (num cnt : Int) (n0 : 0 ≤ num) (n1 : num < 2097152) (c0 : 0 ≤ cnt) (c1 : cnt < 2097152) (hs : s.length ≤ 1000000) (w : World) :
    Calls Tryd.prog 9 #[.string (S s), .int .i64 num, .int .i64 cnt] w fun e w' => e = .returned (.string (S (oneV s num cnt))) ∧ Below w.heap.size w w' := by
  have HB := Lib.hid (fun w => rBuild_any (volH s num cnt) w (fits_vol s num cnt n0 n1 c0 c1 hs))
  rw [vol_val] at HB
  have HS := Lib.hid (show S (buildN (volH s num cnt)) ++ S (padB s) = S (oneV s num cnt) from S_append _ _)
  have hBl : (buildN (volH s num cnt)).length ≤ 1000 := by rw [(build_fields _ (fits_vol s num cnt n0 n1 c0 c1 hs)).len]; decide
  have hPl : (padB s).length ≤ 2000000 := by
    have := restI_bd s.length
    unfold padB zerosL padK; rw [List.length_append, List.length_replicate]; omega
  generalize buildN (volH s num cnt) = B at *
  have HU := Lib.hid (fun w => rvsum_any s hs w)
  have HP := Lib.hid (fun w => rPad_any s hs w)
  generalize padB s = PB at *
  generalize sumB s = A at *
  go_enter Tryd.func9, Tryd.ntmps9
  go_wp2_with fail
  refine (HU.out _).mono ?_
  rintro e w1 ⟨rfl, rfl⟩
  go_wp2_with fail
  refine (HB.out _).mono ?_
  rintro e w1 ⟨rfl, hb1⟩
  go_wp2_with fail
  refine (HP.out _).mono ?_
  rintro e w2 ⟨rfl, rfl⟩
  go_wp2_with fail
  go_ret
  exact ⟨by rw [HS.out]; rfl, hb1⟩
end Go.Proofs.YtjldphpdfckjnaaDoor
