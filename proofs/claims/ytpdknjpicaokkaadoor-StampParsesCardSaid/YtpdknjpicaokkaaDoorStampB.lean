/- stamp.digits; strings.Cut at a point. -/
import Derived.Test.YtpdknjpicaokkaaDoorStampA
import Derived.Deep.RegionHeld3
namespace Go.Proofs.YtpdknjpicaokkaaDoor
open Go.RowKit

theorem dgI (c : UInt8) (h : dg c = true) : 48 ≤ (c.toNat : Int) ∧ (c.toNat : Int) ≤ 57 := by
  have := of_decide_eq_true h
  omega
theorem dgN (c : UInt8) (h : dg c = false) : (c.toNat : Int) < 48 ∨ 57 < (c.toNat : Int) := by
  unfold dg at h
  rw [decide_eq_false_iff_not] at h
  omega
def valD (l : List UInt8) (most : Nat) : Int := if digB l most = true then (decN (l.take 16) : Int) else 0
def digV (l : List UInt8) (most : Nat) : Value := .tuple #[.int .i64 (valD l most), .bool (digB l most)]
theorem take16_lt (l : List UInt8) (h : AllDg l) (k : Nat) (hk : k ≤ 16) : decN (l.take k) < 10000000000000000 := by
  have h1 := decN_lt _ (l.take k) (fun c hc => h c (List.mem_of_mem_take hc)) rfl
  have h2 : (l.take k).length ≤ 16 := by rw [List.length_take]; omega
  have h3 : 10 ^ (l.take k).length ≤ 10 ^ 16 := Nat.pow_le_pow_right (by decide) h2
  omega
set_option maxRecDepth 100000 in
set_option maxHeartbeats 4000000 in
theorem digits_any (s : ByteArray) (most : Nat) (hm : most ≤ 1000) (hs : s.size ≤ 9223372036854775807) (w : World) :
    Calls Tryd.prog 78 #[.string s, .int .i64 most] w fun e w' => e = .returned (digV s.data.toList most) ∧ w' = w := by
  by_cases h0 : s.size = 0
  · have hl : s.data.toList = [] := List.eq_nil_of_length_eq_zero (by rw [size_len]; exact h0)
    have H := Lib.hid (show digV s.data.toList most = .tuple #[.int .i64 0, .bool false] by rw [hl]; rfl)
    have hb : ((s.size : Int) == 0) = true := by rw [beq_iff_eq]; omega
    clear hl h0
    go_enter Tryd.func78, Tryd.ntmps78
    go_wp2
    go_ret2
    exact ⟨by rw [H.out]; rfl, rfl⟩
  have hb : ((s.size : Int) == 0) = false := by rw [beq_eq_false_iff_ne]; omega
  by_cases hl : most < s.size
  · have H := Lib.hid (show digV s.data.toList most = .tuple #[.int .i64 0, .bool false] by
      have : digB s.data.toList most = false := by
        cases h : digB s.data.toList most with
        | false => rfl
        | true => have := ((digB_iff _ _).1 h).2.1; rw [size_len] at this; omega
      unfold digV valD
      rw [this]; rfl)
    go_enter Tryd.func78, Tryd.ntmps78
    go_wp2
    go_ret2
    exact ⟨by rw [H.out]; rfl, rfl⟩
  go_enter Tryd.func78, Tryd.ntmps78
  go_wp2
  go_loop [6, 19] (fun v i => ∃ k : Nat, k ≤ s.size ∧ i = .int .i64 k ∧ v = .int .i64 (decN (s.data.toList.take (min k 16))) ∧ AllDg (s.data.toList.take k)) (fun _ i => s.size - (intOf i).toNat)
  case atStart => exact ⟨0, by omega, rfl, rfl, fun c hc => by cases hc⟩
  case round =>
    obtain ⟨k, hk, rfl, rfl, hd⟩ := hrel
    have HD := Lib.hid hd
    have hv : decN (s.data.toList.take (min k 16)) < 10000000000000000 := by
      have := take16_lt (s.data.toList.take k) hd (min k 16) (by omega)
      rwa [List.take_take, Nat.min_eq_left (by omega)] at this
    clear hd
    by_cases hlt : k < s.size
    · have hts := take_snoc s k hlt
      have hby := s[k].toNat_lt
      by_cases hg : dg s[k] = true
      · have hg2 := dgI _ hg
        have HN := Lib.hid (show AllDg (s.data.toList.take (k + 1)) by
          rw [hts]
          intro c hc
          rcases List.mem_append.1 hc with h | h
          · exact HD.out c h
          · rw [List.mem_singleton.1 h]; exact hg)
        by_cases h16 : k < 16
        · have HV := Lib.hid (show decN (s.data.toList.take (min (k + 1) 16)) = 10 * decN (s.data.toList.take (min k 16)) + (s[k].toNat - 48) by
            rw [Nat.min_eq_left (by omega : k + 1 ≤ 16), Nat.min_eq_left (by omega : k ≤ 16), hts, decN_snoc])
          generalize decN (s.data.toList.take (min k 16)) = v at *
          clear hts hg
          go_wp2
          go_round
          case rel => exact ⟨k + 1, by omega, by go_num, by rw [HV.out]; congr 1; omega, HN.out⟩
          case measure => simp [intOf]; omega
        · have HV := Lib.hid (show decN (s.data.toList.take (min (k + 1) 16)) = decN (s.data.toList.take (min k 16)) by
            rw [Nat.min_eq_right (by omega : 16 ≤ k + 1), Nat.min_eq_right (by omega : 16 ≤ k)])
          generalize decN (s.data.toList.take (min k 16)) = v at *
          clear hts hg
          go_wp2
          go_round
          case rel => exact ⟨k + 1, by omega, by go_num, by rw [HV.out], HN.out⟩
          case measure => simp [intOf]; omega
      · have hf : dg s[k] = false := by simpa using hg
        have H := Lib.hid (show digV s.data.toList most = .tuple #[.int .i64 0, .bool false] by
          have : digB s.data.toList most = false := by
            cases h : digB s.data.toList most with
            | false => rfl
            | true =>
              have := ((digB_iff _ _).1 h).2.2 s[k] (List.getElem_mem (by rw [size_len]; exact hlt))
              rw [hf] at this; cases this
          unfold digV valD
          rw [this]; rfl)
        have hor := dgN _ hf
        clear hg hf hts
        by_cases h48 : (s[k].toNat : Int) < 48
        · clear hor
          go_wp2
          go_ret2
          exact ⟨by rw [H.out]; rfl, rfl⟩
        · have h57 : 57 < (s[k].toNat : Int) := by omega
          clear hor
          go_wp2
          go_ret2
          exact ⟨by rw [H.out]; rfl, rfl⟩
    · obtain rfl : k = s.size := by omega
      have hd := HD.out
      rw [take_all s _ (Nat.le_refl _)] at hd
      have H := Lib.hid (show digV s.data.toList most = .tuple #[.int .i64 (decN (s.data.toList.take (min s.size 16))), .bool true] by
        have : digB s.data.toList most = true := (digB_iff _ _).2 ⟨fun e => h0 (by rw [← size_len, e]; rfl), by rw [size_len]; omega, hd⟩
        unfold digV valD
        rw [this, if_pos rfl]
        by_cases h : s.size ≤ 16
        · rw [Nat.min_eq_left h, List.take_of_length_le (by rw [size_len]; exact h), List.take_of_length_le (by rw [size_len]; exact Nat.le_refl _)]
        · rw [Nat.min_eq_right (by omega)])
      clear hd
      go_wp2
      go_ret2
      exact ⟨by rw [H.out]; rfl, rfl⟩
end Go.Proofs.YtpdknjpicaokkaaDoor
