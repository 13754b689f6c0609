import Derived.Test.YtjldphpdfckjnaaDoorRights
namespace Go.Proofs.YtjldphpdfckjnaaDoor
open Go.RowKit

def chrR (m : Int) (i : Nat) : UInt8 :=
  if i % 3 = 0 ∧ bitI m (9 + i / 3) = true then (if bitI m i then (if i / 3 = 0 then 116 else 115) else (if i / 3 = 0 then 84 else 83))
  else if bitI m i then (if i % 3 = 0 then 120 else if i % 3 = 1 then 119 else 114) else 45
def refL (m : Int) : Nat → List UInt8
  | 0 => []
  | t + 1 => refL m t ++ [chrR m (8 - t)]
theorem refL_len (m : Int) (t : Nat) : (refL m t).length = t := by
  induction t with
  | zero => rfl
  | succ t ih => simp [refL, ih]

theorem bit_div (m : Int) (a n : Nat) : bitI (m / 2 ^ a) n = bitI m (a + n) := by
  unfold bitI
  rw [Int.ediv_ediv_of_nonneg (Int.le_of_lt (Int.pow_pos (by decide))), ← Int.pow_add]
theorem refL_rights (m : Int) (k : UInt8) : signB k :: refL m 9 = rightsL m k := by
  have e6 (n : Nat) : bitI (m / 64) n = bitI m (6 + n) := bit_div m 6 n
  have e3 (n : Nat) : bitI (m / 8) n = bitI m (3 + n) := bit_div m 3 n
  simp only [refL, rightsL, threeL, chrR, e6, e3]
  simp
theorem rr_step (m : Int) (k : UInt8) (t : Nat) (c : UInt8) (X : ByteArray) (hX : X = S [c]) (hc : chrR m (8 - t) = c) : Value.string (S (signB k :: refL m t) ++ X) = .string (S (signB k :: refL m (t + 1))) := by
  rw [hX, S_append, refL, hc]
  rfl

set_option maxHeartbeats 4000000 in
theorem rrights_any (m : Int) (k : UInt8) (w : World) :
    Calls Tryd.prog 39 #[.int .i64 m, .int .u8 k.toNat] w fun e w' => e = .returned (.string (S (rightsL m k))) ∧ Below w.heap.size w w' := by
  go_enter Tryd.func39, Tryd.ntmps39
  go_wp2_with (go_at_call 78; refine (rsign_any _ _).mono ?_; rintro e w' ⟨rfl, rfl⟩)
  go_loopw [5, 6] (fun v i wr => ∃ (t : Nat) (q : Int), t ≤ 9 ∧ q + t = 8 ∧ i = .int .i64 q ∧ v = .string (S (signB k :: refL m t)) ∧ Below w.heap.size w wr) (fun _ i _ => (intOf i + 1).toNat)
  case atStart => exact ⟨0, 8, by omega, by omega, rfl, rfl, Below.refl _ _⟩
  case round =>
    obtain ⟨t, q, ht, hq, rfl, rfl, hb⟩ := hrel
    have hl := refL_len m t
    have hl2 : (signB k :: refL m t).length ≤ 10 := by simp; omega
    clear hl
    have hsplit : t = 0 ∨ t = 1 ∨ t = 2 ∨ t = 3 ∨ t = 4 ∨ t = 5 ∨ t = 6 ∨ t = 7 ∨ t = 8 ∨ t = 9 := by omega
    rcases hsplit with rfl | rfl | rfl | rfl | rfl | rfl | rfl | rfl | rfl | rfl
    · obtain rfl : q = 8 := by omega
      cases hx : bitI m 8
      · have Hc := Lib.hid (show chrR m (8 - 0) = 45 by simp [chrR, *])
        go_wp2_with (go_at_call 79; refine (bit_any _ _ _ (by omega) (by omega)).mono ?_; rintro e w' ⟨rfl, rfl⟩)
        go_roundw
        case rel => exact ⟨1, 7, by omega, by omega, rfl, rr_step _ _ _ _ _ rfl Hc.out, hb⟩
        case measure => simp [intOf]
      · have Hc := Lib.hid (show chrR m (8 - 0) = 114 by simp [chrR, *])
        go_wp2_with (go_at_call 79; refine (bit_any _ _ _ (by omega) (by omega)).mono ?_; rintro e w' ⟨rfl, rfl⟩)
        go_roundw
        case rel => exact ⟨1, 7, by omega, by omega, rfl, rr_step _ _ _ _ _ rfl Hc.out, hb⟩
        case measure => simp [intOf]
    · obtain rfl : q = 7 := by omega
      cases hx : bitI m 7
      · have Hc := Lib.hid (show chrR m (8 - 1) = 45 by simp [chrR, *])
        go_wp2_with (go_at_call 79; refine (bit_any _ _ _ (by omega) (by omega)).mono ?_; rintro e w' ⟨rfl, rfl⟩)
        go_roundw
        case rel => exact ⟨2, 6, by omega, by omega, rfl, rr_step _ _ _ _ _ rfl Hc.out, hb⟩
        case measure => simp [intOf]
      · have Hc := Lib.hid (show chrR m (8 - 1) = 119 by simp [chrR, *])
        go_wp2_with (go_at_call 79; refine (bit_any _ _ _ (by omega) (by omega)).mono ?_; rintro e w' ⟨rfl, rfl⟩)
        go_roundw
        case rel => exact ⟨2, 6, by omega, by omega, rfl, rr_step _ _ _ _ _ rfl Hc.out, hb⟩
        case measure => simp [intOf]
    · obtain rfl : q = 6 := by omega
      cases hx : bitI m 6 <;> cases hy : bitI m 11
      · have Hc := Lib.hid (show chrR m (8 - 2) = 45 by simp [chrR, *])
        go_wp2_with (go_at_call 79; refine (bit_any _ _ _ (by omega) (by omega)).mono ?_; rintro e w' ⟨rfl, rfl⟩)
        go_roundw
        case rel => exact ⟨3, 5, by omega, by omega, rfl, rr_step _ _ _ _ _ rfl Hc.out, hb⟩
        case measure => simp [intOf]
      · have Hc := Lib.hid (show chrR m (8 - 2) = 83 by simp [chrR, *])
        go_wp2_with (go_at_call 79; refine (bit_any _ _ _ (by omega) (by omega)).mono ?_; rintro e w' ⟨rfl, rfl⟩)
        go_roundw
        case rel => exact ⟨3, 5, by omega, by omega, rfl, rr_step _ _ _ _ _ rfl Hc.out, hb⟩
        case measure => simp [intOf]
      · have Hc := Lib.hid (show chrR m (8 - 2) = 120 by simp [chrR, *])
        go_wp2_with (go_at_call 79; refine (bit_any _ _ _ (by omega) (by omega)).mono ?_; rintro e w' ⟨rfl, rfl⟩)
        go_roundw
        case rel => exact ⟨3, 5, by omega, by omega, rfl, rr_step _ _ _ _ _ rfl Hc.out, hb⟩
        case measure => simp [intOf]
      · have Hc := Lib.hid (show chrR m (8 - 2) = 115 by simp [chrR, *])
        go_wp2_with (go_at_call 79; refine (bit_any _ _ _ (by omega) (by omega)).mono ?_; rintro e w' ⟨rfl, rfl⟩)
        go_roundw
        case rel => exact ⟨3, 5, by omega, by omega, rfl, rr_step _ _ _ _ _ rfl Hc.out, hb⟩
        case measure => simp [intOf]
    · obtain rfl : q = 5 := by omega
      cases hx : bitI m 5
      · have Hc := Lib.hid (show chrR m (8 - 3) = 45 by simp [chrR, *])
        go_wp2_with (go_at_call 79; refine (bit_any _ _ _ (by omega) (by omega)).mono ?_; rintro e w' ⟨rfl, rfl⟩)
        go_roundw
        case rel => exact ⟨4, 4, by omega, by omega, rfl, rr_step _ _ _ _ _ rfl Hc.out, hb⟩
        case measure => simp [intOf]
      · have Hc := Lib.hid (show chrR m (8 - 3) = 114 by simp [chrR, *])
        go_wp2_with (go_at_call 79; refine (bit_any _ _ _ (by omega) (by omega)).mono ?_; rintro e w' ⟨rfl, rfl⟩)
        go_roundw
        case rel => exact ⟨4, 4, by omega, by omega, rfl, rr_step _ _ _ _ _ rfl Hc.out, hb⟩
        case measure => simp [intOf]
    · obtain rfl : q = 4 := by omega
      cases hx : bitI m 4
      · have Hc := Lib.hid (show chrR m (8 - 4) = 45 by simp [chrR, *])
        go_wp2_with (go_at_call 79; refine (bit_any _ _ _ (by omega) (by omega)).mono ?_; rintro e w' ⟨rfl, rfl⟩)
        go_roundw
        case rel => exact ⟨5, 3, by omega, by omega, rfl, rr_step _ _ _ _ _ rfl Hc.out, hb⟩
        case measure => simp [intOf]
      · have Hc := Lib.hid (show chrR m (8 - 4) = 119 by simp [chrR, *])
        go_wp2_with (go_at_call 79; refine (bit_any _ _ _ (by omega) (by omega)).mono ?_; rintro e w' ⟨rfl, rfl⟩)
        go_roundw
        case rel => exact ⟨5, 3, by omega, by omega, rfl, rr_step _ _ _ _ _ rfl Hc.out, hb⟩
        case measure => simp [intOf]
    · obtain rfl : q = 3 := by omega
      cases hx : bitI m 3 <;> cases hy : bitI m 10
      · have Hc := Lib.hid (show chrR m (8 - 5) = 45 by simp [chrR, *])
        go_wp2_with (go_at_call 79; refine (bit_any _ _ _ (by omega) (by omega)).mono ?_; rintro e w' ⟨rfl, rfl⟩)
        go_roundw
        case rel => exact ⟨6, 2, by omega, by omega, rfl, rr_step _ _ _ _ _ rfl Hc.out, hb⟩
        case measure => simp [intOf]
      · have Hc := Lib.hid (show chrR m (8 - 5) = 83 by simp [chrR, *])
        go_wp2_with (go_at_call 79; refine (bit_any _ _ _ (by omega) (by omega)).mono ?_; rintro e w' ⟨rfl, rfl⟩)
        go_roundw
        case rel => exact ⟨6, 2, by omega, by omega, rfl, rr_step _ _ _ _ _ rfl Hc.out, hb⟩
        case measure => simp [intOf]
      · have Hc := Lib.hid (show chrR m (8 - 5) = 120 by simp [chrR, *])
        go_wp2_with (go_at_call 79; refine (bit_any _ _ _ (by omega) (by omega)).mono ?_; rintro e w' ⟨rfl, rfl⟩)
        go_roundw
        case rel => exact ⟨6, 2, by omega, by omega, rfl, rr_step _ _ _ _ _ rfl Hc.out, hb⟩
        case measure => simp [intOf]
      · have Hc := Lib.hid (show chrR m (8 - 5) = 115 by simp [chrR, *])
        go_wp2_with (go_at_call 79; refine (bit_any _ _ _ (by omega) (by omega)).mono ?_; rintro e w' ⟨rfl, rfl⟩)
        go_roundw
        case rel => exact ⟨6, 2, by omega, by omega, rfl, rr_step _ _ _ _ _ rfl Hc.out, hb⟩
        case measure => simp [intOf]
    · obtain rfl : q = 2 := by omega
      cases hx : bitI m 2
      · have Hc := Lib.hid (show chrR m (8 - 6) = 45 by simp [chrR, *])
        go_wp2_with (go_at_call 79; refine (bit_any _ _ _ (by omega) (by omega)).mono ?_; rintro e w' ⟨rfl, rfl⟩)
        go_roundw
        case rel => exact ⟨7, 1, by omega, by omega, rfl, rr_step _ _ _ _ _ rfl Hc.out, hb⟩
        case measure => simp [intOf]
      · have Hc := Lib.hid (show chrR m (8 - 6) = 114 by simp [chrR, *])
        go_wp2_with (go_at_call 79; refine (bit_any _ _ _ (by omega) (by omega)).mono ?_; rintro e w' ⟨rfl, rfl⟩)
        go_roundw
        case rel => exact ⟨7, 1, by omega, by omega, rfl, rr_step _ _ _ _ _ rfl Hc.out, hb⟩
        case measure => simp [intOf]
    · obtain rfl : q = 1 := by omega
      cases hx : bitI m 1
      · have Hc := Lib.hid (show chrR m (8 - 7) = 45 by simp [chrR, *])
        go_wp2_with (go_at_call 79; refine (bit_any _ _ _ (by omega) (by omega)).mono ?_; rintro e w' ⟨rfl, rfl⟩)
        go_roundw
        case rel => exact ⟨8, 0, by omega, by omega, rfl, rr_step _ _ _ _ _ rfl Hc.out, hb⟩
        case measure => simp [intOf]
      · have Hc := Lib.hid (show chrR m (8 - 7) = 119 by simp [chrR, *])
        go_wp2_with (go_at_call 79; refine (bit_any _ _ _ (by omega) (by omega)).mono ?_; rintro e w' ⟨rfl, rfl⟩)
        go_roundw
        case rel => exact ⟨8, 0, by omega, by omega, rfl, rr_step _ _ _ _ _ rfl Hc.out, hb⟩
        case measure => simp [intOf]
    · obtain rfl : q = 0 := by omega
      cases hx : bitI m 0 <;> cases hy : bitI m 9
      · have Hc := Lib.hid (show chrR m (8 - 8) = 45 by simp [chrR, *])
        go_wp2_with (go_at_call 79; refine (bit_any _ _ _ (by omega) (by omega)).mono ?_; rintro e w' ⟨rfl, rfl⟩)
        go_roundw
        case rel => exact ⟨9, -1, by omega, by omega, rfl, rr_step _ _ _ _ _ rfl Hc.out, hb⟩
        case measure => simp [intOf]
      · have Hc := Lib.hid (show chrR m (8 - 8) = 84 by simp [chrR, *])
        go_wp2_with (go_at_call 79; refine (bit_any _ _ _ (by omega) (by omega)).mono ?_; rintro e w' ⟨rfl, rfl⟩)
        go_roundw
        case rel => exact ⟨9, -1, by omega, by omega, rfl, rr_step _ _ _ _ _ rfl Hc.out, hb⟩
        case measure => simp [intOf]
      · have Hc := Lib.hid (show chrR m (8 - 8) = 120 by simp [chrR, *])
        go_wp2_with (go_at_call 79; refine (bit_any _ _ _ (by omega) (by omega)).mono ?_; rintro e w' ⟨rfl, rfl⟩)
        go_roundw
        case rel => exact ⟨9, -1, by omega, by omega, rfl, rr_step _ _ _ _ _ rfl Hc.out, hb⟩
        case measure => simp [intOf]
      · have Hc := Lib.hid (show chrR m (8 - 8) = 116 by simp [chrR, *])
        go_wp2_with (go_at_call 79; refine (bit_any _ _ _ (by omega) (by omega)).mono ?_; rintro e w' ⟨rfl, rfl⟩)
        go_roundw
        case rel => exact ⟨9, -1, by omega, by omega, rfl, rr_step _ _ _ _ _ rfl Hc.out, hb⟩
        case measure => simp [intOf]
    · obtain rfl : q = -1 := by omega
      go_wp2
      go_ret
      exact ⟨by rw [← refL_rights]; rfl, hb⟩
end Go.Proofs.YtjldphpdfckjnaaDoor
