import Derived.Test.YtjldphpdfckjnaaDoorThree
namespace Go.Proofs.YtjldphpdfckjnaaDoor
open Go.RowKit

def signB (k : UInt8) : UInt8 := if 48 ≤ k.toNat ∧ k.toNat ≤ 55 then ([45, 104, 108, 99, 98, 100, 112, 67] : List UInt8).getD (k.toNat - 48) 0 else 63
theorem get8 (n : Nat) (h : n < 8) (hh : n < (ByteArray.mk #[45, 104, 108, 99, 98, 100, 112, 67]).size) : (ByteArray.mk #[45, 104, 108, 99, 98, 100, 112, 67])[n]'hh = ([45, 104, 108, 99, 98, 100, 112, 67] : List UInt8).getD n 0 := by
  obtain rfl | rfl | rfl | rfl | rfl | rfl | rfl | rfl : n = 0 ∨ n = 1 ∨ n = 2 ∨ n = 3 ∨ n = 4 ∨ n = 5 ∨ n = 6 ∨ n = 7 := by omega
  all_goals rfl
theorem ext8 (n : Nat) (h : n < 8) : (ByteArray.mk #[45, 104, 108, 99, 98, 100, 112, 67]).extract n (n + 1) = S [([45, 104, 108, 99, 98, 100, 112, 67] : List UInt8).getD n 0] := by
  obtain rfl | rfl | rfl | rfl | rfl | rfl | rfl | rfl : n = 0 ∨ n = 1 ∨ n = 2 ∨ n = 3 ∨ n = 4 ∨ n = 5 ∨ n = 6 ∨ n = 7 := by omega
  all_goals rfl
theorem signB_yes (k : UInt8) (h1 : 48 ≤ k.toNat) (h2 : k.toNat ≤ 55) : signB k = ([45, 104, 108, 99, 98, 100, 112, 67] : List UInt8).getD (k.toNat - 48) 0 := by unfold signB; rw [if_pos ⟨h1, h2⟩]

theorem sign_any (k : UInt8) (w : World) :
    Calls Tryd.prog 74 #[.int .u8 k.toNat] w fun e w' => e = .returned (.int .u8 (signB k).toNat) ∧ w = w' := by
  have hk := k.toNat_lt
  by_cases h : 48 ≤ (k.toNat : Int) ∧ (k.toNat : Int) ≤ 55
  · obtain ⟨h1, h2⟩ := h
    go_enter Tryd.func74, Tryd.ntmps74
    go_wp2
    go_ret
    refine ⟨?_, rfl⟩
    rw [signB_yes k (by omega) (by omega), ← get8 (k.toNat - 48) (by omega) (by show _ < 8; omega)]
    rfl
  · have hs : signB k = 63 := by unfold signB; rw [if_neg (by omega)]
    have Hs := Lib.hid hs
    clear hs
    go_enter Tryd.func74, Tryd.ntmps74
    go_wp2
    all_goals (go_ret; exact ⟨by rw [Hs.out]; rfl, rfl⟩)

theorem rsign_any (k : UInt8) (w : World) :
    Calls Tryd.prog 78 #[.int .u8 k.toNat] w fun e w' => e = .returned (.string (S [signB k])) ∧ w = w' := by
  have hk := k.toNat_lt
  by_cases h : 48 ≤ (k.toNat : Int) ∧ (k.toNat : Int) ≤ 55
  · obtain ⟨h1, h2⟩ := h
    go_enter Tryd.func78, Tryd.ntmps78
    go_wp2
    go_ret
    refine ⟨?_, rfl⟩
    have e : k.toNat - 47 = k.toNat - 48 + 1 := by omega
    rw [signB_yes k (by omega) (by omega), ← ext8 (k.toNat - 48) (by omega), ← e]
    rfl
  · have hs : signB k = 63 := by unfold signB; rw [if_neg (by omega)]
    have Hs := Lib.hid hs
    clear hs
    go_enter Tryd.func78, Tryd.ntmps78
    go_wp2
    all_goals (go_ret; exact ⟨by rw [Hs.out]; rfl, rfl⟩)

theorem and1_beq (m : Int) (n : Nat) : (bits .and .i64 (m / 2 ^ n) 1 == 1) = bitI m n := by
  rw [and1, Bool.eq_iff_iff]
  simp [bitI]

theorem bit_any (m q : Int) (w : World) (h0 : 0 ≤ q) (h1 : q ≤ 12) :
    Calls Tryd.prog 79 #[.int .i64 m, .int .i64 q] w fun e w' => e = .returned (.bool (bitI m q.toNat)) ∧ w = w' := by
  obtain ⟨n, rfl⟩ := Int.eq_ofNat_of_zero_le h0
  have hn : n ≤ 12 := by omega
  go_enter Tryd.func79, Tryd.ntmps79
  go_wp2
  go_ret
  refine ⟨?_, rfl⟩
  rw [Int.toNat_natCast, ← and1_beq]
  rfl

def rightsL (m : Int) (k : UInt8) : List UInt8 := signB k :: (threeL (m / 64) (bitI m 11) 115 ++ threeL (m / 8) (bitI m 10) 115 ++ threeL m (bitI m 9) 116)

def partsL (m : Int) : Nat → List UInt8
  | 0 => []
  | 1 => threeL (m / 64) (bitI m 11) 115
  | 2 => threeL (m / 64) (bitI m 11) 115 ++ threeL (m / 8) (bitI m 10) 115
  | _ => threeL (m / 64) (bitI m 11) 115 ++ threeL (m / 8) (bitI m 10) 115 ++ threeL m (bitI m 9) 116

theorem partsL_len (m : Int) (j : Nat) : (partsL m j).length ≤ 9 := by
  match j with
  | 0 => simp [partsL]
  | 1 => simp [partsL, threeL]
  | 2 => simp [partsL, threeL]
  | n + 3 => simp [partsL, threeL]

set_option maxHeartbeats 1000000 in
set_option maxRecDepth 100000 in
theorem rights_any (m : Int) (k : UInt8) (w : World) :
    Calls Tryd.prog 35 #[.int .i64 m, .int .u8 k.toNat] w fun e w' => e = .returned (.string (S (rightsL m k))) ∧ Below w.heap.size w w' := by
  have b11 : (bits .and .i64 (m / 2048) 1 == 1) = bitI m 11 := and1_beq m 11
  have b10 : (bits .and .i64 (m / 1024) 1 == 1) = bitI m 10 := and1_beq m 10
  have b9 : (bits .and .i64 (m / 512) 1 == 1) = bitI m 9 := and1_beq m 9
  go_enter Tryd.func35, Tryd.ntmps35
  go_wp2_with (go_at_call 74; refine (sign_any _ _).mono ?_; rintro e w' ⟨rfl, rfl⟩)
  go_loopw [5, 14] (fun v i wr => ∃ j : Nat, j ≤ 3 ∧ i = .int .i64 j ∧ OwnB wr w.heap.size v (signB k :: partsL m j) ∧ v.ownBlock ≠ some (w.heap.size + 1) ∧ CellsB wr (w.heap.size + 1) [115, 115, 116] ∧ Below w.heap.size w wr ∧ w.heap.size + 1 < wr.heap.size) (fun _ i _ => 3 - (intOf i).toNat)
  case atStart =>
    refine ⟨0, by omega, rfl, ?_, by simp [Value.ownBlock], ?_, ?_, by simp⟩
    · refine OwnB.alloc ?_ _
      exact World.ownsRow_lit w #[bv (signB k)] 1 (Nat.le_refl _) (by decide) rfl
    · exact cells3 _ _ _ _ _ (cell?_mark_at _ _ _ _ _ _ (by simp)) (cell?_mark_at _ _ _ _ _ _ (by simp)) (cell?_mark_at _ _ _ _ _ _ (by simp))
    · exact ((Below.refl _ _).alloc (Nat.le_refl _) _).alloc (by simp) _
  case round =>
    obtain ⟨j, hj, rfl, hown, hsep, hC, hb, hz⟩ := hrel
    have g0 : wr.cell? ⟨w.heap.size + 1, 0, none⟩ = some (.int .u8 115) := hC 0 _ rfl
    have g1 : wr.cell? ⟨w.heap.size + 1, 1, none⟩ = some (.int .u8 115) := hC 1 _ rfl
    have g2 : wr.cell? ⟨w.heap.size + 1, 2, none⟩ = some (.int .u8 116) := hC 2 _ rfl
    have hpl := partsL_len m j
    have hpl2 : (signB k :: partsL m j).length ≤ 10 := by simp; omega
    obtain rfl | rfl | rfl | rfl : j = 0 ∨ j = 1 ∨ j = 2 ∨ j = 3 := by omega
    · go_wp2_with fail
      go_region_law (first | (refine step_app_cells rfl _ _ rfl w.heap.size _ _ (threeL (m / 64) (bitI m 11) 115) rfl hown1 3 _ _ rfl hC1 rfl (by omega) (by omega) ?_; intro v1 w2 hown2 hb2 hg2) | (go_simp; go_at_call 75; refine (three_any _ _ 115 _ _ (by simp)).mono ?_; rintro e w1 ⟨rfl, hC1, hb1x⟩; have hb1 : Below wr.heap.size wr w1 := ((Below.refl _ wr).drew).trans hb1x; have hown1 := hown.below hb1 (Nat.le_refl _); have hsz1 := hb1.size))
      all_goals
        go_wp2
        go_roundw
        case' rel => exact ⟨1, by omega, by go_num, hown2, hg2.sep (by omega) hsep, hg2.cells (hC.below hb1 hz) hsep, (hb.trans (hb1.mono (by omega))).trans hb2, by have := hb2.size; omega⟩
        all_goals simp [intOf]
    · go_wp2_with fail
      go_region_law (first | (refine step_app_cells rfl _ _ rfl w.heap.size _ _ (threeL (m / 8) (bitI m 10) 115) rfl hown1 3 _ _ rfl hC1 rfl (by omega) (by omega) ?_; intro v1 w2 hown2 hb2 hg2) | (go_simp; go_at_call 75; refine (three_any _ _ 115 _ _ (by simp)).mono ?_; rintro e w1 ⟨rfl, hC1, hb1x⟩; have hb1 : Below wr.heap.size wr w1 := ((Below.refl _ wr).drew).trans hb1x; have hown1 := hown.below hb1 (Nat.le_refl _); have hsz1 := hb1.size))
      all_goals
        go_wp2
        go_roundw
        case' rel => exact ⟨2, by omega, by go_num, hown2, hg2.sep (by omega) hsep, hg2.cells (hC.below hb1 hz) hsep, (hb.trans (hb1.mono (by omega))).trans hb2, by have := hb2.size; omega⟩
        all_goals simp [intOf]
    · go_wp2_with fail
      go_region_law (first | (refine step_app_cells rfl _ _ rfl w.heap.size _ _ (threeL m (bitI m 9) 116) rfl hown1 3 _ _ rfl hC1 rfl (by omega) (by omega) ?_; intro v1 w2 hown2 hb2 hg2) | (go_simp; go_at_call 75; refine (three_any _ _ 116 _ _ (by simp)).mono ?_; rintro e w1 ⟨rfl, hC1, hb1x⟩; have hb1 : Below wr.heap.size wr w1 := ((Below.refl _ wr).drew).trans hb1x; have hown1 := hown.below hb1 (Nat.le_refl _); have hsz1 := hb1.size))
      all_goals
        go_wp2
        go_roundw
        case' rel => exact ⟨3, by omega, by go_num, hown2, hg2.sep (by omega) hsep, hg2.cells (hC.below hb1 hz) hsep, (hb.trans (hb1.mono (by omega))).trans hb2, by have := hb2.size; omega⟩
        all_goals simp [intOf]
    · have hstr := run_string_own wr _ _ _ hown
      go_wp2
      go_ret
      exact ⟨rfl, hb⟩
end Go.Proofs.YtjldphpdfckjnaaDoor
