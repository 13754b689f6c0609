/- Volumes: volume.Part and the document's Part, walked. -/
import Derived.Test.YtjldphpdfckjnaaDoorVolB
import Derived.Test.YtjldphpdfckjnaaDoorStrs
namespace Go.Proofs.YtjldphpdfckjnaaDoor
open Go.RowKit

theorem ownS_lit (w : World) : OwnS (w.alloc (.cells #[] 9)) w.heap.size (.slice (some ⟨w.heap.size, 0, none⟩) 0 0) [] :=
  World.ownsRow_lit (base := w.heap.size) (e := 9) (size := 1) w #[] 0 (Nat.le_refl _) (by unfold maxLen; omega) rfl
theorem OwnS.shape {w : World} {base : Nat} {v : Value} {l : List (List UInt8)} (h : OwnS w base v l) : ∃ a c, v = .slice a l.length c := by
  obtain ⟨a, c, h1, _⟩ := h.strs
  exact ⟨a, c, h1⟩
theorem vols_len (sz : Nat) (s : List UInt8) : (volsV sz s).length = cntV sz s := by unfold volsV; rw [List.length_map, List.length_range]
theorem vols_take (sz : Nat) (s : List UInt8) (k : Nat) (h : k < cntV sz s) : (volsV sz s).take (k + 1) = (volsV sz s).take k ++ [oneV (chunkV sz s k) k (cntV sz s : Nat)] := by
  rw [List.take_succ_eq_append_getElem (by rw [vols_len]; exact h)]
  congr 2
  unfold volsV
  rw [List.getElem_map, List.getElem_range]
theorem cnt_pos (sz : Nat) (s : List UInt8) : 1 ≤ cntV sz s := by unfold cntV; omega
theorem cnt_lt (sz : Nat) (s : List UInt8) (k : Nat) (h0 : 0 < sz) (h : k < cntV sz s) : k * sz ≤ s.length := by
  unfold cntV at h
  by_cases hk : k = 0
  · subst hk; omega
  · have h2 : k < (s.length + sz - 1) / sz := by omega
    have h3 := (Nat.le_div_iff_mul_le h0).1 h2
    rw [Nat.succ_mul] at h3
    omega
theorem cnt_bd (sz : Nat) (s : List UInt8) (h0 : 512 ≤ sz) (hs : s.length ≤ 1000000) : cntV sz s ≤ 2000 := by
  unfold cntV
  have : (s.length + sz - 1) / sz < 2001 := by
    rw [Nat.div_lt_iff_lt_mul (by omega)]
    omega
  omega
theorem no_part (s : ByteArray) (n : Int) (w : World) (h : n < 2 ∨ 1048576 < n) :
    Calls Tryd.prog 13 #[.string s, .int .i64 n] w fun e w' => e = .returned (.tuple #[.slice none 0 0, .int .i64 6]) ∧ w = w' := by
  rcases h with h | h
  · go_enter Tryd.func13, Tryd.ntmps13
    go_wp2_with fail
    go_ret2
    exact ⟨rfl, rfl⟩
  · have h2 : ¬ n < 2 := by omega
    go_enter Tryd.func13, Tryd.ntmps13
    go_wp2_with fail
    go_ret2
    exact ⟨rfl, rfl⟩
set_option maxRecDepth 100000 in
set_option maxHeartbeats 4000000 in
theorem vPart_any (s : List UInt8) (n : Nat) (h2 : 2 ≤ n) (hm : n ≤ 1048576) (hs : s.length ≤ 1000000) (w : World) :
    Calls Tryd.prog 13 #[.string (S s), .int .i64 n] w fun e w' => (∃ v, e = .returned (.tuple #[v, .int .i64 0]) ∧ OwnS w' w.heap.size v (volsV (512 * (n - 1)) s)) ∧ Below w.heap.size w w' := by
  obtain ⟨sz, hsz⟩ : ∃ sz, sz = 512 * (n - 1) := ⟨_, rfl⟩
  rw [← hsz]
  have hz1 : 512 ≤ sz := by omega
  have hz2 : sz ≤ 536870400 := by omega
  have hmul : ((n : Int) - 1) * 512 = (sz : Int) := by omega
  have hc1 := cnt_pos sz s
  have hc2 := cnt_bd sz s hz1 hs
  have hcl := fun k => cnt_lt sz s k (by omega)
  obtain ⟨q, hq⟩ : ∃ q : Nat, q = (s.length + sz - 1) / sz := ⟨_, rfl⟩
  have hqI : ((s.length : Int) + (sz : Int) - 1) / (sz : Int) = (q : Int) := by
    rw [hq, show ((s.length : Int) + (sz : Int) - 1) = ((s.length + sz - 1 : Nat) : Int) by omega]
    rfl
  have hmx : max (q : Int) 1 = (cntV sz s : Nat) := by
    unfold cntV
    rw [← hq]
    omega
  have HVL := Lib.hid (vols_len sz s)
  have HVT := Lib.hid (fun k => vols_take sz s k)
  have HT : Hid ((volsV sz s).take (cntV sz s) = volsV sz s) := Lib.hid (by rw [← vols_len, List.take_length])
  generalize hL : volsV sz s = L at *
  generalize hC : cntV sz s = C at *
  have hn2 : ¬ (n : Int) < 2 := by omega
  have hn3 : ¬ (n : Int) > 1048576 := by omega
  have HCL := Lib.hid hcl
  clear hL hC hq hsz hcl
  go_enter Tryd.func13, Tryd.ntmps13
  go_wp2_with fail
  clear hmul hqI hmx
  go_loopw [8, 30] (fun v i wr => ∃ (k : Nat), i = .int .i64 k ∧ k ≤ C ∧ OwnS wr w.heap.size v (L.take k) ∧ Below w.heap.size w wr) (fun _ i _ => C - (intOf i).toNat)
  case atStart => exact ⟨0, rfl, Nat.zero_le _, OwnS.nil _ _, Below.refl _ _⟩
  case round =>
    obtain ⟨k, rfl, hk, hO, hB⟩ := hrel
    have hsize := hB.size
    by_cases hlt : k < C
    · have h1 := HCL.out k hlt
      obtain ⟨p, hp⟩ : ∃ p, p = k * sz := ⟨_, rfl⟩
      obtain ⟨hi, hhi⟩ : ∃ hi, hi = min (p + sz) s.length := ⟨_, rfl⟩
      have hpI : (k : Int) * (sz : Int) = (p : Int) := by rw [hp]; push_cast; rfl
      have hpJ : ((k : Int) + 1) * (sz : Int) = (p : Int) + (sz : Int) := by rw [Int.add_mul, hpI, Int.one_mul]
      have hmI : min ((p : Int) + (sz : Int)) (s.length : Int) = (hi : Int) := by omega
      have hps : p ≤ s.length := by rw [hp]; exact h1
      have hx : (S s).extract p hi = S (chunkV sz s k) := by
        rw [S_extract, hhi]
        unfold chunkV
        rw [← hp]
        congr 1
        by_cases h : p + sz ≤ s.length
        · rw [Nat.min_eq_left h]; congr 1; omega
        · rw [Nat.min_eq_right (by omega), List.take_of_length_le (by rw [List.length_drop]; omega), List.take_of_length_le (by rw [List.length_drop]; omega)]
      have hcl := chunk_len sz s k
      have hb1 : (p : Int) ≤ (hi : Int) := by omega
      have hb2 : (hi : Int) ≤ (s.length : Int) := by omega
      have hb3 : (p : Int) ≤ 1000000 := by omega
      have HN := Lib.hid (HVT.out k hlt)
      have HO := Lib.hid (fun w => one_any (chunkV sz s k) k C (by omega) (by omega) (by omega) (by omega) (by omega) w)
      have hln : (L.take k).length = k := by rw [List.length_take, HVL.out]; omega
      generalize oneV (chunkV sz s k) k C = one at *
      generalize chunkV sz s k = ch at *
      generalize L.take k = done at *
      obtain ⟨a8, c8, e8⟩ := hO.shape
      subst e8
      have HLN := Lib.hid hln
      clear hp hhi h1 hln
      go_wp2_with fail
      clear hpI hpJ hmI hx
      refine (HO.out _).mono ?_
      rintro e w1 ⟨rfl, hb1'⟩
      have hO1 := hO.below hb1' (Nat.le_refl _)
      have hB1 := hB.trans (hb1'.mono hsize)
      have hs1 := hB1.size
      go_wp2_with (at_builtin; go_must (refine app_str rfl (.tmp 33) (.tmp 49) rfl w.heap.size (.slice a8 done.length c8) done one rfl hO1 rfl (by rw [HLN.out]; omega) hs1 ?_); intro v' w' hO2 hb2 _)
      go_roundw
      case rel => exact ⟨k + 1, by go_num, by omega, by rw [HN.out]; exact hO2, hB1.trans hb2⟩
      case measure => simp [intOf]; omega
    · have hkC : k = C := by omega
      subst hkC
      rw [HT.out] at hO
      clear HT HVL HVT
      go_wp2_with fail
      go_ret2
      exact ⟨⟨_, rfl, hO⟩, hB⟩
end Go.Proofs.YtjldphpdfckjnaaDoor
