/- The law GlobFull, walked. -/
import Derived.Test.YthcmoigdihdabaaGlobI
import Derived.Test.YthcmoigdihdabaaMakeB
import Derived.Laws.OwnMore
namespace Go.Proofs.Ythcmoigdihdabaa
open Go.RowKit
attribute [local irreducible] wordP

theorem set_full (n i : Nat) (h : i < n) : (fullL i ++ List.replicate (n - i) 0).set i (fullB i) = fullL (i + 1) ++ List.replicate (n - (i + 1)) 0 := by
  rw [fullL_snoc, List.append_assoc]
  have e : List.replicate (n - i) (0 : UInt8) = 0 :: List.replicate (n - (i + 1)) 0 := by
    rw [show n - i = (n - (i + 1)) + 1 by omega, List.replicate_succ]
  rw [e, List.set_append_right _ _ (by rw [fullL_len]; exact Nat.le_refl _), fullL_len, Nat.sub_self]
  rfl
set_option maxRecDepth 100000 in
set_option maxHeartbeats 2000000 in
theorem lawFullG (c : UInt8) (w : World) (hmx : ∃ m, w.cell? ⟨0, 0, none⟩ = some (.int .i64 m)) :
    Calls Try.prog 7 #[.int .u8 c.toNat] w fun e w' => e = .returned (.bool true) ∧ Below w.heap.size w w' := by
  obtain ⟨m, hm⟩ := hmx
  have hgW : 0 < w.heap.size := World.block_lt_of_cell? w ⟨0, 0, none⟩ hm
  have hc := c.toNat_lt
  obtain ⟨k, hk⟩ : ∃ k : Nat, k = 1020 + c.toNat % 10 := ⟨_, rfl⟩
  have hk1 : 1020 ≤ k := by omega
  have hk2 : k ≤ 1029 := by omega
  have hkI : (1020 : Int) + (c.toNat : Int) % 10 = (k : Int) := by omega
  have hwb := IntWalk.wrap64_in (c.toNat : Int) ⟨by omega, by omega⟩
  have hmk := mk_bytes k k (Nat.le_refl _) (by omega) w
  have hown0 := own_bytes k k (Nat.le_refl _) (by omega) w w.heap.size (Nat.le_refl _)
  clear hk
  go_enter Try.func7, Try.ntmps7
  go_wp2_with fail
  have hx0 : Below w.heap.size w (w.alloc (.cells (zerosA k) 5)) := (Below.refl _ _).alloc (Nat.le_refl _) _
  generalize w.alloc (.cells (zerosA k) 5) = W at *
  have hgG : w.heap.size < W.heap.size := (World.ownsRow.lt hown0 _ rfl).2
  generalize hgg : w.heap.size = g at *
  go_loopw [17] (fun v17 wr => ∃ i : Nat, v17 = .int .i64 i ∧ i ≤ k ∧ OwnB wr g (.slice (some ⟨g, 0, none⟩) k k) (fullL i ++ List.replicate (k - i) 0) ∧ Below g w wr) (fun v17 _ => k - (intOf v17).toNat)
  case atStart => exact ⟨0, rfl, Nat.zero_le _, by simpa [fullL] using hown0, hx0⟩
  case round =>
    obtain ⟨i, rfl, hi, hown, hb⟩ := hrel
    have hll : (fullL i ++ List.replicate (k - i) (0 : UInt8)).length = k := by simp [fullL_len]; omega
    have hlen : ∀ q : List UInt8, q.length = k → OwnB wr g (.slice (some ⟨g, 0, none⟩) k k) q → wr.ownsRow g 5 1 (.slice (some ⟨g, 0, none⟩) k k) k (q.map bv) := fun q hq h => by unfold OwnB at h; rw [hq] at h; exact h
    have ho := hlen _ hll hown
    by_cases hlt : i < k
    · have hiI : (i : Int) < (k : Int) := by omega
      have hcell := World.ownsRow.cellAt ho i (by omega)
      have hfz := World.ownsRow.frozenAt ho i
      have hst := World.ownsRow.stored ho i (bv (fullB i))
      have hset := set_full k i hlt
      have hgi : ((fullL i ++ List.replicate (k - i) (0 : UInt8)).map bv)[i]? = some (bv 0) := by
        rw [List.getElem?_map, List.getElem?_append_right (by rw [fullL_len]; exact Nat.le_refl _), fullL_len, Nat.sub_self, List.getElem?_replicate, if_pos (by omega)]
        rfl
      rw [hgi] at hcell
      have hm3 : i % 3 = 0 ∨ i % 3 = 1 ∨ i % 3 = 2 := by omega
      have hown2 : OwnB (wr.setCell ⟨g, i, none⟩ (bv (fullB i))) g (.slice (some ⟨g, 0, none⟩) k k) (fullL (i + 1) ++ List.replicate (k - (i + 1)) 0) := by
        have h1 := hst.1
        rw [← List.map_set, hset] at h1
        unfold OwnB
        rw [show (fullL (i + 1) ++ List.replicate (k - (i + 1)) (0 : UInt8)).length = k by simp [fullL_len]; omega]
        exact h1
      have hb2 : Below g w (wr.setCell ⟨g, i, none⟩ (bv (fullB i))) := hb.setCell (Nat.le_refl _) _
      have HO2 := Lib.hid hown2
      have HB2 := Lib.hid hb2
      clear hown2 hb2 hst hset hgi ho hlen hll
      rcases hm3 with h3 | h3 | h3
      · have hmI : (i : Int) % 3 = 0 := by omega
        have hfb : fullB i = 63 := by unfold fullB; simp [h3]
        rw [hfb] at HO2 HB2
        go_wp2_with fail
        go_roundw
        case rel => exact ⟨i + 1, by go_num, by omega, HO2.out, HB2.out⟩
        case measure => simp [intOf]; omega
      · have hmI : (i : Int) % 3 = 1 := by omega
        have hfb : fullB i = 42 := by unfold fullB; simp [h3]
        rw [hfb] at HO2 HB2
        go_wp2_with fail
        go_roundw
        case rel => exact ⟨i + 1, by go_num, by omega, HO2.out, HB2.out⟩
        case measure => simp [intOf]; omega
      · have hmI : (i : Int) % 3 = 2 := by omega
        have hfb : fullB i = 97 := by unfold fullB; simp [h3]
        rw [hfb] at HO2 HB2
        go_wp2_with fail
        go_roundw
        case rel => exact ⟨i + 1, by go_num, by omega, HO2.out, HB2.out⟩
        case measure => simp [intOf]; omega
    · have hik : i = k := by omega
      subst hik
      rw [Nat.sub_self, List.replicate_zero, List.append_nil] at hown
      have hstr := run_string_own wr _ _ _ hown
      have hmr : wr.cell? ⟨0, 0, none⟩ = some (.int .i64 m) := (hb.cell (p := ⟨0, 0, none⟩) hgW).trans hm
      have hszr : g ≤ wr.heap.size := by have := hb.size; omega
      obtain ⟨l, hl1, hl2⟩ := parse_full i i (i + 1) 0 [] (by omega) (Nat.zero_le _) rfl (Nat.zero_le _) (by omega)
      have HP := GParse_any (fullL i) (by rw [fullL_len]; omega) wr m hmr
      rw [fullL_len] at HP
      have HA := Lib.hid (fun W hW => awake15 m W hW)
      by_cases hbig : 1024 < i
      · rw [hl2 hbig] at HP
        have HP := Lib.hid HP
        have hbI : (1024 : Int) < (i : Int) := by omega
        clear hl1 hl2
        go_wp2_with fail
        refine (HP.out).mono ?_
        rintro e w2 ⟨v, rfl, hown2, hb2⟩
        obtain ⟨a, c2, rfl⟩ := hown2.shape
        have hx2 : Below g w w2 := hb.trans (hb2.mono hszr)
        go_wp2_with fail
        refine (HA.out _ ((hx2.cell (p := ⟨0, 0, none⟩) hgW).trans hm)).mono ?_
        rintro e w3 ⟨rfl, hb3⟩
        go_wp2_with fail
        go_ret
        exact ⟨rfl, by rw [hgg]; exact hx2.trans (hb3.mono (by have := hb2.size; omega))⟩
      · obtain ⟨h1, h2⟩ := hl1 (by omega)
        rw [h1] at HP
        have HP := Lib.hid HP
        have hbI : ¬ (1024 : Int) < (i : Int) := by omega
        clear hl1 hl2 h1
        go_wp2_with fail
        refine (HP.out).mono ?_
        rintro e w2 ⟨v, rfl, hown2, hb2⟩
        obtain ⟨a, c2, rfl⟩ := hown2.shape
        have hx2 : Below g w w2 := hb.trans (hb2.mono hszr)
        rw [h2]
        go_wp2_with fail
        refine (HA.out _ ((hx2.cell (p := ⟨0, 0, none⟩) hgW).trans hm)).mono ?_
        rintro e w3 ⟨rfl, hb3⟩
        go_wp2_with fail
        go_ret
        exact ⟨rfl, by rw [hgg]; exact hx2.trans (hb3.mono (by have := hb2.size; omega))⟩
end Go.Proofs.Ythcmoigdihdabaa
