/- Volumes: the document's Part, walked. -/
import Derived.Test.YtjldphpdfckjnaaDoorVolE
namespace Go.Proofs.YtjldphpdfckjnaaDoor
open Go.RowKit

def chunksV (sz : Nat) (s : List UInt8) (k : Nat) : List (List UInt8) := (List.range k).map (chunkV sz s)
theorem chunks_len (sz : Nat) (s : List UInt8) (k : Nat) : (chunksV sz s k).length = k := by unfold chunksV; rw [List.length_map, List.length_range]
theorem chunks_succ (sz : Nat) (s : List UInt8) (k : Nat) : chunksV sz s (k + 1) = chunksV sz s k ++ [chunkV sz s k] := by
  unfold chunksV
  rw [List.range_succ, List.map_append]; rfl
theorem chunks_get (sz : Nat) (s : List UInt8) (k i : Nat) (h : i < k) : (chunksV sz s k)[i]? = some (chunkV sz s i) := by
  unfold chunksV
  simp [h]
set_option maxRecDepth 100000 in
set_option maxHeartbeats 4000000 in
theorem rPart_any (s : List UInt8) (n : Nat) (h2 : 2 ≤ n) (hm : n ≤ 1048576) (hs : s.length ≤ 1000000) (w : World) :
    Calls Tryd.prog 15 #[.string (S s), .int .i64 n] w fun e w' => (∃ v, e = .returned v ∧ OwnS w' w.heap.size v (volsV (512 * (n - 1)) s)) ∧ Below w.heap.size w w' := by
  obtain ⟨sz, hsz⟩ : ∃ sz, sz = 512 * (n - 1) := ⟨_, rfl⟩
  rw [← hsz]
  have hz1 : 512 ≤ sz := by omega
  have hz2 : sz ≤ 536870400 := by omega
  have hmul : 512 * ((n : Int) - 1) = (sz : Int) := by omega
  clear hsz
  go_enter Tryd.func15, Tryd.ntmps15
  go_upto_region 3 with (fail)
  have hX0 : Below w.heap.size w (w.alloc (.cells #[] 9)) := (Below.refl _ _).alloc (Nat.le_refl _) _
  have hO0 := ownS_lit w
  generalize w.alloc (.cells #[] 9) = W0 at *
  generalize (Value.slice (some ⟨w.heap.size, 0, none⟩) 0 0) = v0 at *
  clear hmul
  go_loopw [0, 6] (fun x v wr => ∃ (k : Nat), x = .string (S (s.drop (k * sz))) ∧ k * sz ≤ s.length ∧ (k = 0 ∨ k * sz < s.length) ∧ k ≤ 2000 ∧ OwnS wr w.heap.size v (chunksV sz s k) ∧ Below w.heap.size w wr) (fun x _ _ => match x with | .string b => b.size | _ => 0)
  case atStart => exact ⟨0, by rw [Nat.zero_mul, List.drop_zero], by omega, .inl rfl, by omega, hO0, hX0⟩
  case round =>
    obtain ⟨k, rfl, hk, hk0, hk2, hO, hB⟩ := hrel
    have hsize := hB.size
    have hdl : (s.drop (k * sz)).length = s.length - k * sz := List.length_drop
    have hcN := chunks_len sz s k
    have HCS := Lib.hid (chunks_succ sz s k)
    by_cases hgt : sz < (s.drop (k * sz)).length
    · have hgI : ((s.drop (k * sz)).length : Int) > (sz : Int) := by omega
      have hge : (sz : Int) ≤ ((s.drop (k * sz)).length : Int) := by omega
      have e1 : (S (s.drop (k * sz))).extract 0 sz = S (chunkV sz s k) := take_S _ _
      have e2 : (S (s.drop (k * sz))).extract sz (s.drop (k * sz)).length = S (s.drop ((k + 1) * sz)) := by
        rw [drop_S _ _ _ rfl, List.drop_drop, Nat.add_mul, Nat.one_mul]
      have hk3 : (k + 1) * sz < s.length := by rw [Nat.add_mul, Nat.one_mul]; omega
      have hk4 : k + 1 ≤ 2000 := by
        have : (k + 1) * 512 ≤ (k + 1) * sz := Nat.mul_le_mul_left _ hz1
        omega
      have HM : Hid ((s.drop ((k + 1) * sz)).length < (s.drop (k * sz)).length) := Lib.hid (by rw [List.length_drop, hdl, Nat.add_mul, Nat.one_mul]; omega)
      have HCN := Lib.hid hcN
      obtain ⟨d2, hd2⟩ : ∃ d2, d2 = s.drop ((k + 1) * sz) := ⟨_, rfl⟩
      rw [← hd2] at e2 HM
      have HD2 := Lib.hid hd2
      clear hd2
      generalize s.drop (k * sz) = d at *
      generalize chunkV sz s k = ch at *
      generalize chunksV sz s k = done at *
      obtain ⟨a6, c6, e6⟩ := hO.shape
      subst e6
      clear hdl hcN
      go_wp2_with (at_builtin; go_must (refine app_str rfl (.tmp 17) (.tmp 21) rfl w.heap.size (.slice a6 done.length c6) done ch rfl hO rfl (by rw [HCN.out]; omega) hsize ?_); intro v' w' hO2 hb2 _)
      go_roundw
      case rel => exact ⟨k + 1, by rw [HD2.out], by omega, .inr hk3, by omega, by rw [HCS.out]; exact hO2, hB.trans hb2⟩
      case measure =>
        show (S d2).size < (S d).size
        rw [S_size, S_size]; exact HM.out
    · have hgI : ¬ ((s.drop (k * sz)).length : Int) > (sz : Int) := by omega
      have hch : s.drop (k * sz) = chunkV sz s k := by
        unfold chunkV
        rw [List.take_of_length_le (by omega)]
      have hC : cntV sz s = k + 1 := cnt_is sz s k (by omega) (by rw [Nat.add_mul, Nat.one_mul]; omega) hk0
      have HVT := Lib.hid (fun j => vols_take sz s j)
      have HT : Hid ((volsV sz s).take (k + 1) = volsV sz s) := Lib.hid (by rw [← hC, ← vols_len, List.take_length])
      have HVL : Hid ((volsV sz s).length = k + 1) := Lib.hid (by rw [vols_len, hC])
      have HG := Lib.hid (fun i h => chunks_get sz s (k + 1) i h)
      have HL1 := Lib.hid (chunks_len sz s (k + 1))
      rw [HCS.out] at HG HL1
      rw [hch] at hgI ⊢
      rw [hC] at HVT
      have HCN := Lib.hid hcN
      have hCL := fun i => chunk_len sz s i
      have HCL := Lib.hid hCL
      have hchl := chunk_len sz s k
      obtain ⟨L, hLe⟩ : ∃ L, volsV sz s = L := ⟨_, rfl⟩
      rw [hLe] at HVT HT HVL
      have HLE := Lib.hid hLe
      clear hLe
      generalize hcc : chunkV sz s = cf at *
      generalize chunksV sz s k = done at *
      obtain ⟨a6, c6, e6⟩ := hO.shape
      subst e6
      clear hdl hch hC hcN hcc hCL hk0
      go_upto_region 8 with (at_builtin; go_must (refine app_str rfl (.tmp 26) (.tmp 28) rfl w.heap.size (.slice a6 done.length c6) done (cf k) rfl hO rfl (by rw [HCN.out]; omega) hsize ?_); intro v' w' hO2 hb2 _)
      have hB2 := hB.trans hb2
      have hsize2 := hB2.size
      obtain ⟨a, c, e4, hcell⟩ := hO2.strs
      have hX3 : Below w'.heap.size w' (w'.alloc (.cells #[] 9)) := (Below.refl _ _).alloc (Nat.le_refl _) _
      have hO3 := ownS_lit w'
      have hll : (done ++ [cf k]).length = k + 1 := HL1.out
      subst e4
      generalize done ++ [cf k] = chs at *
      have HCE : Hid (∃ b off, a = some ⟨b, off, none⟩ ∧ b < w'.heap.size ∧ ∀ j, j < k + 1 → w'.cell? ⟨b, off + j, none⟩ = some (.string (S (cf j)))) := Lib.hid (by
        obtain ⟨b, off, h1, h3, h4⟩ := hcell (by omega)
        refine ⟨b, off, h1, h3, fun j hj => ?_⟩
        rw [h4 j (by omega)]
        have := HG.out j hj
        rw [List.getElem?_eq_getElem (by omega)] at this
        rw [Option.some.inj this])
      have HBW := Lib.hid hB2
      rw [hll]
      clear hO hB hO2 hb2 hgI hcell hB2 HG HL1 hll
      have HX3 := Lib.hid hX3
      have HO3 := Lib.hid hO3
      clear hX3 hO3
      generalize w'.alloc (.cells #[] 9) = W3 at *
      generalize hg' : w'.heap.size = g at *
      have HGE := Lib.hid hg'
      clear hg'
      go_wp2_with fail
      go_loopw [7, 8] (fun v i wr => ∃ (j : Nat), i = .int .i64 j ∧ j ≤ k + 1 ∧ OwnS wr g v (L.take j) ∧ Below g w' wr) (fun _ i _ => k + 1 - (intOf i).toNat)
      case atStart => exact ⟨0, rfl, Nat.zero_le _, HO3.out, HX3.out⟩
      case round =>
        obtain ⟨j, rfl, hj, hO, hB⟩ := hrel
        clear HX3 HO3
        have hsz := hB.size
        by_cases hlt : j < k + 1
        · obtain ⟨b, off, rfl, hb1, hb2⟩ := HCE.out
          have hc : wr.cell? ⟨b, off + j, none⟩ = some (.string (S (cf j))) := by rw [hB.cell (by exact hb1)]; exact hb2 j hlt
          have hRO := Lib.hid (fun w => rone_any (cf j) j (k + 1 : Nat) (by omega) (by omega) (by omega) (by omega) (by have := HCL.out j; omega) w)
          have HN := Lib.hid (HVT.out j hlt)
          have hjI : (j : Int) < (k + 1 : Nat) := by omega
          have hln : (L.take j).length ≤ 3000 := by rw [List.length_take, HVL.out]; omega
          generalize cf j = ch at *
          generalize L.take j = done2 at *
          obtain ⟨a7, c7, e7⟩ := hO.shape
          subst e7
          clear hb2 HCE
          go_wp2_with fail
          refine (hRO.out _).mono ?_
          rintro e w1 ⟨rfl, hb1'⟩
          have hO1 := hO.below hb1' (Nat.le_refl _)
          have hg1 : g ≤ wr.heap.size := by have := HGE.out; omega
          have hB1 := hB.trans (hb1'.mono hg1)
          have hs1 : g ≤ w1.heap.size := Nat.le_trans hg1 hb1'.size
          go_wp2_with (at_builtin; go_must (refine app_str rfl (.tmp 37) (.tmp 46) rfl g (.slice a7 done2.length c7) done2 _ rfl hO1 rfl (by omega) hs1 ?_); intro v' w' hO2 hb2 _)
          go_roundw
          case rel => exact ⟨j + 1, by go_num, by omega, by rw [HN.out]; exact hO2, hB1.trans hb2⟩
          case measure => simp [intOf]; omega
        · have hjk : j = k + 1 := by omega
          subst hjk
          rw [HT.out] at hO
          have hjI : ¬ ((k + 1 : Nat) : Int) < (k + 1 : Nat) := by omega
          clear HT HVL HVT
          go_wp2_with fail
          go_ret
          refine ⟨⟨_, rfl, by rw [HLE.out]; exact hO.base (by have h1 := HGE.out; omega)⟩, HBW.out.trans (hB.mono (by have h1 := HGE.out; omega))⟩
end Go.Proofs.YtjldphpdfckjnaaDoor
