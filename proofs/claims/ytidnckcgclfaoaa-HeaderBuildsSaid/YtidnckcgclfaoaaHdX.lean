/- The law HeaderBuilds, walked. -/
import Derived.Test.YtidnckcgclfaoaaHdW
namespace Go.Proofs.Ytidnckcgclfaoaa
open Go.RowKit

theorem fits_turn (h : HeadL) (k : UInt8) (f : Int) : fitsN { h with kind := k, form := f } = fitsN h := rfl
theorem build_turn (h : HeadL) : buildN (turnH h) = buildN h := by
  unfold buildN rawN turnH partB partP
  simp only [kind_ne]
set_option maxRecDepth 100000 in
set_option maxHeartbeats 16000000 in
theorem lawBuilds05 (h : HeadL) (w : World) (hs : shortH h 140737488355328) (hw : wfH h) :
    Calls Try.prog 4 #[HV h] w fun e w' => e = .returned (.bool true) ∧ Below w.heap.size w w' := by
  obtain ⟨w1, hw1⟩ : ∃ w1, w1 = w.alloc (.cells (HC h).toArray 23) := ⟨_, rfl⟩
  have HH1 : Hid (HAt w1 w.heap.size h) := Lib.hid (by rw [hw1]; exact AtB.new w _ (HC h))
  have HX1 : Hid (Below w.heap.size w w1) := Lib.hid (by rw [hw1]; exact (Below.refl _ _).alloc (Nat.le_refl _) _)
  have HW := Lib.hid hw1
  have HAW := Lib.hid awake05
  obtain ⟨l1, l2, l3, l4⟩ := hs
  rw [HV_eq]
  by_cases hbig : 2000 < h.name.length + h.link.length + h.uname.length + h.gname.length
  · have hbI : ((h.name.length : Int) + h.link.length + h.uname.length + h.gname.length) > 2000 := by omega
    clear hw1 hbig hw
    go_enter Try.func4, Try.ntmps4
    go_upto_region 1 with fail
    rw [← HW.out]
    clear HW
    go_wp2_with (first | (refine hl_get rfl 9 _ rfl (noagg_str _) w.heap.size 0 rfl h HH1.out (.string (S h.name)) rfl ?_) | (refine hl_get rfl 9 _ rfl (noagg_str _) w.heap.size 1 rfl h HH1.out (.string (S h.link)) rfl ?_) | (refine hl_get rfl 9 _ rfl (noagg_str _) w.heap.size 8 rfl h HH1.out (.string (S h.uname)) rfl ?_) | (refine hl_get rfl 9 _ rfl (noagg_str _) w.heap.size 9 rfl h HH1.out (.string (S h.gname)) rfl ?_))
    refine (HAW.out _).mono ?_
    rintro e w2 ⟨rfl, hb2⟩
    go_wp2_with fail
    go_ret
    exact ⟨rfl, HX1.out.trans (hb2.mono HX1.out.size)⟩
  have hbI : ¬ ((h.name.length : Int) + h.link.length + h.uname.length + h.gname.length) > 2000 := by omega
  have hsh : shortH h 1000000 := ⟨by omega, by omega, by omega, by omega⟩
  have HRF := Lib.hid (fun w => rFits_any h w ⟨l1, l2, l3, l4⟩)
  have HFT := Lib.hid (fun w => hFits_any h w hsh hw)
  by_cases hf : fitsN h = 0
  rotate_left
  · have HB := Lib.hid (fun w => hBuild_no h w hsh hw hf)
    have hfb : ((fitsN h : Int) != 0) = true := bne_iff_ne.2 (by omega)
    generalize fitsN h = F at *
    clear hw1 hbig hw hsh hf
    go_enter Try.func4, Try.ntmps4
    go_upto_region 1 with fail
    rw [← HW.out]
    clear HW
    go_wp2_with (first | (refine hl_get rfl 9 _ rfl (noagg_str _) w.heap.size 0 rfl h HH1.out (.string (S h.name)) rfl ?_) | (refine hl_get rfl 9 _ rfl (noagg_str _) w.heap.size 1 rfl h HH1.out (.string (S h.link)) rfl ?_) | (refine hl_get rfl 9 _ rfl (noagg_str _) w.heap.size 8 rfl h HH1.out (.string (S h.uname)) rfl ?_) | (refine hl_get rfl 9 _ rfl (noagg_str _) w.heap.size 9 rfl h HH1.out (.string (S h.gname)) rfl ?_) | (refine hl_load rfl _ rfl w.heap.size rfl h HH1.out ?_))
    refine (HB.out _).mono ?_
    rintro e w2 ⟨rfl, hb2⟩
    have HX2 := Lib.hid (HX1.out.trans (hb2.mono HX1.out.size))
    have HH2 := Lib.hid (HH1.out.under hb2 HH1.out.lt)
    clear HX1 HH1 hb2
    go_wp2_with (refine hl_load rfl _ rfl w.heap.size rfl h HH2.out ?_)
    refine (HRF.out _).mono ?_
    rintro e w3 ⟨rfl, hb3⟩
    have HX3 := Lib.hid (HX2.out.trans (hb3.mono HX2.out.size))
    have HH3 := Lib.hid (HH2.out.under hb3 HH2.out.lt)
    clear HX2 HH2 hb3
    have cs := fun i => HH3.out.cell i
    have c0 : w3.cell? ⟨w.heap.size, 0, none⟩ = some (.string (S h.name)) := cs 0
    have c1 : w3.cell? ⟨w.heap.size, 1, none⟩ = some (.string (S h.link)) := cs 1
    have c2 : w3.cell? ⟨w.heap.size, 2, none⟩ = some (.int .u8 h.kind.toNat) := cs 2
    have c3 : w3.cell? ⟨w.heap.size, 3, none⟩ = some (.int .i64 h.mode) := cs 3
    have c4 : w3.cell? ⟨w.heap.size, 4, none⟩ = some (.int .i64 h.uid) := cs 4
    have c5 : w3.cell? ⟨w.heap.size, 5, none⟩ = some (.int .i64 h.gid) := cs 5
    have c6 : w3.cell? ⟨w.heap.size, 6, none⟩ = some (.int .i64 h.size) := cs 6
    have c7 : w3.cell? ⟨w.heap.size, 7, none⟩ = some (.int .i64 h.time) := cs 7
    have c8 : w3.cell? ⟨w.heap.size, 8, none⟩ = some (.string (S h.uname)) := cs 8
    have c9 : w3.cell? ⟨w.heap.size, 9, none⟩ = some (.string (S h.gname)) := cs 9
    have c10 : w3.cell? ⟨w.heap.size, 10, none⟩ = some (.int .i64 h.major) := cs 10
    have c11 : w3.cell? ⟨w.heap.size, 11, none⟩ = some (.int .i64 h.minor) := cs 11
    have c12 : w3.cell? ⟨w.heap.size, 12, none⟩ = some (.int .i64 h.form) := cs 12
    clear cs
    go_wp2_with fail
    refine (HFT.out _).mono ?_
    rintro e w4 ⟨rfl, hb4⟩
    have HX4 := Lib.hid (HX3.out.trans (hb4.mono HX3.out.size))
    go_wp2_with fail
    refine (HAW.out _).mono ?_
    rintro e w5 ⟨rfl, hb5⟩
    go_wp2_with fail
    go_ret
    exact ⟨rfl, HX4.out.trans (hb5.mono HX4.out.size)⟩
  have HB := Lib.hid (fun w => hBuild_yes h w hsh hw hf)
  have hbl : (buildN h).length ≤ 1000000 := by rw [(build_fields h hf).len]; decide
  have HPA := Lib.hid (fun w => hParse_any (buildN h) w hbl)
  rw [parse_build h hf] at HPA
  have HRB := Lib.hid (fun w => rBuild_any (turnH h) w hf)
  rw [build_turn h] at HRB
  rw [hf] at HRF HFT
  obtain ⟨K, hK⟩ : ∃ K, kindN h.kind = K := ⟨_, rfl⟩
  have hT : turnH h = ⟨h.name, h.link, K, h.mode, h.uid, h.gid, h.size, h.time, h.uname, h.gname, h.major, h.minor, 2⟩ := by rw [← hK]; rfl
  rw [hT] at HPA HRB
  have hbb : (buildN h == buildN h) = true := beq_iff_eq.2 rfl
  generalize buildN h = B at *
  have hcase : (((h.kind.toNat : Int) == 0) = true ∧ K = 48) ∨ (((h.kind.toNat : Int) == 0) = false ∧ K = h.kind) := by
    by_cases hc0 : h.kind = 0
    · left
      exact ⟨by rw [hc0]; rfl, by rw [← hK, hc0]; rfl⟩
    · right
      exact ⟨byte_beq' _ 0 0 rfl hc0, by rw [← hK]; unfold kindN; rw [if_neg hc0]⟩
  clear hw1 hbig hw hsh hf hbl hT hK
  go_enter Try.func4, Try.ntmps4
  go_upto_region 1 with fail
  rw [← HW.out]
  clear HW
  go_wp2_with (first | (refine hl_get rfl 9 _ rfl (noagg_str _) w.heap.size 0 rfl h HH1.out (.string (S h.name)) rfl ?_) | (refine hl_get rfl 9 _ rfl (noagg_str _) w.heap.size 1 rfl h HH1.out (.string (S h.link)) rfl ?_) | (refine hl_get rfl 9 _ rfl (noagg_str _) w.heap.size 8 rfl h HH1.out (.string (S h.uname)) rfl ?_) | (refine hl_get rfl 9 _ rfl (noagg_str _) w.heap.size 9 rfl h HH1.out (.string (S h.gname)) rfl ?_) | (refine hl_load rfl _ rfl w.heap.size rfl h HH1.out ?_))
  refine (HB.out _).mono ?_
  rintro e w2 ⟨rfl, hb2⟩
  have HX2 := Lib.hid (HX1.out.trans (hb2.mono HX1.out.size))
  have HH2 := Lib.hid (HH1.out.under hb2 HH1.out.lt)
  clear HX1 HH1 hb2
  go_wp2_with (refine hl_load rfl _ rfl w.heap.size rfl h HH2.out ?_)
  refine (HRF.out _).mono ?_
  rintro e w3 ⟨rfl, hb3⟩
  have HX3 := Lib.hid (HX2.out.trans (hb3.mono HX2.out.size))
  have HH3 := Lib.hid (HH2.out.under hb3 HH2.out.lt)
  clear HX2 HH2 hb3
  have cs := fun i => HH3.out.cell i
  have c0 : w3.cell? ⟨w.heap.size, 0, none⟩ = some (.string (S h.name)) := cs 0
  have c1 : w3.cell? ⟨w.heap.size, 1, none⟩ = some (.string (S h.link)) := cs 1
  have c2 : w3.cell? ⟨w.heap.size, 2, none⟩ = some (.int .u8 h.kind.toNat) := cs 2
  have c3 : w3.cell? ⟨w.heap.size, 3, none⟩ = some (.int .i64 h.mode) := cs 3
  have c4 : w3.cell? ⟨w.heap.size, 4, none⟩ = some (.int .i64 h.uid) := cs 4
  have c5 : w3.cell? ⟨w.heap.size, 5, none⟩ = some (.int .i64 h.gid) := cs 5
  have c6 : w3.cell? ⟨w.heap.size, 6, none⟩ = some (.int .i64 h.size) := cs 6
  have c7 : w3.cell? ⟨w.heap.size, 7, none⟩ = some (.int .i64 h.time) := cs 7
  have c8 : w3.cell? ⟨w.heap.size, 8, none⟩ = some (.string (S h.uname)) := cs 8
  have c9 : w3.cell? ⟨w.heap.size, 9, none⟩ = some (.string (S h.gname)) := cs 9
  have c10 : w3.cell? ⟨w.heap.size, 10, none⟩ = some (.int .i64 h.major) := cs 10
  have c11 : w3.cell? ⟨w.heap.size, 11, none⟩ = some (.int .i64 h.minor) := cs 11
  have c12 : w3.cell? ⟨w.heap.size, 12, none⟩ = some (.int .i64 h.form) := cs 12
  clear cs
  go_wp2_with fail
  refine (HFT.out _).mono ?_
  rintro e w4 ⟨rfl, hb4⟩
  have HX4 := Lib.hid (HX3.out.trans (hb4.mono HX3.out.size))
  have HH4 := Lib.hid (HH3.out.under hb4 HH3.out.lt)
  clear HX3 HH3 hb4 c0 c1 c2 c3 c4 c5 c6 c7 c8 c9 c10 c11 c12
  go_wp2_with fail
  refine (HPA.out _).mono ?_
  rintro e w5 ⟨rfl, hb5⟩
  have HX5 := Lib.hid (HX4.out.trans (hb5.mono HX4.out.size))
  have HH5 := Lib.hid (HH4.out.under hb5 HH4.out.lt)
  clear HX4 HH4 hb5
  have HG6 : Hid (HAt (w5.alloc (.cells (HC ⟨h.name, h.link, K, h.mode, h.uid, h.gid, h.size, h.time, h.uname, h.gname, h.major, h.minor, 2⟩).toArray 23)) w5.heap.size ⟨h.name, h.link, K, h.mode, h.uid, h.gid, h.size, h.time, h.uname, h.gname, h.major, h.minor, 2⟩) := Lib.hid (AtB.new w5 _ (HC _))
  have HH6 : Hid (HAt (w5.alloc (.cells (HC ⟨h.name, h.link, K, h.mode, h.uid, h.gid, h.size, h.time, h.uname, h.gname, h.major, h.minor, 2⟩).toArray 23)) w.heap.size h) := Lib.hid (AtB.alloc HH5.out _)
  have HX6 : Hid (Below w.heap.size w (w5.alloc (.cells (HC ⟨h.name, h.link, K, h.mode, h.uid, h.gid, h.size, h.time, h.uname, h.gname, h.major, h.minor, 2⟩).toArray 23))) := Lib.hid (HX5.out.alloc HX5.out.size _)
  have hg5 : w.heap.size < w5.heap.size := HH5.out.lt
  clear HH5 HX5
  have fin : ∀ W g : Nat, ∀ X : World, HAt X g ⟨h.name, h.link, K, h.mode, h.uid, h.gid, h.size, h.time, h.uname, h.gname, h.major, h.minor, 2⟩ →
      X.cell? ⟨g, 0, none⟩ = some (.string (S h.name)) ∧ X.cell? ⟨g, 1, none⟩ = some (.string (S h.link)) ∧ X.cell? ⟨g, 2, none⟩ = some (.int .u8 K.toNat) ∧ X.cell? ⟨g, 3, none⟩ = some (.int .i64 h.mode) ∧ X.cell? ⟨g, 4, none⟩ = some (.int .i64 h.uid) ∧ X.cell? ⟨g, 5, none⟩ = some (.int .i64 h.gid) ∧ X.cell? ⟨g, 6, none⟩ = some (.int .i64 h.size) ∧ X.cell? ⟨g, 7, none⟩ = some (.int .i64 h.time) ∧ X.cell? ⟨g, 8, none⟩ = some (.string (S h.uname)) ∧ X.cell? ⟨g, 9, none⟩ = some (.string (S h.gname)) ∧ X.cell? ⟨g, 10, none⟩ = some (.int .i64 h.major) ∧ X.cell? ⟨g, 11, none⟩ = some (.int .i64 h.minor) ∧ X.cell? ⟨g, 12, none⟩ = some (.int .i64 2) :=
    fun _ g X hA => ⟨hA.cell 0, hA.cell 1, hA.cell 2, hA.cell 3, hA.cell 4, hA.cell 5, hA.cell 6, hA.cell 7, hA.cell 8, hA.cell 9, hA.cell 10, hA.cell 11, hA.cell 12⟩
  have HFIN := Lib.hid fin
  clear fin
  rcases hcase with ⟨hk0, hK⟩ | ⟨hk0, hK⟩
  · have HK := Lib.hid hK
    clear hK
    go_wp2_with (first | (refine app_storeAll rfl _ _ _ rfl (HC noneH).toArray (HC ⟨h.name, h.link, K, h.mode, h.uid, h.gid, h.size, h.time, h.uname, h.gname, h.major, h.minor, 2⟩).toArray rfl rfl info_head rfl (HC_one _) ?_; generalize w5.alloc (.cells (HC ⟨h.name, h.link, K, h.mode, h.uid, h.gid, h.size, h.time, h.uname, h.gname, h.major, h.minor, 2⟩).toArray 23) = W6 at *; generalize w5.heap.size = g5 at *) | (refine hl_set rfl 3 size_int _ _ rfl w.heap.size 12 rfl h HH6.out (by decide) (.int .i64 2) rfl rfl rfl ⟨h.name, h.link, h.kind, h.mode, h.uid, h.gid, h.size, h.time, h.uname, h.gname, h.major, h.minor, 2⟩ rfl w.heap.size w HX6.out (Nat.le_refl _) ?_; intro w7 hA hB hk; have HH7 := Lib.hid hA; have HX7 := Lib.hid hB; have HG7 := Lib.hid (HG6.out.same (hk _ (by omega))); clear hA hB hk HH6 HX6 HG6) | (refine hl_get rfl 5 _ rfl (noagg_u8 _) w.heap.size 2 rfl _ HH7.out (.int .u8 h.kind.toNat) rfl ?_) | (refine hl_set rfl 5 size_u8 _ _ rfl w.heap.size 2 rfl _ HH7.out (by decide) (.int .u8 48) rfl rfl rfl ⟨h.name, h.link, K, h.mode, h.uid, h.gid, h.size, h.time, h.uname, h.gname, h.major, h.minor, 2⟩ (by rw [HK.out]; rfl) w.heap.size w HX7.out (Nat.le_refl _) ?_; intro w8 hA hB hk; have HH8 := Lib.hid hA; have HX8 := Lib.hid hB; have HG8 := Lib.hid (HG7.out.same (hk _ (by omega))); clear hA hB hk HH7 HX7 HG7) | (refine hl_load rfl _ rfl w.heap.size rfl _ HH8.out ?_))
    refine (HRB.out _).mono ?_
    rintro e w9 ⟨rfl, hb9⟩
    have HX9 := Lib.hid (HX8.out.trans (hb9.mono HX8.out.size))
    obtain ⟨c0, c1, c2, c3, c4, c5, c6, c7, c8, c9, c10, c11, c12⟩ := HFIN.out 0 _ _ (HH8.out.under hb9 HH8.out.lt)
    obtain ⟨d0, d1, d2, d3, d4, d5, d6, d7, d8, d9, d10, d11, d12⟩ := HFIN.out 0 _ _ (HG8.out.under hb9 HG8.out.lt)
    clear hb9 HX8 HH8 HG8 HK
    go_wp2_with fail
    refine (HAW.out _).mono ?_
    rintro e wa ⟨rfl, hba⟩
    go_wp2_with fail
    go_ret
    exact ⟨rfl, HX9.out.trans (hba.mono HX9.out.size)⟩
  · have HK := Lib.hid hK
    clear hK
    go_wp2_with (first | (refine app_storeAll rfl _ _ _ rfl (HC noneH).toArray (HC ⟨h.name, h.link, K, h.mode, h.uid, h.gid, h.size, h.time, h.uname, h.gname, h.major, h.minor, 2⟩).toArray rfl rfl info_head rfl (HC_one _) ?_; generalize w5.alloc (.cells (HC ⟨h.name, h.link, K, h.mode, h.uid, h.gid, h.size, h.time, h.uname, h.gname, h.major, h.minor, 2⟩).toArray 23) = W6 at *; generalize w5.heap.size = g5 at *) | (refine hl_set rfl 3 size_int _ _ rfl w.heap.size 12 rfl h HH6.out (by decide) (.int .i64 2) rfl rfl rfl ⟨h.name, h.link, K, h.mode, h.uid, h.gid, h.size, h.time, h.uname, h.gname, h.major, h.minor, 2⟩ (by rw [HK.out]; rfl) w.heap.size w HX6.out (Nat.le_refl _) ?_; intro w8 hA hB hk; have HH8 := Lib.hid hA; have HX8 := Lib.hid hB; have HG8 := Lib.hid (HG6.out.same (hk _ (by omega))); clear hA hB hk HH6 HX6 HG6) | (refine hl_get rfl 5 _ rfl (noagg_u8 _) w.heap.size 2 rfl _ HH8.out (.int .u8 h.kind.toNat) (by rw [HK.out]; rfl) ?_) | (refine hl_load rfl _ rfl w.heap.size rfl _ HH8.out ?_))
    refine (HRB.out _).mono ?_
    rintro e w9 ⟨rfl, hb9⟩
    have HX9 := Lib.hid (HX8.out.trans (hb9.mono HX8.out.size))
    obtain ⟨c0, c1, c2, c3, c4, c5, c6, c7, c8, c9, c10, c11, c12⟩ := HFIN.out 0 _ _ (HH8.out.under hb9 HH8.out.lt)
    obtain ⟨d0, d1, d2, d3, d4, d5, d6, d7, d8, d9, d10, d11, d12⟩ := HFIN.out 0 _ _ (HG8.out.under hb9 HG8.out.lt)
    clear hb9 HX8 HH8 HG8 HK
    go_wp2_with fail
    refine (HAW.out _).mono ?_
    rintro e wa ⟨rfl, hba⟩
    go_wp2_with fail
    go_ret
    exact ⟨rfl, HX9.out.trans (hba.mono HX9.out.size)⟩
end Go.Proofs.Ytidnckcgclfaoaa
