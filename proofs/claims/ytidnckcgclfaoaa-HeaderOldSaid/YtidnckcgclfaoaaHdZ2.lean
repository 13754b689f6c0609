/- The law HeaderOld, walked. -/
import Derived.Test.YtidnckcgclfaoaaHdW
import Derived.Test.YtidnckcgclfaoaaByAt
namespace Go.Proofs.Ytidnckcgclfaoaa
open Go.RowKit

theorem lay_lt (l : List UInt8) (off i : Nat) (s : List UInt8) (hi : i < off) (ho : off ≤ l.length) : (layL l off s).getD i 0 = l.getD i 0 := by
  unfold layL
  rw [List.append_assoc, getD_app_l _ _ _ (by rw [List.length_take]; omega)]
  simp only [List.getD_eq_getElem?_getD]
  rw [List.getElem?_take_of_lt hi]
theorem old_facts (B j1 j2 : List UInt8) (hB : B.length = 512) (h1 : j1.length ≤ 155) (h2 : j2.length ≤ 8) :
    (layL (layL (layL B 257 [0, 0, 0, 0, 0, 0, 0, 0]) 345 j1) 329 j2).length = 512 ∧ (∀ i, i < 257 → (layL (layL (layL B 257 [0, 0, 0, 0, 0, 0, 0, 0]) 345 j1) 329 j2).getD i 0 = B.getD i 0) ∧
      fldL (layL (layL (layL B 257 [0, 0, 0, 0, 0, 0, 0, 0]) 345 j1) 329 j2) 257 8 = [0, 0, 0, 0, 0, 0, 0, 0] := by
  have l1 : (layL B 257 [0, 0, 0, 0, 0, 0, 0, 0]).length = 512 := by rw [lay_len _ _ _ (by rw [hB]; decide), hB]
  have l2 : (layL (layL B 257 [0, 0, 0, 0, 0, 0, 0, 0]) 345 j1).length = 512 := by rw [lay_len _ _ _ (by rw [l1]; omega), l1]
  have l3 : (layL (layL (layL B 257 [0, 0, 0, 0, 0, 0, 0, 0]) 345 j1) 329 j2).length = 512 := by rw [lay_len _ _ _ (by rw [l2]; omega), l2]
  refine ⟨l3, fun i hi => ?_, ?_⟩
  · rw [lay_lt _ _ _ _ (by omega) (by omega), lay_lt _ _ _ _ (by omega) (by omega), lay_lt _ _ _ _ hi (by omega)]
  · rw [ext_fld _ (layL B 257 [0, 0, 0, 0, 0, 0, 0, 0]) 257 8 (by omega) (by omega) (fun i _ hi => by rw [lay_lt _ _ _ _ (by omega) (by omega), lay_lt _ _ _ _ (by omega) (by omega)])]
    unfold layL
    rw [List.append_assoc]
    exact fld_mid _ _ _ _ _ (by rw [List.length_take]; omega) rfl
set_option maxRecDepth 100000 in
set_option maxHeartbeats 8000000 in
theorem lawOld05 (h : HeadL) (junk : List UInt8) (w : World) (hs : shortH h 140737488355328) (_hw : wfH h) (hj : junk.length ≤ 140737488355328) :
    Calls Try.prog 5 #[HV h, .string (S junk)] w fun e w' => e = .returned (.bool true) ∧ Below w.heap.size w w' := by
  obtain ⟨w1, hw1⟩ : ∃ w1, w1 = w.alloc (.cells (HC h).toArray 23) := ⟨_, rfl⟩
  have HH1 : Hid (HAt w1 w.heap.size h) := Lib.hid (by rw [hw1]; exact AtB.new w _ (HC h))
  have HX1 : Hid (Below w.heap.size w w1) := Lib.hid (by rw [hw1]; exact (Below.refl _ _).alloc (Nat.le_refl _) _)
  have HW := Lib.hid hw1
  have HAW := Lib.hid awake05
  obtain ⟨n1, n2, n3, n4⟩ := hs
  obtain ⟨n, hn⟩ : ∃ n : Nat, n = min h.name.length 100 := ⟨_, rfl⟩
  have hnI : min (h.name.length : Int) 100 = (n : Int) := by omega
  have hn1 : n ≤ 100 := by omega
  have hn2 : (n : Int) ≤ (h.name.length : Int) := by omega
  have hx := take_S h.name n
  obtain ⟨h', hh'⟩ : ∃ h' : HeadL, h' = { h with name := h.name.take n } := ⟨_, rfl⟩
  have hset : (HC h).set 0 (.string (S (h.name.take n))) = HC h' := by rw [hh']; rfl
  have hnm : h'.name.length ≤ 100 := by rw [hh']; show (h.name.take n).length ≤ 100; rw [List.length_take]; omega
  have HRF := Lib.hid (fun w => rFits_any h' w (by rw [hh']; exact ⟨by show (h.name.take n).length ≤ _; rw [List.length_take]; omega, n2, n3, n4⟩))
  rw [HV_eq]
  clear hn n1 n2 n3 n4 hh'
  generalize h.name.take n = NT at *
  go_enter Try.func5, Try.ntmps5
  go_upto_region 1 with fail
  rw [← HW.out]
  clear HW hw1
  go_wp2_with (first | (refine hl_get rfl 9 _ rfl (noagg_str _) w.heap.size 0 rfl h HH1.out (.string (S h.name)) rfl ?_) | (refine hl_set rfl 9 size_str _ _ rfl w.heap.size 0 rfl h HH1.out (by decide) (.string (S NT)) rfl rfl rfl h' hset w.heap.size w HX1.out (Nat.le_refl _) ?_; intro w2 hA hB hk; have HH2 := Lib.hid hA; have HX2 := Lib.hid hB; clear hA hB hk HH1 HX1) | (refine hl_load rfl _ rfl w.heap.size rfl h' HH2.out ?_))
  refine (HRF.out _).mono ?_
  rintro e w3 ⟨rfl, hb3⟩
  have HX3 := Lib.hid (HX2.out.trans (hb3.mono HX2.out.size))
  have HH3 := Lib.hid (HH2.out.under hb3 HH2.out.lt)
  clear HX2 HH2 hb3 hnI hn2 hx hset HRF
  by_cases hf : fitsN h' = 0
  rotate_left
  · have hfb : ((fitsN h' : Int) != 0) = true := bne_iff_ne.2 (by omega)
    clear hf
    go_wp2_with fail
    refine (HAW.out _).mono ?_
    rintro e w4 ⟨rfl, hb4⟩
    go_wp2_with fail
    go_ret
    exact ⟨rfl, HX3.out.trans (hb4.mono HX3.out.size)⟩
  have hfb : ((fitsN h' : Int) != 0) = false := by rw [hf]; rfl
  by_cases hjl : 155 < junk.length
  · have hjI : (junk.length : Int) > 155 := by omega
    clear hf hj hjl
    go_wp2_with fail
    refine (HAW.out _).mono ?_
    rintro e w4 ⟨rfl, hb4⟩
    go_wp2_with fail
    go_ret
    exact ⟨rfl, HX3.out.trans (hb4.mono HX3.out.size)⟩
  have hjI : ¬ (junk.length : Int) > 155 := by omega
  have HRB := Lib.hid (fun w => rBuild_any h' w hf)
  have hBL := (build_fields h' hf).len
  have HPB := Lib.hid (fun w => hParse_any (buildN h') w (by omega))
  rw [parse_build h' hf] at HPB
  obtain ⟨hT1, hT2, hT3⟩ := old_facts (buildN h') (junk.take (Nat.min junk.length 155)) (junk.take (Nat.min junk.length 8)) hBL (by rw [List.length_take]; have : Nat.min junk.length 155 ≤ 155 := Nat.min_le_right _ _; omega) (by rw [List.length_take]; have : Nat.min junk.length 8 ≤ 8 := Nat.min_le_right _ _; omega)
  have hPO := parse_old h' _ hf hnm hT1 hT2 hT3
  obtain ⟨T, hT⟩ : ∃ T, T = layL (layL (layL (buildN h') 257 [0, 0, 0, 0, 0, 0, 0, 0]) 345 (junk.take (Nat.min junk.length 155))) 329 (junk.take (Nat.min junk.length 8)) := ⟨_, rfl⟩
  rw [← hT] at hPO hT1
  have HSE := Lib.hid (fun w => rSeal_any T w hT1)
  have HPO := Lib.hid (fun w => hParse_any (sealL T) w (by rw [seal_len T hT1]; decide))
  rw [hPO] at HPO
  have HT := Lib.hid hT
  have HT1 := Lib.hid hT1
  obtain ⟨K, hK⟩ : ∃ K, kindN h'.kind = K := ⟨_, rfl⟩
  have hE1 : turnH h' = ⟨h'.name, h'.link, K, h'.mode, h'.uid, h'.gid, h'.size, h'.time, h'.uname, h'.gname, h'.major, h'.minor, 2⟩ := by rw [← hK]; rfl
  rw [hE1] at HPB HPO
  have HBL := Lib.hid hBL
  generalize buildN h' = B at *
  clear hf hj hjl hT2 hT3 hPO hT1 hT hBL hK hE1 hnm
  go_wp2_with (refine hl_load rfl _ rfl w.heap.size rfl h' HH3.out ?_)
  refine (HRB.out _).mono ?_
  rintro e w4 ⟨rfl, hb4⟩
  have HX4 := Lib.hid (HX3.out.trans (hb4.mono HX3.out.size))
  have HH4 := Lib.hid (HH3.out.under hb4 HH3.out.lt)
  have hl4 : w.heap.size < w4.heap.size := HH4.out.lt
  clear HX3 HH3 hb4 hfb hjI
  go_wp2_with (first | (refine app_bytes rfl _ rfl B rfl ?_; intro w5 cb hb5 hBy hcb; rw [HBL.out] at hcb ⊢; have HY5 := Lib.hid hBy; have HX5 := Lib.hid (HX4.out.trans (hb5.mono HX4.out.size)); have HH5 := Lib.hid (HH4.out.under hb5 HH4.out.lt); clear hBy hb5 HX4 HH4; generalize w4.heap.size = g at *) | (refine app_copy rfl _ _ rfl g 257 8 _ rfl [0, 0, 0, 0, 0, 0, 0, 0] B rfl 8 rfl HY5.out (by rw [HBL.out]; decide) w.heap.size w HX5.out (by omega) ?_; intro w6 hA hB hk; have HY6 := Lib.hid hA; have HX6 := Lib.hid hB; have HH6 := Lib.hid (HH5.out.same (hk _ (by omega))); clear hA hB hk HY5 HX5 HH5) | (refine app_copy rfl _ _ rfl g 345 155 _ rfl junk _ rfl (Nat.min junk.length 155) rfl HY6.out (by rw [lay_len _ _ _ (by rw [HBL.out]; decide), HBL.out]; have : Nat.min junk.length 155 ≤ 155 := Nat.min_le_right _ _; omega) w.heap.size w HX6.out (by omega) ?_; intro w7 hA hB hk; have HY7 := Lib.hid hA; have HX7 := Lib.hid hB; have HH7 := Lib.hid (HH6.out.same (hk _ (by omega))); clear hA hB hk HX6 HH6) | (refine app_copy rfl _ _ rfl g 329 8 _ rfl junk _ rfl (Nat.min junk.length 8) rfl HY7.out (by rw [lay_len _ _ _ (by rw [lay_len _ _ _ (by rw [HBL.out]; decide), HBL.out, List.length_take]; have : Nat.min junk.length 155 ≤ 155 := Nat.min_le_right _ _; omega), lay_len _ _ _ (by rw [HBL.out]; decide), HBL.out]; have : Nat.min junk.length 8 ≤ 8 := Nat.min_le_right _ _; omega) w.heap.size w HX7.out (by omega) ?_; intro w8 hA hB hk; have HY8 : Hid (ByAt w8 g T) := Lib.hid (by rw [HT.out]; exact hA); have HX8 := Lib.hid hB; have HH8 := Lib.hid (HH7.out.same (hk _ (by omega))); have hstr := HY8.out.str 512 cb HT1.out.symm; clear hA hB hk HX7 HH7 HY6 HY7))
  refine (HSE.out _).mono ?_
  rintro e w9 ⟨rfl, hb9⟩
  have HX9 := Lib.hid (HX8.out.trans (hb9.mono HX8.out.size))
  have HH9 := Lib.hid (HH8.out.under hb9 HH8.out.lt)
  clear HX8 HH8 hb9 hstr HY8
  go_wp2_with fail
  refine (HPO.out _).mono ?_
  rintro e wa ⟨rfl, hba⟩
  have HXa := Lib.hid (HX9.out.trans (hba.mono HX9.out.size))
  have HHa := Lib.hid (HH9.out.under hba HH9.out.lt)
  have hla : w.heap.size < wa.heap.size := HHa.out.lt
  have HP1 : Hid (HAt (wa.alloc (.cells (HC ⟨h'.name, h'.link, K, h'.mode, h'.uid, h'.gid, h'.size, h'.time, [], [], 0, 0, 1⟩).toArray 23)) wa.heap.size ⟨h'.name, h'.link, K, h'.mode, h'.uid, h'.gid, h'.size, h'.time, [], [], 0, 0, 1⟩) := Lib.hid (AtB.new wa _ (HC _))
  have HH1 : Hid (HAt (wa.alloc (.cells (HC ⟨h'.name, h'.link, K, h'.mode, h'.uid, h'.gid, h'.size, h'.time, [], [], 0, 0, 1⟩).toArray 23)) w.heap.size h') := Lib.hid (AtB.alloc HHa.out _)
  have HX1 : Hid (Below w.heap.size w (wa.alloc (.cells (HC ⟨h'.name, h'.link, K, h'.mode, h'.uid, h'.gid, h'.size, h'.time, [], [], 0, 0, 1⟩).toArray 23))) := Lib.hid (HXa.out.alloc HXa.out.size _)
  clear HX9 HH9 hba HXa HHa
  go_wp2_with (first | (refine app_storeAll rfl _ _ _ rfl (HC noneH).toArray (HC ⟨h'.name, h'.link, K, h'.mode, h'.uid, h'.gid, h'.size, h'.time, [], [], 0, 0, 1⟩).toArray rfl rfl info_head rfl (HC_one _) ?_; generalize wa.alloc (.cells (HC ⟨h'.name, h'.link, K, h'.mode, h'.uid, h'.gid, h'.size, h'.time, [], [], 0, 0, 1⟩).toArray 23) = W1 at *; generalize wa.heap.size = g1 at *) | (refine hl_load rfl _ rfl w.heap.size rfl h' HH1.out ?_))
  refine (HRB.out _).mono ?_
  rintro e wb ⟨rfl, hbb⟩
  have HXb := Lib.hid (HX1.out.trans (hbb.mono HX1.out.size))
  have HPb := Lib.hid (HP1.out.under hbb HP1.out.lt)
  clear HX1 HP1 HH1 hbb
  go_wp2_with fail
  refine (HPB.out _).mono ?_
  rintro e wc ⟨rfl, hbc⟩
  have HXc := Lib.hid (HXb.out.trans (hbc.mono HXb.out.size))
  have HPc := Lib.hid (HPb.out.under hbc HPb.out.lt)
  have hlc : g1 < wc.heap.size := HPc.out.lt
  have HQ1 : Hid (HAt (wc.alloc (.cells (HC ⟨h'.name, h'.link, K, h'.mode, h'.uid, h'.gid, h'.size, h'.time, h'.uname, h'.gname, h'.major, h'.minor, 2⟩).toArray 23)) wc.heap.size ⟨h'.name, h'.link, K, h'.mode, h'.uid, h'.gid, h'.size, h'.time, h'.uname, h'.gname, h'.major, h'.minor, 2⟩) := Lib.hid (AtB.new wc _ (HC _))
  have HP1 : Hid (HAt (wc.alloc (.cells (HC ⟨h'.name, h'.link, K, h'.mode, h'.uid, h'.gid, h'.size, h'.time, h'.uname, h'.gname, h'.major, h'.minor, 2⟩).toArray 23)) g1 ⟨h'.name, h'.link, K, h'.mode, h'.uid, h'.gid, h'.size, h'.time, [], [], 0, 0, 1⟩) := Lib.hid (AtB.alloc HPc.out _)
  have HX1 : Hid (Below w.heap.size w (wc.alloc (.cells (HC ⟨h'.name, h'.link, K, h'.mode, h'.uid, h'.gid, h'.size, h'.time, h'.uname, h'.gname, h'.major, h'.minor, 2⟩).toArray 23))) := Lib.hid (HXc.out.alloc HXc.out.size _)
  clear HXb HPb hbc HXc HPc HPB HPO HSE HRB
  have fin : Hid (∀ (X : World) (g : Nat), HAt X g ⟨h'.name, h'.link, K, h'.mode, h'.uid, h'.gid, h'.size, h'.time, [], [], 0, 0, 1⟩ →
      X.cell? ⟨g, 0, none⟩ = some (.string (S h'.name)) ∧ X.cell? ⟨g, 1, none⟩ = some (.string (S h'.link)) ∧ X.cell? ⟨g, 2, none⟩ = some (.int .u8 K.toNat) ∧ X.cell? ⟨g, 3, none⟩ = some (.int .i64 h'.mode) ∧ X.cell? ⟨g, 4, none⟩ = some (.int .i64 h'.uid) ∧ X.cell? ⟨g, 5, none⟩ = some (.int .i64 h'.gid) ∧ X.cell? ⟨g, 6, none⟩ = some (.int .i64 h'.size) ∧ X.cell? ⟨g, 7, none⟩ = some (.int .i64 h'.time) ∧ X.cell? ⟨g, 8, none⟩ = some (.string (S [])) ∧ X.cell? ⟨g, 9, none⟩ = some (.string (S [])) ∧ X.cell? ⟨g, 10, none⟩ = some (.int .i64 0) ∧ X.cell? ⟨g, 11, none⟩ = some (.int .i64 0) ∧ X.cell? ⟨g, 12, none⟩ = some (.int .i64 1)) :=
    Lib.hid fun X g hA => ⟨hA.cell 0, hA.cell 1, hA.cell 2, hA.cell 3, hA.cell 4, hA.cell 5, hA.cell 6, hA.cell 7, hA.cell 8, hA.cell 9, hA.cell 10, hA.cell 11, hA.cell 12⟩
  go_wp2_with (first | (refine app_storeAll rfl _ _ _ rfl (HC noneH).toArray (HC ⟨h'.name, h'.link, K, h'.mode, h'.uid, h'.gid, h'.size, h'.time, h'.uname, h'.gname, h'.major, h'.minor, 2⟩).toArray rfl rfl info_head rfl (HC_one _) ?_; generalize wc.alloc (.cells (HC ⟨h'.name, h'.link, K, h'.mode, h'.uid, h'.gid, h'.size, h'.time, h'.uname, h'.gname, h'.major, h'.minor, 2⟩).toArray 23) = W2 at *; generalize wc.heap.size = g2 at *) | (refine hl_set rfl 3 size_int _ _ rfl g2 12 rfl ⟨h'.name, h'.link, K, h'.mode, h'.uid, h'.gid, h'.size, h'.time, h'.uname, h'.gname, h'.major, h'.minor, 2⟩ HQ1.out (by decide) (.int .i64 1) rfl rfl rfl ⟨h'.name, h'.link, K, h'.mode, h'.uid, h'.gid, h'.size, h'.time, h'.uname, h'.gname, h'.major, h'.minor, 1⟩ rfl w.heap.size w HX1.out (by omega) ?_; intro ws0 hA hB hk; have HQs0 := Lib.hid hA; have HXs0 := Lib.hid hB; have HPs0 := Lib.hid (HP1.out.same (hk _ (by omega))); clear hA hB hk HQ1 HX1 HP1) | (refine hl_set rfl 9 size_str _ _ rfl g2 8 rfl ⟨h'.name, h'.link, K, h'.mode, h'.uid, h'.gid, h'.size, h'.time, h'.uname, h'.gname, h'.major, h'.minor, 1⟩ HQs0.out (by decide) (.string ⟨#[]⟩) rfl rfl rfl ⟨h'.name, h'.link, K, h'.mode, h'.uid, h'.gid, h'.size, h'.time, [], h'.gname, h'.major, h'.minor, 1⟩ rfl w.heap.size w HXs0.out (by omega) ?_; intro ws1 hA hB hk; have HQs1 := Lib.hid hA; have HXs1 := Lib.hid hB; have HPs1 := Lib.hid (HPs0.out.same (hk _ (by omega))); clear hA hB hk HQs0 HXs0 HPs0) | (refine hl_set rfl 9 size_str _ _ rfl g2 9 rfl ⟨h'.name, h'.link, K, h'.mode, h'.uid, h'.gid, h'.size, h'.time, [], h'.gname, h'.major, h'.minor, 1⟩ HQs1.out (by decide) (.string ⟨#[]⟩) rfl rfl rfl ⟨h'.name, h'.link, K, h'.mode, h'.uid, h'.gid, h'.size, h'.time, [], [], h'.major, h'.minor, 1⟩ rfl w.heap.size w HXs1.out (by omega) ?_; intro ws2 hA hB hk; have HQs2 := Lib.hid hA; have HXs2 := Lib.hid hB; have HPs2 := Lib.hid (HPs1.out.same (hk _ (by omega))); clear hA hB hk HQs1 HXs1 HPs1) | (refine hl_set rfl 3 size_int _ _ rfl g2 10 rfl ⟨h'.name, h'.link, K, h'.mode, h'.uid, h'.gid, h'.size, h'.time, [], [], h'.major, h'.minor, 1⟩ HQs2.out (by decide) (.int .i64 0) rfl rfl rfl ⟨h'.name, h'.link, K, h'.mode, h'.uid, h'.gid, h'.size, h'.time, [], [], 0, h'.minor, 1⟩ rfl w.heap.size w HXs2.out (by omega) ?_; intro ws3 hA hB hk; have HQs3 := Lib.hid hA; have HXs3 := Lib.hid hB; have HPs3 := Lib.hid (HPs2.out.same (hk _ (by omega))); clear hA hB hk HQs2 HXs2 HPs2) | (refine hl_set rfl 3 size_int _ _ rfl g2 11 rfl ⟨h'.name, h'.link, K, h'.mode, h'.uid, h'.gid, h'.size, h'.time, [], [], 0, h'.minor, 1⟩ HQs3.out (by decide) (.int .i64 0) rfl rfl rfl ⟨h'.name, h'.link, K, h'.mode, h'.uid, h'.gid, h'.size, h'.time, [], [], 0, 0, 1⟩ rfl w.heap.size w HXs3.out (by omega) ?_; intro we hA hB hk; have HQe := Lib.hid hA; have HXe := Lib.hid hB; have HPe := Lib.hid (HPs3.out.same (hk _ (by omega))); clear hA hB hk HQs3 HXs3 HPs3; obtain ⟨c0, c1, c2, c3, c4, c5, c6, c7, c8, c9, c10, c11, c12⟩ := fin.out _ _ HPe.out; obtain ⟨d0, d1, d2, d3, d4, d5, d6, d7, d8, d9, d10, d11, d12⟩ := fin.out _ _ HQe.out))
  refine (HAW.out _).mono ?_
  rintro e we ⟨rfl, hbe⟩
  go_wp2_with fail
  go_ret
  exact ⟨rfl, HXe.out.trans (hbe.mono HXe.out.size)⟩
end Go.Proofs.Ytidnckcgclfaoaa
