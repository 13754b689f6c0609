/- Heads of members: the document's Build, walked. -/
import Derived.Test.YtjldphpdfckjnaaDoorHdT
import Derived.Test.YtjldphpdfckjnaaDoorHdN
namespace Go.Proofs.YtjldphpdfckjnaaDoor
open Go.RowKit

theorem name_len (h : HeadL) (ho : partO h = true) : h.name.length ≤ 1000000 := by
  obtain ⟨h1, h2, h3⟩ := part_lens h ho
  rw [← h3]
  unfold joinL
  split
  · omega
  · rw [List.length_append, List.length_cons]; omega
theorem oct8 (v : Int) (h0 : 0 ≤ v) (h1 : v < 2097152) (w : World) : Calls Tryd.prog 53 #[.int .i64 v, .int .i64 8] w fun e w' => e = .returned (.string (S (num8 v))) ∧ w = w' := by
  have p : (8 : Nat) ^ (8 - 1) = 2097152 := by decide
  have := rOct_any v.toNat 8 w (by decide) (by decide) (by rw [p]; omega)
  rw [show ((v.toNat : Nat) : Int) = v by omega] at this
  exact this
theorem oct12 (v : Int) (h0 : 0 ≤ v) (h1 : v < 8589934592) (w : World) : Calls Tryd.prog 53 #[.int .i64 v, .int .i64 12] w fun e w' => e = .returned (.string (S (num12 v))) ∧ w = w' := by
  have p : (8 : Nat) ^ (12 - 1) = 8589934592 := by decide
  have := rOct_any v.toNat 12 w (by decide) (by decide) (by rw [p]; omega)
  rw [show ((v.toNat : Nat) : Int) = v by omega] at this
  exact this
theorem raw_cat (x0 x1 x2 x3 x4 x5 k x7 x9 x10 x11 x12 x13 : List UInt8) :
    S x0 ++ S x1 ++ S x2 ++ S x3 ++ S x4 ++ S x5 ++ S [32, 32, 32, 32, 32, 32, 32, 32] ++ S k ++ S x7 ++ S [117, 115, 116, 97, 114, 0, 48, 48] ++ S x9 ++ S x10 ++ S x11 ++ S x12 ++ S x13 ++ S (List.replicate 12 0) =
    S (x0 ++ (x1 ++ (x2 ++ (x3 ++ (x4 ++ (x5 ++ ([32, 32, 32, 32, 32, 32, 32, 32] ++ (k ++ (x7 ++ ([117, 115, 116, 97, 114, 0, 48, 48] ++ (x9 ++ (x10 ++ (x11 ++ (x12 ++ (x13 ++ List.replicate 12 0))))))))))))))) := by
  simp only [S_append, List.append_assoc]
set_option maxRecDepth 100000 in
set_option maxHeartbeats 16000000 in
theorem rBuild_any (h : HeadL) (w : World) (hf : fitsN h = 0) :
    Calls Tryd.prog 24 #[HV h] w fun e w' => e = .returned (.string (S (buildN h))) ∧ Below w.heap.size w w' := by
  have HB : Hid (buildN h = sealL (rawN h [32, 32, 32, 32, 32, 32, 32, 32])) := Lib.hid rfl
  have hRL := (raw_fields h [32, 32, 32, 32, 32, 32, 32, 32] rfl hf).len
  obtain ⟨⟨z1, z2, z3, z4⟩, ⟨ho, hl, hu, hg⟩, n1, n2, n3, n4, n5, n6, n7⟩ := (fits_iff h).1 hf
  obtain ⟨hp, hb, _⟩ := part_lens h ho
  have hnl := name_len h ho
  obtain ⟨zp, zb⟩ := part_nul h ho z1
  obtain ⟨w1, hw1⟩ : ∃ w1, w1 = w.alloc (.cells (HC h).toArray 68) := ⟨_, rfl⟩
  have HH1 : Hid (HAt w1 w.heap.size h) := Lib.hid (by rw [hw1]; exact AtB.new w _ (HC h))
  have HX1 : Hid (Below w.heap.size w w1) := Lib.hid (by rw [hw1]; exact (Below.refl _ _).alloc (Nat.le_refl _) _)
  have HW := Lib.hid hw1
  have HPT := Lib.hid (fun w => rpart_any (S h.name) w (by rw [S_size]; exact hnl))
  rw [partV_H] at HPT
  rw [HV_eq]
  have F0 := Lib.hid (fun w => rField_any (partB h) 100 w hb (by decide) zb)
  have F1 := Lib.hid (fun w => rField_any h.link 100 w hl (by decide) z2)
  have F2 := Lib.hid (fun w => rField_any h.uname 32 w hu (by decide) z3)
  have F3 := Lib.hid (fun w => rField_any h.gname 32 w hg (by decide) z4)
  have F4 := Lib.hid (fun w => rField_any (partP h) 155 w hp (by decide) zp)
  have F5 := Lib.hid (fun w => rField_any [] 12 w (by decide) (by decide) rfl)
  have O0 := Lib.hid (fun w => oct8 h.mode n1.1 n1.2 w)
  have O1 := Lib.hid (fun w => oct8 h.uid n2.1 n2.2 w)
  have O2 := Lib.hid (fun w => oct8 h.gid n3.1 n3.2 w)
  have O5 := Lib.hid (fun w => oct8 h.major n4.1 n4.2 w)
  have O6 := Lib.hid (fun w => oct8 h.minor n5.1 n5.2 w)
  have O3 := Lib.hid (fun w => oct12 h.size n6.1 n6.2 w)
  have O4 := Lib.hid (fun w => oct12 h.time n7.1 n7.2 w)
  have lx0 : (padL (partB h) 100).length ≤ 512 := by rw [pad_len _ _ hb]; decide
  have lx1 : (num8 h.mode).length ≤ 512 := by rw [num8_len]; decide
  have lx2 : (num8 h.uid).length ≤ 512 := by rw [num8_len]; decide
  have lx3 : (num8 h.gid).length ≤ 512 := by rw [num8_len]; decide
  have lx4 : (num12 h.size).length ≤ 512 := by rw [num12_len]; decide
  have lx5 : (num12 h.time).length ≤ 512 := by rw [num12_len]; decide
  have lx7 : (padL h.link 100).length ≤ 512 := by rw [pad_len _ _ hl]; decide
  have lx9 : (padL h.uname 32).length ≤ 512 := by rw [pad_len _ _ hu]; decide
  have lx10 : (padL h.gname 32).length ≤ 512 := by rw [pad_len _ _ hg]; decide
  have lx11 : (num8 h.major).length ≤ 512 := by rw [num8_len]; decide
  have lx12 : (num8 h.minor).length ≤ 512 := by rw [num8_len]; decide
  have lx13 : (padL (partP h) 155).length ≤ 512 := by rw [pad_len _ _ hp]; decide
  have lx14 : (padL [] 12).length ≤ 512 := by decide
  have HRAW : Hid (rawN h [32, 32, 32, 32, 32, 32, 32, 32] = padL (partB h) 100 ++ (num8 h.mode ++ (num8 h.uid ++ (num8 h.gid ++ (num12 h.size ++ (num12 h.time ++ ([32, 32, 32, 32, 32, 32, 32, 32] ++ ([kindN h.kind] ++ (padL h.link 100 ++ ([117, 115, 116, 97, 114, 0, 48, 48] ++ (padL h.uname 32 ++ (padL h.gname 32 ++ (num8 h.major ++ (num8 h.minor ++ (padL (partP h) 155 ++ List.replicate 12 0))))))))))))))) := Lib.hid rfl
  have HE14 : Hid (padL [] 12 = List.replicate 12 0) := Lib.hid rfl
  have HS := Lib.hid (fun w => rSeal_any (rawN h [32, 32, 32, 32, 32, 32, 32, 32]) w hRL)
  generalize rawN h [32, 32, 32, 32, 32, 32, 32, 32] = RAW at *
  clear hRL z1 z2 z3 z4 ho hl hu hg n1 n2 n3 n4 n5 n6 n7 hp hb hnl zp zb hw1 hf
  generalize padL (partB h) 100 = x0 at *
  generalize num8 h.mode = x1 at *
  generalize num8 h.uid = x2 at *
  generalize num8 h.gid = x3 at *
  generalize num12 h.size = x4 at *
  generalize num12 h.time = x5 at *
  generalize padL h.link 100 = x7 at *
  generalize padL h.uname 32 = x9 at *
  generalize padL h.gname 32 = x10 at *
  generalize num8 h.major = x11 at *
  generalize num8 h.minor = x12 at *
  generalize padL (partP h) 155 = x13 at *
  generalize padL [] 12 = x14 at *
  generalize partB h = q at *
  generalize partP h = p at *
  generalize partO h = ok at *
  have c0 : w1.cell? ⟨w.heap.size, 0, none⟩ = some (.string (S h.name)) := by rw [HH1.out.cell 0]; rfl
  go_enter Tryd.func24, Tryd.ntmps24
  go_upto_region 1 with fail
  rw [← HW.out]
  clear HW
  go_wp2_with fail
  refine (HPT.out _).mono ?_
  rintro e w3 ⟨rfl, hb3⟩
  have HX3 := Lib.hid (HX1.out.trans (hb3.mono HX1.out.size))
  have HH3 := Lib.hid (HH1.out.under hb3 HH1.out.lt)
  clear HX1 HH1 hb3 c0 HPT
  obtain ⟨c, hc⟩ : ∃ c, h.kind = c := ⟨_, rfl⟩
  rw [hc] at HRAW
  have hsl : (convert 46 9 (.slice (some ⟨w3.heap.size, 0, none⟩) 1 1)).run Tryd.prog (w3.alloc (.cells #[.int .u8 c.toNat] 5)) = .ok (.string (S [c])) (w3.alloc (.cells #[.int .u8 c.toNat] 5)) := str_lit w3 #[bv c] 1 [c] rfl rfl (by decide)
  have c2 : w3.cell? ⟨w.heap.size, 2, none⟩ = some (.int .u8 c.toNat) := by rw [HH3.out.cell 2, ← hc]; rfl
  have hlt3 : w.heap.size < w3.heap.size := HH3.out.lt
  have HX4 : Hid (Below w.heap.size w (w3.alloc (.cells #[.int .u8 c.toNat] 5))) := Lib.hid (HX3.out.alloc HX3.out.size _)
  have HH4 : Hid (HAt (w3.alloc (.cells #[.int .u8 c.toNat] 5)) w.heap.size h) := Lib.hid (AtB.alloc HH3.out _)
  clear HX3 HH3 hc
  by_cases hc0 : c = 0
  · have hcb : ((c.toNat : Int) == 0) = true := by rw [hc0]; rfl
    have hkk : kindN c = 48 := by rw [hc0]; rfl
    clear hc0
    have HC : Hid (S x0 ++ S x1 ++ S x2 ++ S x3 ++ S x4 ++ S x5 ++ ⟨#[32, 32, 32, 32, 32, 32, 32, 32]⟩ ++ ⟨#[48]⟩ ++ S x7 ++ ⟨#[117, 115, 116, 97, 114, 0, 48, 48]⟩ ++ S x9 ++ S x10 ++ S x11 ++ S x12 ++ S x13 ++ S x14 = S RAW) := Lib.hid (by
      rw [HRAW.out, HE14.out, hkk]; exact raw_cat x0 x1 x2 x3 x4 x5 _ x7 x9 x10 x11 x12 x13)
    clear HRAW HE14
    go_upto_region 5 with fail
    generalize w3.alloc (.cells #[.int .u8 c.toNat] 5) = w4 at *
    have d1 : w4.cell? ⟨w.heap.size, 1, none⟩ = some (.string (S h.link)) := by rw [HH4.out.cell 1]; rfl
    have d8 : w4.cell? ⟨w.heap.size, 8, none⟩ = some (.string (S h.uname)) := by rw [HH4.out.cell 8]; rfl
    have d9 : w4.cell? ⟨w.heap.size, 9, none⟩ = some (.string (S h.gname)) := by rw [HH4.out.cell 9]; rfl
    have d3 : w4.cell? ⟨w.heap.size, 3, none⟩ = some (.int .i64 h.mode) := by rw [HH4.out.cell 3]; rfl
    have d4 : w4.cell? ⟨w.heap.size, 4, none⟩ = some (.int .i64 h.uid) := by rw [HH4.out.cell 4]; rfl
    have d5 : w4.cell? ⟨w.heap.size, 5, none⟩ = some (.int .i64 h.gid) := by rw [HH4.out.cell 5]; rfl
    have d6 : w4.cell? ⟨w.heap.size, 6, none⟩ = some (.int .i64 h.size) := by rw [HH4.out.cell 6]; rfl
    have d7 : w4.cell? ⟨w.heap.size, 7, none⟩ = some (.int .i64 h.time) := by rw [HH4.out.cell 7]; rfl
    have d10 : w4.cell? ⟨w.heap.size, 10, none⟩ = some (.int .i64 h.major) := by rw [HH4.out.cell 10]; rfl
    have d11 : w4.cell? ⟨w.heap.size, 11, none⟩ = some (.int .i64 h.minor) := by rw [HH4.out.cell 11]; rfl
    clear c2 hsl hlt3
    go_quiet (first | (go_at_call_of 52 (S q); exact qsame (F0.out _)) | (go_at_call_of 52 (S h.link); exact qsame (F1.out _)) | (go_at_call_of 52 (S h.uname); exact qsame (F2.out _)) | (go_at_call_of 52 (S h.gname); exact qsame (F3.out _)) | (go_at_call_of 52 (S p); exact qsame (F4.out _)) | (go_at_call_of 53 h.mode; exact qsame (O0.out _)) | (go_at_call_of 53 h.uid; exact qsame (O1.out _)) | (go_at_call_of 53 h.gid; exact qsame (O2.out _)) | (go_at_call_of 53 h.size; exact qsame (O3.out _)) | (go_at_call_of 53 h.time; exact qsame (O4.out _)) | (go_at_call_of 53 h.major; exact qsame (O5.out _)) | (go_at_call_of 53 h.minor; exact qsame (O6.out _)) | (go_at_call 52; exact qsame (F5.out _)))
    go_wp2_with fail
    rw [HC.out]
    refine (HS.out _).mono ?_
    rintro e w5 ⟨rfl, hb5⟩
    go_wp2_with fail
    go_ret
    have HX5 := belowDrewN (n := nq) HX4.out
    exact ⟨by rw [HB.out]; rfl, HX5.trans (hb5.mono HX5.size)⟩
  · have hcb : ((c.toNat : Int) == 0) = false := byte_beq' c 0 0 rfl hc0
    have hkk : kindN c = c := by unfold kindN; rw [if_neg hc0]
    clear hc0
    have HC : Hid (S x0 ++ S x1 ++ S x2 ++ S x3 ++ S x4 ++ S x5 ++ ⟨#[32, 32, 32, 32, 32, 32, 32, 32]⟩ ++ S [c] ++ S x7 ++ ⟨#[117, 115, 116, 97, 114, 0, 48, 48]⟩ ++ S x9 ++ S x10 ++ S x11 ++ S x12 ++ S x13 ++ S x14 = S RAW) := Lib.hid (by
      rw [HRAW.out, HE14.out, hkk]; exact raw_cat x0 x1 x2 x3 x4 x5 _ x7 x9 x10 x11 x12 x13)
    clear HRAW HE14
    go_upto_region 5 with fail
    generalize w3.alloc (.cells #[.int .u8 c.toNat] 5) = w4 at *
    have d1 : w4.cell? ⟨w.heap.size, 1, none⟩ = some (.string (S h.link)) := by rw [HH4.out.cell 1]; rfl
    have d8 : w4.cell? ⟨w.heap.size, 8, none⟩ = some (.string (S h.uname)) := by rw [HH4.out.cell 8]; rfl
    have d9 : w4.cell? ⟨w.heap.size, 9, none⟩ = some (.string (S h.gname)) := by rw [HH4.out.cell 9]; rfl
    have d3 : w4.cell? ⟨w.heap.size, 3, none⟩ = some (.int .i64 h.mode) := by rw [HH4.out.cell 3]; rfl
    have d4 : w4.cell? ⟨w.heap.size, 4, none⟩ = some (.int .i64 h.uid) := by rw [HH4.out.cell 4]; rfl
    have d5 : w4.cell? ⟨w.heap.size, 5, none⟩ = some (.int .i64 h.gid) := by rw [HH4.out.cell 5]; rfl
    have d6 : w4.cell? ⟨w.heap.size, 6, none⟩ = some (.int .i64 h.size) := by rw [HH4.out.cell 6]; rfl
    have d7 : w4.cell? ⟨w.heap.size, 7, none⟩ = some (.int .i64 h.time) := by rw [HH4.out.cell 7]; rfl
    have d10 : w4.cell? ⟨w.heap.size, 10, none⟩ = some (.int .i64 h.major) := by rw [HH4.out.cell 10]; rfl
    have d11 : w4.cell? ⟨w.heap.size, 11, none⟩ = some (.int .i64 h.minor) := by rw [HH4.out.cell 11]; rfl
    clear c2 hsl hlt3
    go_quiet (first | (go_at_call_of 52 (S q); exact qsame (F0.out _)) | (go_at_call_of 52 (S h.link); exact qsame (F1.out _)) | (go_at_call_of 52 (S h.uname); exact qsame (F2.out _)) | (go_at_call_of 52 (S h.gname); exact qsame (F3.out _)) | (go_at_call_of 52 (S p); exact qsame (F4.out _)) | (go_at_call_of 53 h.mode; exact qsame (O0.out _)) | (go_at_call_of 53 h.uid; exact qsame (O1.out _)) | (go_at_call_of 53 h.gid; exact qsame (O2.out _)) | (go_at_call_of 53 h.size; exact qsame (O3.out _)) | (go_at_call_of 53 h.time; exact qsame (O4.out _)) | (go_at_call_of 53 h.major; exact qsame (O5.out _)) | (go_at_call_of 53 h.minor; exact qsame (O6.out _)) | (go_at_call 52; exact qsame (F5.out _)))
    go_wp2_with fail
    rw [HC.out]
    refine (HS.out _).mono ?_
    rintro e w5 ⟨rfl, hb5⟩
    go_wp2_with fail
    go_ret
    have HX5 := belowDrewN (n := nq) HX4.out
    exact ⟨by rw [HB.out]; rfl, HX5.trans (hb5.mono HX5.size)⟩
end Go.Proofs.YtjldphpdfckjnaaDoor
