/- Heads of members: the document's Fits, walked. -/
import Derived.Test.YtidnckcgclfaoaaHdT2
import Derived.BigQuiet
namespace Go.Proofs.Ytidnckcgclfaoaa
open Go.RowKit

theorem fits_nul (h : HeadL) (g : ¬ (noNul h.name = true ∧ noNul h.link = true ∧ noNul h.uname = true ∧ noNul h.gname = true)) : fitsN h = 2 := if_pos g
theorem fits_long (h : HeadL) (g : noNul h.name = true ∧ noNul h.link = true ∧ noNul h.uname = true ∧ noNul h.gname = true) (g2 : ¬ (partO h = true ∧ h.link.length ≤ 100 ∧ h.uname.length ≤ 32 ∧ h.gname.length ≤ 32)) : fitsN h = 12 := by
  unfold fitsN
  rw [if_neg (not_not_intro g), if_pos g2]
theorem fits_range (h : HeadL) (g : noNul h.name = true ∧ noNul h.link = true ∧ noNul h.uname = true ∧ noNul h.gname = true) (g2 : partO h = true ∧ h.link.length ≤ 100 ∧ h.uname.length ≤ 32 ∧ h.gname.length ≤ 32)
    (g3 : ¬ (inB h.mode 2097152 = true ∧ inB h.uid 2097152 = true ∧ inB h.gid 2097152 = true ∧ inB h.major 2097152 = true ∧ inB h.minor 2097152 = true ∧ inB h.size 8589934592 = true ∧ inB h.time 8589934592 = true)) : fitsN h = 6 := by
  unfold fitsN
  rw [if_neg (not_not_intro g), if_neg (not_not_intro g2), if_pos]
  intro q
  apply g3
  exact ⟨decide_eq_true q.1, decide_eq_true q.2.1, decide_eq_true q.2.2.1, decide_eq_true q.2.2.2.1, decide_eq_true q.2.2.2.2.1, decide_eq_true q.2.2.2.2.2.1, decide_eq_true q.2.2.2.2.2.2⟩
theorem fits_ok (h : HeadL) (g : noNul h.name = true ∧ noNul h.link = true ∧ noNul h.uname = true ∧ noNul h.gname = true) (g2 : partO h = true ∧ h.link.length ≤ 100 ∧ h.uname.length ≤ 32 ∧ h.gname.length ≤ 32)
    (g3 : inB h.mode 2097152 = true ∧ inB h.uid 2097152 = true ∧ inB h.gid 2097152 = true ∧ inB h.major 2097152 = true ∧ inB h.minor 2097152 = true ∧ inB h.size 8589934592 = true ∧ inB h.time 8589934592 = true) : fitsN h = 0 :=
  (fits_iff h).2 ⟨g, g2, of_decide_eq_true g3.1, of_decide_eq_true g3.2.1, of_decide_eq_true g3.2.2.1, of_decide_eq_true g3.2.2.2.1, of_decide_eq_true g3.2.2.2.2.1, of_decide_eq_true g3.2.2.2.2.2.1, of_decide_eq_true g3.2.2.2.2.2.2⟩
set_option maxRecDepth 100000 in
set_option maxHeartbeats 16000000 in
theorem rFits_any (h : HeadL) (w : World) (hs : shortH h 140737488355328) :
    Calls Try.prog 9 #[HV h] w fun e w' => e = .returned (.int .i64 (fitsN h)) ∧ Below w.heap.size w w' := by
  obtain ⟨l1, l2, l3, l4⟩ := hs
  obtain ⟨w1, hw1⟩ : ∃ w1, w1 = w.alloc (.cells (HC h).toArray 23) := ⟨_, rfl⟩
  have HH1 : Hid (HAt w1 w.heap.size h) := Lib.hid (by rw [hw1]; exact AtB.new w _ (HC h))
  have HX1 : Hid (Below w.heap.size w w1) := Lib.hid (by rw [hw1]; exact (Below.refl _ _).alloc (Nat.le_refl _) _)
  have HW := Lib.hid hw1
  have HPT := Lib.hid (fun w => rpart_big (S h.name) w (by rw [S_size]; exact l1))
  rw [partV_H] at HPT
  rw [HV_eq]
  have HR0 := Lib.hid (fun w => rRead2_any h.name w (by omega))
  have HR1 := Lib.hid (fun w => rRead2_any h.link w (by omega))
  have HR2 := Lib.hid (fun w => rRead2_any h.uname w (by omega))
  have HR3 := Lib.hid (fun w => rRead2_any h.gname w (by omega))
  have c0 : w1.cell? ⟨w.heap.size, 0, none⟩ = some (.string (S h.name)) := by rw [HH1.out.cell 0]; rfl
  have c1 : w1.cell? ⟨w.heap.size, 1, none⟩ = some (.string (S h.link)) := by rw [HH1.out.cell 1]; rfl
  have c8 : w1.cell? ⟨w.heap.size, 8, none⟩ = some (.string (S h.uname)) := by rw [HH1.out.cell 8]; rfl
  have c9 : w1.cell? ⟨w.heap.size, 9, none⟩ = some (.string (S h.gname)) := by rw [HH1.out.cell 9]; rfl
  clear hw1
  go_enter Try.func9, Try.ntmps9
  go_upto_region 1 with fail
  rw [← HW.out]
  clear HW
  have e0 := readT_self h.name
  have e1 := readT_self h.link
  have e2 := readT_self h.uname
  have e3 := readT_self h.gname
  generalize readT h.name = t0 at *
  generalize readT h.link = t1 at *
  generalize readT h.uname = t2 at *
  generalize readT h.gname = t3 at *
  by_cases n0 : noNul h.name = true
  rotate_left
  · have HF : Hid (fitsN h = 2) := Lib.hid (fits_nul h (fun g => n0 g.1))
    rw [Bool.not_eq_true] at n0
    have q0 : (t0 == h.name) = false := by rw [e0, n0]
    clear e0 e1 e2 e3 n0
    go_quiet (first | (go_at_call_of 24 (S h.name); exact qsame (HR0.out _)) | (go_at_call_of 24 (S h.link); exact qsame (HR1.out _)) | (go_at_call_of 24 (S h.uname); exact qsame (HR2.out _)) | (go_at_call_of 24 (S h.gname); exact qsame (HR3.out _)))
    go_wp2_with fail
    go_ret
    exact ⟨by rw [HF.out]; rfl, belowDrewN HX1.out⟩
  by_cases n1 : noNul h.link = true
  rotate_left
  · have HF : Hid (fitsN h = 2) := Lib.hid (fits_nul h (fun g => n1 g.2.1))
    rw [Bool.not_eq_true] at n1
    have q0 : (t0 == h.name) = true := by rw [e0, n0]
    have q1 : (t1 == h.link) = false := by rw [e1, n1]
    clear e0 e1 e2 e3 n0 n1
    go_quiet (first | (go_at_call_of 24 (S h.name); exact qsame (HR0.out _)) | (go_at_call_of 24 (S h.link); exact qsame (HR1.out _)) | (go_at_call_of 24 (S h.uname); exact qsame (HR2.out _)) | (go_at_call_of 24 (S h.gname); exact qsame (HR3.out _)))
    go_wp2_with fail
    go_ret
    exact ⟨by rw [HF.out]; rfl, belowDrewN HX1.out⟩
  by_cases n2 : noNul h.uname = true
  rotate_left
  · have HF : Hid (fitsN h = 2) := Lib.hid (fits_nul h (fun g => n2 g.2.2.1))
    rw [Bool.not_eq_true] at n2
    have q0 : (t0 == h.name) = true := by rw [e0, n0]
    have q1 : (t1 == h.link) = true := by rw [e1, n1]
    have q2 : (t2 == h.uname) = false := by rw [e2, n2]
    clear e0 e1 e2 e3 n0 n1 n2
    go_quiet (first | (go_at_call_of 24 (S h.name); exact qsame (HR0.out _)) | (go_at_call_of 24 (S h.link); exact qsame (HR1.out _)) | (go_at_call_of 24 (S h.uname); exact qsame (HR2.out _)) | (go_at_call_of 24 (S h.gname); exact qsame (HR3.out _)))
    go_wp2_with fail
    go_ret
    exact ⟨by rw [HF.out]; rfl, belowDrewN HX1.out⟩
  by_cases n3 : noNul h.gname = true
  rotate_left
  · have HF : Hid (fitsN h = 2) := Lib.hid (fits_nul h (fun g => n3 g.2.2.2))
    rw [Bool.not_eq_true] at n3
    have q0 : (t0 == h.name) = true := by rw [e0, n0]
    have q1 : (t1 == h.link) = true := by rw [e1, n1]
    have q2 : (t2 == h.uname) = true := by rw [e2, n2]
    have q3 : (t3 == h.gname) = false := by rw [e3, n3]
    clear e0 e1 e2 e3 n0 n1 n2 n3
    go_quiet (first | (go_at_call_of 24 (S h.name); exact qsame (HR0.out _)) | (go_at_call_of 24 (S h.link); exact qsame (HR1.out _)) | (go_at_call_of 24 (S h.uname); exact qsame (HR2.out _)) | (go_at_call_of 24 (S h.gname); exact qsame (HR3.out _)))
    go_wp2_with fail
    go_ret
    exact ⟨by rw [HF.out]; rfl, belowDrewN HX1.out⟩
  have q0 : (t0 == h.name) = true := by rw [e0, n0]
  have q1 : (t1 == h.link) = true := by rw [e1, n1]
  have q2 : (t2 == h.uname) = true := by rw [e2, n2]
  have q3 : (t3 == h.gname) = true := by rw [e3, n3]
  have HN := Lib.hid (show noNul h.name = true ∧ noNul h.link = true ∧ noNul h.uname = true ∧ noNul h.gname = true from ⟨n0, n1, n2, n3⟩)
  clear e0 e1 e2 e3 n0 n1 n2 n3
  go_quiet (first | (go_at_call_of 24 (S h.name); exact qsame (HR0.out _)) | (go_at_call_of 24 (S h.link); exact qsame (HR1.out _)) | (go_at_call_of 24 (S h.uname); exact qsame (HR2.out _)) | (go_at_call_of 24 (S h.gname); exact qsame (HR3.out _)))
  clear q0 q1 q2 q3 HR0 HR1 HR2 HR3
  have HX2 : Hid (Below w.heap.size w (w1.drewN nq)) := Lib.hid (belowDrewN HX1.out)
  have HH2 : Hid (HAt (w1.drewN nq) w.heap.size h) := Lib.hid HH1.out
  clear HX1 HH1
  generalize w1.drewN nq = w2 at *
  clear c0 c1 c8 c9
  have c0 : w2.cell? ⟨w.heap.size, 0, none⟩ = some (.string (S h.name)) := by rw [HH2.out.cell 0]; rfl
  go_wp2_with fail
  refine (HPT.out _).mono ?_
  rintro e w3 ⟨rfl, hb3⟩
  have HX3 := Lib.hid (HX2.out.trans (hb3.mono HX2.out.size))
  have HH3 := Lib.hid (HH2.out.under hb3 HH2.out.lt)
  clear HX2 HH2 hb3 c0 HPT
  have c1 : w3.cell? ⟨w.heap.size, 1, none⟩ = some (.string (S h.link)) := by rw [HH3.out.cell 1]; rfl
  have c8 : w3.cell? ⟨w.heap.size, 8, none⟩ = some (.string (S h.uname)) := by rw [HH3.out.cell 8]; rfl
  have c9 : w3.cell? ⟨w.heap.size, 9, none⟩ = some (.string (S h.gname)) := by rw [HH3.out.cell 9]; rfl
  have d3 : w3.cell? ⟨w.heap.size, 3, none⟩ = some (.int .i64 h.mode) := by rw [HH3.out.cell 3]; rfl
  have d4 : w3.cell? ⟨w.heap.size, 4, none⟩ = some (.int .i64 h.uid) := by rw [HH3.out.cell 4]; rfl
  have d5 : w3.cell? ⟨w.heap.size, 5, none⟩ = some (.int .i64 h.gid) := by rw [HH3.out.cell 5]; rfl
  have d10 : w3.cell? ⟨w.heap.size, 10, none⟩ = some (.int .i64 h.major) := by rw [HH3.out.cell 10]; rfl
  have d11 : w3.cell? ⟨w.heap.size, 11, none⟩ = some (.int .i64 h.minor) := by rw [HH3.out.cell 11]; rfl
  have d6 : w3.cell? ⟨w.heap.size, 6, none⟩ = some (.int .i64 h.size) := by rw [HH3.out.cell 6]; rfl
  have d7 : w3.cell? ⟨w.heap.size, 7, none⟩ = some (.int .i64 h.time) := by rw [HH3.out.cell 7]; rfl
  have hpo : ∀ b, partO h = b → Hid (partO h = b) := fun b e => Lib.hid e
  by_cases po : partO h = true
  rotate_left
  · have HF : Hid (fitsN h = 12) := Lib.hid (fits_long h HN.out (fun g => po g.1))
    rw [Bool.not_eq_true] at po
    rw [po]
    clear hpo po
    go_wp2_with fail
    go_ret
    exact ⟨by rw [HF.out]; rfl, HX3.out⟩
  by_cases pl : h.link.length ≤ 100
  rotate_left
  · have HF : Hid (fitsN h = 12) := Lib.hid (fits_long h HN.out (fun g => pl g.2.1))
    rw [po]
    have plI : (h.link.length : Int) > 100 := by omega
    clear hpo po pl
    go_wp2_with fail
    go_ret
    exact ⟨by rw [HF.out]; rfl, HX3.out⟩
  by_cases pu : h.uname.length ≤ 32
  rotate_left
  · have HF : Hid (fitsN h = 12) := Lib.hid (fits_long h HN.out (fun g => pu g.2.2.1))
    rw [po]
    have plI : ¬ (h.link.length : Int) > 100 := by omega
    have puI : (h.uname.length : Int) > 32 := by omega
    clear hpo po pl pu
    go_wp2_with fail
    go_ret
    exact ⟨by rw [HF.out]; rfl, HX3.out⟩
  by_cases pg : h.gname.length ≤ 32
  rotate_left
  · have HF : Hid (fitsN h = 12) := Lib.hid (fits_long h HN.out (fun g => pg g.2.2.2))
    rw [po]
    have plI : ¬ (h.link.length : Int) > 100 := by omega
    have puI : ¬ (h.uname.length : Int) > 32 := by omega
    have pgI : (h.gname.length : Int) > 32 := by omega
    clear hpo po pl pu pg
    go_wp2_with fail
    go_ret
    exact ⟨by rw [HF.out]; rfl, HX3.out⟩
  have HPP := Lib.hid (show partO h = true ∧ h.link.length ≤ 100 ∧ h.uname.length ≤ 32 ∧ h.gname.length ≤ 32 from ⟨po, pl, pu, pg⟩)
  rw [po]
  have plI : ¬ (h.link.length : Int) > 100 := by omega
  have puI : ¬ (h.uname.length : Int) > 32 := by omega
  have pgI : ¬ (h.gname.length : Int) > 32 := by omega
  clear hpo po pl pu pg
  have HW0 := Lib.hid (fun w => within_any h.mode 2097152 w)
  have HW1 := Lib.hid (fun w => within_any h.uid 2097152 w)
  have HW2 := Lib.hid (fun w => within_any h.gid 2097152 w)
  have HW3 := Lib.hid (fun w => within_any h.major 2097152 w)
  have HW4 := Lib.hid (fun w => within_any h.minor 2097152 w)
  have HW5 := Lib.hid (fun w => within_any h.size 8589934592 w)
  have HW6 := Lib.hid (fun w => within_any h.time 8589934592 w)
  generalize hB0 : inB h.mode 2097152 = B0 at *
  generalize hB1 : inB h.uid 2097152 = B1 at *
  generalize hB2 : inB h.gid 2097152 = B2 at *
  generalize hB3 : inB h.major 2097152 = B3 at *
  generalize hB4 : inB h.minor 2097152 = B4 at *
  generalize hB5 : inB h.size 8589934592 = B5 at *
  generalize hB6 : inB h.time 8589934592 = B6 at *
  have HB := Lib.hid (show inB h.mode 2097152 = B0 ∧ inB h.uid 2097152 = B1 ∧ inB h.gid 2097152 = B2 ∧ inB h.major 2097152 = B3 ∧ inB h.minor 2097152 = B4 ∧ inB h.size 8589934592 = B5 ∧ inB h.time 8589934592 = B6 from ⟨hB0, hB1, hB2, hB3, hB4, hB5, hB6⟩)
  clear hB0 hB1 hB2 hB3 hB4 hB5 hB6
  go_wp2_with fail
  refine (HW0.out _).mono ?_
  rintro e w4 ⟨rfl, rfl⟩
  clear HW0
  cases B0 with
  | false =>
    have HF : Hid (fitsN h = 6) := Lib.hid (fits_range h HN.out HPP.out (fun g => by have h1 := HB.out.1; have h2 := g.1; rw [h1] at h2; cases h2))
    go_wp2_with fail
    go_ret
    exact ⟨by rw [HF.out]; rfl, HX3.out⟩
  | true =>
    go_wp2_with fail
    refine (HW1.out _).mono ?_
    rintro e w4 ⟨rfl, rfl⟩
    clear HW1
    cases B1 with
    | false =>
      have HF : Hid (fitsN h = 6) := Lib.hid (fits_range h HN.out HPP.out (fun g => by have h1 := HB.out.2.1; have h2 := g.2.1; rw [h1] at h2; cases h2))
      go_wp2_with fail
      go_ret
      exact ⟨by rw [HF.out]; rfl, HX3.out⟩
    | true =>
      go_wp2_with fail
      refine (HW2.out _).mono ?_
      rintro e w4 ⟨rfl, rfl⟩
      clear HW2
      cases B2 with
      | false =>
        have HF : Hid (fitsN h = 6) := Lib.hid (fits_range h HN.out HPP.out (fun g => by have h1 := HB.out.2.2.1; have h2 := g.2.2.1; rw [h1] at h2; cases h2))
        go_wp2_with fail
        go_ret
        exact ⟨by rw [HF.out]; rfl, HX3.out⟩
      | true =>
        go_wp2_with fail
        refine (HW3.out _).mono ?_
        rintro e w4 ⟨rfl, rfl⟩
        clear HW3
        cases B3 with
        | false =>
          have HF : Hid (fitsN h = 6) := Lib.hid (fits_range h HN.out HPP.out (fun g => by have h1 := HB.out.2.2.2.1; have h2 := g.2.2.2.1; rw [h1] at h2; cases h2))
          go_wp2_with fail
          go_ret
          exact ⟨by rw [HF.out]; rfl, HX3.out⟩
        | true =>
          go_wp2_with fail
          refine (HW4.out _).mono ?_
          rintro e w4 ⟨rfl, rfl⟩
          clear HW4
          cases B4 with
          | false =>
            have HF : Hid (fitsN h = 6) := Lib.hid (fits_range h HN.out HPP.out (fun g => by have h1 := HB.out.2.2.2.2.1; have h2 := g.2.2.2.2.1; rw [h1] at h2; cases h2))
            go_wp2_with fail
            go_ret
            exact ⟨by rw [HF.out]; rfl, HX3.out⟩
          | true =>
            go_wp2_with fail
            refine (HW5.out _).mono ?_
            rintro e w4 ⟨rfl, rfl⟩
            clear HW5
            cases B5 with
            | false =>
              have HF : Hid (fitsN h = 6) := Lib.hid (fits_range h HN.out HPP.out (fun g => by have h1 := HB.out.2.2.2.2.2.1; have h2 := g.2.2.2.2.2.1; rw [h1] at h2; cases h2))
              go_wp2_with fail
              go_ret
              exact ⟨by rw [HF.out]; rfl, HX3.out⟩
            | true =>
              go_wp2_with fail
              refine (HW6.out _).mono ?_
              rintro e w4 ⟨rfl, rfl⟩
              clear HW6
              cases B6 with
              | false =>
                have HF : Hid (fitsN h = 6) := Lib.hid (fits_range h HN.out HPP.out (fun g => by have h1 := HB.out.2.2.2.2.2.2; have h2 := g.2.2.2.2.2.2; rw [h1] at h2; cases h2))
                go_wp2_with fail
                go_ret
                exact ⟨by rw [HF.out]; rfl, HX3.out⟩
              | true =>
                have HF : Hid (fitsN h = 0) := Lib.hid (fits_ok h HN.out HPP.out HB.out)
                go_wp2_with fail
                go_ret
                exact ⟨by rw [HF.out]; rfl, HX3.out⟩
end Go.Proofs.Ytidnckcgclfaoaa
