/- The law RecordFull, walked. -/
import Derived.Test.YtjoalambgckchaaDoorRecM
namespace Go.Proofs.YtjoalambgckchaaDoor
open Go.RowKit Go.Lib

set_option maxRecDepth 100000 in
set_option maxHeartbeats 4000000 in
theorem lawFull06 (n over : UInt8) (w : World) (hT : TB w.heap.size w) :
    Calls Tryd.prog 6 #[.int .u8 n.toNat, .int .u8 over.toNat] w fun e w' => e = .returned (.bool true) ∧ Below w.heap.size w w' := by
  obtain ⟨k, hk⟩ : ∃ k : Nat, (252 : Int) + (n.toNat : Int) % 8 = k := ⟨252 + n.toNat % 8, by push_cast; rfl⟩
  have hk1 : 252 ≤ k := by omega
  have hk2 : k ≤ 259 := by omega
  obtain ⟨o, ho⟩ : ∃ o : Nat, (over.toNat : Int) % 4 = o := ⟨over.toNat % 4, by push_cast; rfl⟩
  have ho2 : o ≤ 3 := by omega
  obtain ⟨m, hm⟩ : ∃ m : Nat, (65527 : Int) + (o : Int) = m := ⟨65527 + o, by omega⟩
  have hml : m = 65527 + o := by omega
  have M1 := fun w => mk_pairs k (by omega) w
  have M3 := fun w => mk_bytes m m (by omega) (by omega) w
  have X3 := fun w => conv_zeros m (by omega) w
  have hnb : (n.toNat : Int) < 256 := by have := n.toNat_lt; omega
  have hob : (over.toNat : Int) < 256 := by have := over.toNat_lt; omega
  have R1 := rep_print k (by omega)
  have R2 := rep_parse k (by omega)
  have hrl := rep_len k
  have P1 := fun W hT hv => Print06_any (List.replicate k ([107], [])) (.slice (some ⟨w.heap.size, 0, none⟩) k k) (fun p hp => by rw [List.eq_of_mem_replicate hp]; decide) (by rw [List.length_replicate]; omega) W hT hv
  have P2 := fun W => Parse06_any (recsL (List.replicate k ([107], []))) (by omega) W
  rw [R1] at P1
  rw [R2] at P2
  have Q1 := Lib.hid P1
  have Q2 := Lib.hid P2
  have HRL := Lib.hid hrl
  have B1 := big_print o ho2
  have B2 := big_rec o ho2
  rw [← hml] at B1 B2
  have hzl : (List.replicate m (0 : UInt8)).length = m := List.length_replicate
  have P3 := fun W u hT hv => Print06_any [([107], List.replicate m 0)] u (fun p hp => by rw [List.mem_singleton.1 hp]; show [107].length + (List.replicate m (0 : UInt8)).length ≤ _; rw [hzl]; simp; omega) (by simp) W hT hv
  rw [B1] at P3
  have hbr : bareP ([107], List.replicate m 0) = m + 4 := by unfold bareP; rw [hzl]; simp; omega
  have HRLn := rec_len ([107], List.replicate m 0) (by rw [hbr]; omega)
  rw [B2] at HRLn
  have P4 := fun W => Parse06_any (recL ([107], List.replicate m 0)) (by omega) W
  have HPP := fun h0 : ¬ 0 < o => print_parse [([107], List.replicate m 0)] (fun p hp => by rw [List.mem_singleton.1 hp, hbr]; omega) (by rw [B1, if_neg h0])
  rw [B1] at HPP
  have Q3 := Lib.hid P3
  have Q4 := Lib.hid P4
  have H5 := Lib.hid HPP
  have HLn := Lib.hid HRLn
  have HML := Lib.hid hml
  clear P1 P2 P3 P4 HPP R1 R2 hrl B1 B2 HRLn hbr hzl hml
  generalize List.replicate m (0 : UInt8) = zs at *
  go_enter Tryd.func6, Tryd.ntmps6
  go_wp2_with fail
  have hF0 := FullAt.new w k
  have hB0 := (Below.refl w.heap.size w).alloc (Nat.le_refl _) (.cells (nilsP k) 25)
  go_loopw [7, 26] (fun s i wr => ∃ j : Nat, j ≤ k ∧ i = .int .i64 j ∧ s = .string (S (recsL (List.replicate j ([107], [])))) ∧ FullAt wr w.heap.size k j ∧ Below w.heap.size w wr) (fun _ i _ => k - (RowKit.intOf i).toNat)
  case atStart => exact ⟨0, by omega, rfl, rfl, hF0, hB0⟩
  case round =>
    obtain ⟨j, hj, rfl, rfl, hF, hB⟩ := hrel
    by_cases hlt : j < k
    · obtain ⟨⟨x, hc0⟩, ⟨y, hc1⟩, hf0, hf1⟩ := hF.facts j hlt
      have hF1 := hF.set hlt
      have hcat : S (recsL (List.replicate j ([107], []))) ++ (⟨#[53, 32, 107, 61, 10]⟩ : ByteArray) = S (recsL (List.replicate (j + 1) ([107], []))) := by rw [recs_rep, ← S_append]; rfl
      have hlj := rep_len j
      have HF1 := Lib.hid hF1
      have hBs := Lib.hid ((hB.setCell (p := ⟨w.heap.size, j * 2, none⟩) (Nat.le_refl _) (.string (S [107]))).setCell (p := ⟨w.heap.size, j * 2 + 1, none⟩) (Nat.le_refl _) (.string (S [])))
      clear hF hF0 hF1
      generalize hg1 : recsL (List.replicate (j + 1) ([107], [])) = r1 at *
      have HG1 := Lib.hid hg1
      clear hg1
      go_wp2_with fail
      go_roundw
      case rel => exact ⟨j + 1, by omega, by go_num, by rw [HG1.out], HF1.out, hBs.out⟩
      case measure => simp [RowKit.intOf]; omega
    · have : j = k := by omega
      subst this
      have HV := Lib.hid hF.rows
      clear hF hF0
      by_cases h256 : 256 < j
      · skip
        have q1 := Q1.out
        rw [if_pos h256] at q1
        have q2 := Q2.out
        rw [if_pos h256] at q2
        have K1 := Lib.hid q1
        have K2 := Lib.hid q2
        have hrl := HRL.out
        clear q1 q2 Q1 Q2
        generalize recsL (List.replicate j ([107], [])) = all at *
        generalize hLL : List.replicate j (([107], []) : PR) = LL at *
        have HLL := Lib.hid (show LL.length = j by rw [← hLL, List.length_replicate])
        clear hLL
        go_wp2_with fail
        refine (K1.out _ (hT.up hB hB.size) HV.out).mono ?_
        rintro e w2 ⟨rfl, hb2⟩
        have hB2 := chain hB hb2
        go_wp2_with fail
        refine (K2.out _).mono ?_
        rintro e wt ⟨⟨v3, rfl, hO3⟩, hb3⟩
        have hBt := chain hB2 hb3
        obtain ⟨a3, c3, e3⟩ := hO3.shape
        skip
        subst e3
        clear hO3 hb3 hb2 hB2 K1 K2 HV HRL
        go_wp2_with fail
        have hz1 : Below w.heap.size w (wt.alloc (.cells (zerosA m) 5)) := hBt.alloc hBt.size _
        have hP0 := PairAt.new (wt.alloc (.cells (zerosA m) 5)) [107] zs
        have hz2 : Below w.heap.size w ((wt.alloc (.cells (zerosA m) 5)).alloc (.cells #[.string (S [107]), .string (S zs)] 25)) := hz1.alloc hz1.size _
        have hes : (wt.alloc (.cells (zerosA m) 5)).heap.size = wt.heap.size + 1 := by simp
        rw [hes] at hP0
        have hpl := hP0.lt
        have hVt := pairs_one ((wt.alloc (.cells (zerosA m) 5)).alloc (.cells #[.string (S [107]), .string (S zs)] 25)) [107] zs
        have hes2 : ((wt.alloc (.cells (zerosA m) 5)).alloc (.cells #[.string (S [107]), .string (S zs)] 25)).heap.size = wt.heap.size + 1 + 1 := by simp
        rw [hes2] at hVt
        have hP1 := hP0.below ((Below.refl _ _).alloc (Nat.le_refl _) (.cells #[.string (S [107]), .string (S zs)] 25)) hpl
        have hz3 := hz2.alloc hz2.size (.cells #[.string (S [107]), .string (S zs)] 25)
        clear hP0 hes hes2 hz1 hz2 hpl
        by_cases ho0 : 0 < o
        · have q3 := Q3.out
          rw [if_pos ho0] at q3
          refine (q3 _ _ (hT.up hz3 hz3.size) hVt).mono ?_
          rintro e w7 ⟨rfl, hb7⟩
          have hB7 := chain hz3 hb7
          clear q3 Q3 Q4 H5 HLn hVt
          go_wp2_with fail
          refine (awake06 _ (hT.up hB7 hB7.size)).mono ?_
          rintro e w8 ⟨rfl, hb8⟩
          go_wp2_with fail
          go_ret
          exact ⟨rfl, chain hB7 hb8⟩
        · have q3 := Q3.out
          rw [if_neg ho0] at q3
          have h5 := H5.out ho0
          rw [if_neg ho0] at h5
          have q4 := Q4.out
          have h5 : parseQ (recL ([107], zs)) = ([([107], zs)], 0) := h5
          rw [h5] at q4
          have hln := HLn.out
          have hlb : (((recL ([107], zs)).length : Int) == 65536) = true := by rw [beq_iff_eq]; omega
          have K3 := Lib.hid q3
          have K4 := Lib.hid q4
          clear q3 q4 h5 hln Q3 Q4 H5 HLn
          generalize recL ([107], zs) = t at *
          refine (K3.out _ _ (hT.up hz3 hz3.size) hVt).mono ?_
          rintro e w7 ⟨rfl, hb7⟩
          have hB7 := chain hz3 hb7
          have hP2 := hP1.below hb7 hP1.lt
          clear hVt hP1 hb7 hz3
          go_wp2_with fail
          refine (K4.out _).mono ?_
          rintro e w8 ⟨⟨v8, rfl, hO8⟩, hb8⟩
          have hB8 := chain hB7 hb8
          have hP3 := hP2.below hb8 hP2.lt
          obtain ⟨a8, c8, e8, hr8⟩ := hO8.rows pf_len
          subst e8
          obtain ⟨b8, off8, rfl, hbl8, hcell8⟩ := hr8 (by simp)
          have hx0 : w8.cell? ⟨b8, off8, none⟩ = some (.string (S [107])) := by have := hcell8 0 (by simp) 0 _ rfl; simpa using this
          have hx1 : w8.cell? ⟨b8, off8 + 1, none⟩ = some (.string (S zs)) := by have := hcell8 0 (by simp) 1 _ rfl; simpa using this
          have hy0 := hP3.c0
          have hy1 := hP3.c1
          have hgl := hP3.lt
          have heq : eqP ([107], zs) ([107], zs) = true := (eqP_iff _ _).2 rfl
          have HE := Lib.hid heq
          have HTO := Lib.hid (fun (W : World) (hB : Below w.heap.size w W) => hT.up hB hB.size)
          have hBd : Below w.heap.size w w8.drew := hB8.drew
          clear hcell8 hr8 hO8 hb8 hP2 hT heq
          generalize wt.heap.size + 1 = g8 at *
          go_wp2_with fail
          go_region_held3 (fun W => W.cell? ⟨b8, off8, none⟩ = some (.string (S [107])) ∧ W.cell? ⟨b8, off8 + 1, none⟩ = some (.string (S zs)) ∧ W.cell? ⟨g8, 0, none⟩ = some (.string (S [107])) ∧ W.cell? ⟨g8, 1, none⟩ = some (.string (S zs))) (first | assumption | exact ⟨hx0, hx1, hy0, hy1⟩) (first
            | (go_at_call 7; refine (awake06 _ (HTO.out _ (by assumption))).mono ?_; rintro e w9 ⟨rfl, hb9⟩; have hB9 := chain (w := w) (by assumption) hb9; have hS := And.intro (cell_keep (w := w8.drew) hx0 hbl8 hb9) (And.intro (cell_keep (w := w8.drew) hx1 hbl8 hb9) (And.intro (cell_keep (w := w8.drew) hy0 hgl hb9) (cell_keep (w := w8.drew) hy1 hgl hb9)))))
          all_goals
            first
              | (go_wp2_with fail; go_ret; exact ⟨rfl, by assumption⟩)
              | (exfalso; have := HE.out; simp_all)
      · skip
        have q1 := Q1.out
        rw [if_neg h256] at q1
        have q2 := Q2.out
        rw [if_neg h256] at q2
        have K1 := Lib.hid q1
        have K2 := Lib.hid q2
        have hrl := HRL.out
        clear q1 q2 Q1 Q2
        generalize recsL (List.replicate j ([107], [])) = all at *
        generalize hLL : List.replicate j (([107], []) : PR) = LL at *
        have HLL := Lib.hid (show LL.length = j by rw [← hLL, List.length_replicate])
        clear hLL
        go_wp2_with fail
        refine (K1.out _ (hT.up hB hB.size) HV.out).mono ?_
        rintro e w2 ⟨rfl, hb2⟩
        have hB2 := chain hB hb2
        go_wp2_with fail
        refine (K2.out _).mono ?_
        rintro e wt ⟨⟨v3, rfl, hO3⟩, hb3⟩
        have hBt := chain hB2 hb3
        obtain ⟨a3, c3, e3⟩ := hO3.shape
        rw [HLL.out] at e3
        subst e3
        clear hO3 hb3 hb2 hB2 K1 K2 HV HRL
        go_wp2_with fail
        have hz1 : Below w.heap.size w (wt.alloc (.cells (zerosA m) 5)) := hBt.alloc hBt.size _
        have hP0 := PairAt.new (wt.alloc (.cells (zerosA m) 5)) [107] zs
        have hz2 : Below w.heap.size w ((wt.alloc (.cells (zerosA m) 5)).alloc (.cells #[.string (S [107]), .string (S zs)] 25)) := hz1.alloc hz1.size _
        have hes : (wt.alloc (.cells (zerosA m) 5)).heap.size = wt.heap.size + 1 := by simp
        rw [hes] at hP0
        have hpl := hP0.lt
        have hVt := pairs_one ((wt.alloc (.cells (zerosA m) 5)).alloc (.cells #[.string (S [107]), .string (S zs)] 25)) [107] zs
        have hes2 : ((wt.alloc (.cells (zerosA m) 5)).alloc (.cells #[.string (S [107]), .string (S zs)] 25)).heap.size = wt.heap.size + 1 + 1 := by simp
        rw [hes2] at hVt
        have hP1 := hP0.below ((Below.refl _ _).alloc (Nat.le_refl _) (.cells #[.string (S [107]), .string (S zs)] 25)) hpl
        have hz3 := hz2.alloc hz2.size (.cells #[.string (S [107]), .string (S zs)] 25)
        clear hP0 hes hes2 hz1 hz2 hpl
        by_cases ho0 : 0 < o
        · have q3 := Q3.out
          rw [if_pos ho0] at q3
          refine (q3 _ _ (hT.up hz3 hz3.size) hVt).mono ?_
          rintro e w7 ⟨rfl, hb7⟩
          have hB7 := chain hz3 hb7
          clear q3 Q3 Q4 H5 HLn hVt
          go_wp2_with fail
          refine (awake06 _ (hT.up hB7 hB7.size)).mono ?_
          rintro e w8 ⟨rfl, hb8⟩
          go_wp2_with fail
          go_ret
          exact ⟨rfl, chain hB7 hb8⟩
        · have q3 := Q3.out
          rw [if_neg ho0] at q3
          have h5 := H5.out ho0
          rw [if_neg ho0] at h5
          have q4 := Q4.out
          have h5 : parseQ (recL ([107], zs)) = ([([107], zs)], 0) := h5
          rw [h5] at q4
          have hln := HLn.out
          have hlb : (((recL ([107], zs)).length : Int) == 65536) = true := by rw [beq_iff_eq]; omega
          have K3 := Lib.hid q3
          have K4 := Lib.hid q4
          clear q3 q4 h5 hln Q3 Q4 H5 HLn
          generalize recL ([107], zs) = t at *
          refine (K3.out _ _ (hT.up hz3 hz3.size) hVt).mono ?_
          rintro e w7 ⟨rfl, hb7⟩
          have hB7 := chain hz3 hb7
          have hP2 := hP1.below hb7 hP1.lt
          clear hVt hP1 hb7 hz3
          go_wp2_with fail
          refine (K4.out _).mono ?_
          rintro e w8 ⟨⟨v8, rfl, hO8⟩, hb8⟩
          have hB8 := chain hB7 hb8
          have hP3 := hP2.below hb8 hP2.lt
          obtain ⟨a8, c8, e8, hr8⟩ := hO8.rows pf_len
          subst e8
          obtain ⟨b8, off8, rfl, hbl8, hcell8⟩ := hr8 (by simp)
          have hx0 : w8.cell? ⟨b8, off8, none⟩ = some (.string (S [107])) := by have := hcell8 0 (by simp) 0 _ rfl; simpa using this
          have hx1 : w8.cell? ⟨b8, off8 + 1, none⟩ = some (.string (S zs)) := by have := hcell8 0 (by simp) 1 _ rfl; simpa using this
          have hy0 := hP3.c0
          have hy1 := hP3.c1
          have hgl := hP3.lt
          have heq : eqP ([107], zs) ([107], zs) = true := (eqP_iff _ _).2 rfl
          have HE := Lib.hid heq
          have HTO := Lib.hid (fun (W : World) (hB : Below w.heap.size w W) => hT.up hB hB.size)
          have hBd : Below w.heap.size w w8.drew := hB8.drew
          clear hcell8 hr8 hO8 hb8 hP2 hT heq
          generalize wt.heap.size + 1 = g8 at *
          go_wp2_with fail
          go_region_held3 (fun W => W.cell? ⟨b8, off8, none⟩ = some (.string (S [107])) ∧ W.cell? ⟨b8, off8 + 1, none⟩ = some (.string (S zs)) ∧ W.cell? ⟨g8, 0, none⟩ = some (.string (S [107])) ∧ W.cell? ⟨g8, 1, none⟩ = some (.string (S zs))) (first | assumption | exact ⟨hx0, hx1, hy0, hy1⟩) (first
            | (go_at_call 7; refine (awake06 _ (HTO.out _ (by assumption))).mono ?_; rintro e w9 ⟨rfl, hb9⟩; have hB9 := chain (w := w) (by assumption) hb9; have hS := And.intro (cell_keep (w := w8.drew) hx0 hbl8 hb9) (And.intro (cell_keep (w := w8.drew) hx1 hbl8 hb9) (And.intro (cell_keep (w := w8.drew) hy0 hgl hb9) (cell_keep (w := w8.drew) hy1 hgl hb9)))))
          all_goals
            first
              | (go_wp2_with fail; go_ret; exact ⟨rfl, by assumption⟩)
              | (exfalso; have := HE.out; simp_all)
end Go.Proofs.YtjoalambgckchaaDoor
