/- The law RecordPrints, walked. -/
import Derived.Test.YtjoalambgckchaaDoorRecH
namespace Go.Proofs.YtjoalambgckchaaDoor
open Go.RowKit Go.Lib

theorem chainB0 {w u v : World} (h : Below w.heap.size w u) (k : Below u.heap.size u v) : Below w.heap.size w v := chain h k
set_option maxRecDepth 100000 in
set_option maxHeartbeats 4000000 in
theorem lawPrints (l : List PR) (v : Value) (w : World) (hv : PairsV w v l) (hml : ∀ p ∈ l, p.1.length ≤ 140737488355328 ∧ p.2.length ≤ 140737488355328) (hT : TB w.heap.size w) :
    Calls Tryd.prog 3 #[v] w fun e w' => e = .returned (.bool true) ∧ Below w.heap.size w w' := by
  have hv0 := hv
  obtain ⟨a, c, rfl, hv⟩ := hv
  by_cases hbig : 12 < l.length
  · go_enter Tryd.func3, Tryd.ntmps3
    go_wp2_with fail
    refine (awake06 _ hT).mono ?_
    rintro e w1 ⟨rfl, hb1⟩
    go_wp2_with fail
    go_ret
    exact ⟨rfl, hb1⟩
  · go_enter Tryd.func3, Tryd.ntmps3
    go_wp2_with fail
    go_loopw [17] (fun i wr => ∃ k : Nat, k ≤ l.length ∧ i = .int .i64 k ∧ (∀ j (h : j < l.length), j < k → l[j].1.length + l[j].2.length ≤ 200) ∧ Below w.heap.size w wr) (fun i _ => l.length - (RowKit.intOf i).toNat)
    case atStart => exact ⟨0, by omega, rfl, fun j h g => absurd g (Nat.not_lt_zero _), Below.refl _ _⟩
    case round =>
      obtain ⟨k, hk, rfl, hall, hb⟩ := hrel
      by_cases hlt : k < l.length
      · obtain ⟨b, off, rfl, h1, h2⟩ := hv (by omega)
        have hc0 : wr.cell? ⟨b, off + k * 2, none⟩ = some (.string (S l[k].1)) := by rw [hb.cell (by exact h1)]; exact h2 k hlt 0 _ rfl
        have hc1 : wr.cell? ⟨b, off + k * 2 + 1, none⟩ = some (.string (S l[k].2)) := by rw [hb.cell (by exact h1)]; exact h2 k hlt 1 _ rfl
        have HX := Lib.hid (fun e : l[k].1.length + l[k].2.length ≤ 200 => show ∀ j (h : j < l.length), j < k + 1 → l[j].1.length + l[j].2.length ≤ 200 from fun j g1 g3 => by
          rcases Nat.lt_or_ge j k with x | x
          · exact hall j g1 x
          · have : j = k := by omega
            subst this; exact e)
        clear h2 hall
        have hb1 := hb.alloc (by have := hb.size; omega) (.cells #[.string (S l[k].1), .string (S l[k].2)] 25)
        have hP := PairAt.new wr l[k].1 l[k].2
        obtain ⟨sz, hszv⟩ : ∃ sz, l[k].1.length + l[k].2.length = sz := ⟨_, rfl⟩
        have HZ := Lib.hid hszv
        obtain ⟨hml1, hml2⟩ := hml l[k] (List.getElem_mem hlt)
        rw [hszv] at HX
        clear hszv
        generalize l[k].1 = kk at *
        generalize l[k].2 = vv at *
        by_cases hlong : 200 < kk.length + vv.length
        · go_wp2_with fail
          refine (awake06 _ (hT.up hb1 hb1.size)).mono ?_
          rintro e w1 ⟨rfl, hb2⟩
          go_wp2_with fail
          go_ret
          exact ⟨rfl, chain hb1 hb2⟩
        · have HN := Lib.hid (HX.out (by have := HZ.out; omega))
          have H1 := Lib.hid (fun W hT hB => rSize0_any kk vv (by omega) W (B := w.heap.size) hT hB)
          have H2 := Lib.hid (fun W => rSize06_any kk vv (by omega) W)
          have H3 := Lib.hid (fun W => Right06_any kk vv W)
          have H4 := Lib.hid (fun W => rRight06_any kk vv (by omega) W)
          have hg := hP.lt
          have hd0 := hP.c0
          have hd1 := hP.c1
          generalize sizeP (kk, vv) = zz at *
          generalize rightP (kk, vv) = rr at *
          go_wp2_with fail
          generalize wr.alloc (.cells #[.string (S kk), .string (S vv)] 25) = W0 at *
          have hPd : PairAt W0.drew wr.heap.size kk vv := hP
          have hxd : Below w.heap.size w W0.drew := hb1.drew
          have HTO := Lib.hid (fun (W : World) (hB : Below w.heap.size w W) => hT.on hB)
          clear hT hb hc0 hc1 hv hv0
          generalize wr.heap.size = g at *
          go_region_held3 (fun W => W.cell? ⟨g, 0, none⟩ = some (.string (S kk)) ∧ W.cell? ⟨g, 1, none⟩ = some (.string (S vv))) (first | assumption | exact ⟨hd0, hd1⟩) (first
            | (go_at_call 8; (with_reducible refine (H1.out _ (HTO.out _ (by assumption)) (Below.size (by assumption))).mono ?_); rintro e v1 ⟨rfl, hb2⟩; have hP1 := PairAt.below (g := g) (k := kk) (v := vv) (by assumption) hb2 (PairAt.lt (by assumption)); have hx1 := chainB0 (w := w) (by assumption) hb2; have hS := And.intro hP1.c0 hP1.c1)
            | (go_at_call 9; (with_reducible refine (H2.out _).mono ?_); rintro e v2 ⟨rfl, hb3⟩; have hP2 := PairAt.below (g := g) (k := kk) (v := vv) (by assumption) hb3 (PairAt.lt (by assumption)); have hx2 := chainB0 (w := w) (by assumption) hb3; have hS := And.intro hP2.c0 hP2.c1)
            | (go_at_call 10; (with_reducible refine (H3.out _).mono ?_); rintro e v3 ⟨rfl, hb4⟩; have hP3 := PairAt.below (g := g) (k := kk) (v := vv) (by assumption) hb4 (PairAt.lt (by assumption)); have hx3 := chainB0 (w := w) (by assumption) hb4; have hS := And.intro hP3.c0 hP3.c1)
            | (go_at_call 11; (with_reducible refine (H4.out _).mono ?_); rintro e v4 ⟨rfl, hb5⟩; have hP4 := PairAt.below (g := g) (k := kk) (v := vv) (by assumption) hb5 (PairAt.lt (by assumption)); have hx4 := chainB0 (w := w) (by assumption) hb5; have hS := And.intro hP4.c0 hP4.c1))
          go_wp2_with fail
          go_roundw
          case rel => exact ⟨k + 1, by omega, by go_num, HN.out, by assumption⟩
          case measure => simp [RowKit.intOf]; omega
      · have : k = l.length := by omega
        subst this
        have hm : ∀ p ∈ l, p.1.length + p.2.length ≤ 200 := by
          intro p hp
          obtain ⟨j, hj, rfl⟩ := List.getElem_of_mem hp
          exact hall j hj hj
        have P1 := fun W hT hv => Print06_any l (.slice a l.length c) (fun p hp => by have := hm p hp; omega) (by omega) W hT hv
        have P2 := fun W hv => rPrint06_any l (.slice a l.length c) (fun p hp => by have := hm p hp; omega) (by omega) W hv
        have P3 := fun h => print_parse l (fun p hp => by have := hm p hp; unfold bareP; omega) h
        have hlen : (printF l).1.length ≤ 65536 := by
          have := recs_len l (fun p hp => by have := hm p hp; unfold bareP; omega)
          unfold printF
          split
          · simp
          · split
            · simp
            · split
              · simp
              · show (recsL l).length ≤ _; omega
        have hc2 : (printF l).2 ≤ 12 := by
          unfold printF
          split
          · simp
          · split
            · simp
            · split <;> simp
        have P5 := fun hlen W => Parse06_any (printF l).1 hlen W
        have hlp : l.length ≤ 1000000 := by omega
        have P4 := fun W u hu hv => rSame06_any l l u (.slice a l.length c) hlp hlp W hu hv
        rw [show decide (l = l) = true from decide_eq_true rfl] at P4
        have Q1 := Lib.hid P1
        have Q2 := Lib.hid P2
        have Q4 := Lib.hid P4
        have hvr := Lib.hid (hv0.below hb (Nat.le_refl _))
        clear hall hv hv0 hm P1 P2 P4
        go_wp2_with fail
        refine (Q1.out _ (hT.up hb hb.size) hvr.out).mono ?_
        rintro e w1 ⟨rfl, hb1⟩
        have hB1 := chain hb hb1
        have hv1 := RowsV.below hvr.out hb1 (Nat.le_refl _)
        go_wp2_with fail
        refine (Q2.out _ hv1).mono ?_
        rintro e w2 ⟨rfl, hb2⟩
        have hB2 := chain hB1 hb2
        have hv2 := RowsV.below hv1 hb2 (Nat.le_refl _)
        by_cases hz : (printF l).2 = 0
        · have hpq := P3 hz
          rw [hz]
          have Q5 := Lib.hid (P5 (by omega))
          rw [hpq] at Q5
          clear P3 P5 hpq hc2 hz
          generalize (printF l).1 = t at *
          have HV := Lib.hid hv2
          clear hv1 hv2
          go_wp2_with fail
          refine (Q5.out _).mono ?_
          rintro e w3 ⟨⟨u, rfl, hO⟩, hb3⟩
          have hB3 := chain hB2 hb3
          obtain ⟨a3, c3, rfl⟩ := hO.shape
          have hv3 := RowsV.below HV.out hb3 (Nat.le_refl _)
          have HR := Lib.hid (hO.rows pf_len)
          have HV3 := Lib.hid hv3
          clear hv3
          go_wp2_with fail
          refine (Q4.out _ _ HR.out HV3.out).mono ?_
          rintro e w4 ⟨rfl, hb4⟩
          have hB4 := chain hB3 hb4
          go_wp2_with fail
          refine (awake06 _ (hT.up hB4 hB4.size)).mono ?_
          rintro e w5 ⟨rfl, hb5⟩
          go_wp2_with fail
          go_ret
          exact ⟨rfl, chain hB4 hb5⟩
        · have hzb : (((printF l).2 : Nat) : Int) ≠ 0 := by omega
          have hzc : ((((printF l).2 : Nat) : Int) != 0) = true := by rw [bne_iff_ne]; exact hzb
          clear P3 P5 hzb hz hv1 hv2
          generalize (printF l).1 = t at *
          generalize (printF l).2 = z at *
          go_wp2_with fail
          refine (awake06 _ (hT.up hB2 hB2.size)).mono ?_
          rintro e w3 ⟨rfl, hb3⟩
          go_wp2_with fail
          go_ret
          exact ⟨rfl, chain hB2 hb3⟩
end Go.Proofs.YtjoalambgckchaaDoor
