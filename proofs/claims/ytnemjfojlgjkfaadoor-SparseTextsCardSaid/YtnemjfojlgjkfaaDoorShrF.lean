/- sparse.blank, sparse.Shrink, walked. -/
import Derived.Test.YtnemjfojlgjkfaaDoorShrG
import Derived.Test.YtnemjfojlgjkfaaDoorLabel
import Derived.Test.YtnemjfojlgjkfaaDoorShelf
import Derived.RegionTactic
import Derived.BigQuiet
import Derived.Outline
namespace Go.Proofs.YtnemjfojlgjkfaaDoor
open Go.RowKit

theorem sblank_any (l : List UInt8) (hl : l.length ≤ 1000000) (w : World) :
    Calls Tryd.prog 26 #[.string (S l)] w fun e w' => e = .returned (.bool (blankB l)) ∧ ∃ m, w' = w.drewN m := by
  have hb := trim_blank l
  go_enter Tryd.func26, Tryd.ntmps26
  go_wp2_with fail
  refine (Go.Proofs.Tryd.strings_Trim_one (S l) 0 (by decide) _ (by rw [S_size]; omega)).mono ?_
  rintro e w3 ⟨rfl, hw3⟩
  obtain ⟨q, rfl⟩ : ∃ q, w3 = w.drewN q := hw3.elim (fun h => ⟨0, h⟩) (fun h => ⟨1, h⟩)
  rw [S_data, show (⟨(Lib.trimB l 0).toArray⟩ : ByteArray) = S (Lib.trimB l 0) from rfl]
  generalize Lib.trimB l 0 = z at *
  have HB := Lib.hid hb
  clear hb
  go_wp2_with fail
  go_ret
  exact ⟨by rw [← HB.out]; first | rfl | simp, q, rfl⟩
theorem nB_int (s : List UInt8) : ((s.length : Int) + restI s.length) / 512 = (nB s : Int) := by
  unfold restI nB; omega
/-- what Shrink tells -/
def ShrPost (s : List UInt8) (w : World) (e : Ending) (w' : World) : Prop :=
  ∃ v, e = .returned (.tuple #[.agg #[.int .i64 s.length, v], .string (S (shrS s (nB s)).2), .int .i64 0]) ∧ PieV w' v (shrS s (nB s)).1 ∧ Below w.heap.size w w'
set_option maxRecDepth 100000 in
set_option maxHeartbeats 4000000 in
theorem Shrink_any (s : List UInt8) (hs : s.length ≤ 6000) (w : World) :
    Calls Tryd.prog 8 #[.string (S s)] w (ShrPost s w) := by
  have hx0 := (Below.refl w.heap.size w).alloc (Nat.le_refl _) (.cells #[.int .i64 0, .slice none 0 0] 25)
  have hM0 := MapAt.new w 0 (.slice none 0 0)
  have hBl := fun W => blocks_yes (s.length : Int) W (by omega) (by omega)
  rw [nB_int] at hBl
  have HBl := Lib.hid hBl
  have hnB : 512 * nB s < s.length + 512 ∧ s.length ≤ 512 * nB s := by unfold nB; omega
  clear hBl
  go_enter Tryd.func8, Tryd.ntmps8
  go_wp2_with fail
  generalize w.alloc (.cells #[.int .i64 0, .slice none 0 0] 25) = W at *
  first
    | refine scope_l6 0 (fun _ _ => False) (fun _ _ => 0) rfl rfl rfl rfl rfl rfl (fun _ _ h => h.elim) (fun hJ => ?_)
    | refine scope_l5 0 (fun _ _ => False) (fun _ _ => 0) rfl rfl rfl rfl rfl (fun _ _ h => h.elim) (fun hJ => ?_)
    | refine scope_l4 0 (fun _ _ => False) (fun _ _ => 0) rfl rfl rfl rfl (fun _ _ h => h.elim) (fun hJ => ?_)
    | refine scope_l3 0 (fun _ _ => False) (fun _ _ => 0) rfl rfl rfl (fun _ _ h => h.elim) (fun hJ => ?_)
  clear hJ
  have hM1 := (hM0.below (Below.refl _ _)).below ((Below.refl _ _).alloc (Nat.le_refl _) (.cells #[.int .i64 s.length, .slice none 0 0] 25))
  go_wp2_with fail
  refine (HBl.out _).mono ?_
  rintro e w1 ⟨rfl, rfl⟩
  go_wp2_with fail
  have hM5 := MapAt.new W s.length (.slice none 0 0)
  have hx1 := hx0.alloc hx0.size (.cells #[.int .i64 s.length, .slice none 0 0] 25)
  have hg5 := hM0.lt
  have hg6 : W.heap.size < (W.alloc (.cells #[.int .i64 s.length, .slice none 0 0] 25)).heap.size := by simp
  clear hM0 hx0
  generalize W.alloc (.cells #[.int .i64 s.length, .slice none 0 0] 25) = W2 at *
  generalize W.heap.size = g5 at *
  try refine wp_label ?_
  go_wp2_with fail
  have hB0 : OwnB W2 (g5 + 1) (.slice none 0 0) (shrS s 0).2 := OwnB.nil _ _
  have hQ0 : OwnQ W2 (g5 + 1) (.slice none 0 0) (shrS s 0).1 := OwnR.nil _ _ _ _ _
  go_loopw [6, 27] (fun v6 v27 wr => ∃ (k : Nat) (vq : Value), v27 = .int .i64 k ∧ k ≤ nB s ∧ OwnB wr (g5 + 1) v6 (shrS s k).2 ∧ OwnQ wr (g5 + 1) vq (shrS s k).1 ∧ MapAt wr g5 s.length vq ∧ MapAt wr w.heap.size 0 (.slice none 0 0) ∧ Below w.heap.size w wr ∧ W2.heap.size ≤ wr.heap.size) (fun _ v27 _ => nB s - (intOf v27).toNat)
  case atStart => exact ⟨0, _, rfl, Nat.zero_le _, hB0, hQ0, hM5, hM1, hx1, Nat.le_refl _⟩
  case round =>
    obtain ⟨k, vq, rfl, hk, hob, hoq, hN5, hN1, hb, hz2⟩ := hrel
    clear hB0 hQ0 hM5 hM1 hx1 HBl
    by_cases hlt : k < nB s
    · have hkI : (k : Int) < (nB s : Int) := by omega
      have hk5 : 512 * k < s.length := by omega
      have hcl := chunk_len s k
      have hc1 : 1 ≤ (chunkL s k).length := by omega
      have hc2 : (chunkL s k).length ≤ 512 := by omega
      have hsl : (S s).extract (k * 512) (min ((k : Int) * 512 + 512) (s.length : Int)).toNat = S (chunkL s k) := by
        rw [← chunk_slice s k, Nat.mul_comm, show (min ((k : Int) * 512 + 512) (s.length : Int)).toNat = min (512 * k + 512) s.length by omega]
      have hbk := fun W => sblank_any (chunkL s k) (by omega) W
      have HI := Lib.hid (shrI s k (by omega))
      have HBk := Lib.hid hbk
      have hSb := Lib.hid (shrS_blank s k)
      have hSf := Lib.hid (shrS_full s k)
      clear hbk hcl
      generalize chunkL s k = c at *
      have hkn : (k : Int) ≤ 12 := by omega
      cases hbl : blankB c
      · rw [hbl] at HBk
        have hS1 := hSf.out hbl
        have hi1 := HI.out.right
        have hi4 := HI.out.cnt
        have hi5 := HI.out.len
        have hol : (shrS s k).2.length ≤ 1000000 := by have := shrS_len s k; omega
        have hmem := Lib.hid (pieB_mem _ _ _ hi1)
        have HS1 := Lib.hid hS1
        clear hS1 hi1 hi5 HI hSb hSf
        generalize (shrS s k).2 = bl at *
        generalize (shrS s k).1 = ls at *
        go_wp2_with fail
        refine (HBk.out _).mono ?_
        rintro e w3 ⟨rfl, m, rfl⟩
        have hD : Below wr.heap.size wr (wr.drewN m) := belowDrewN (Below.refl _ _)
        have hob4 := hob.below hD (Nat.le_refl _)
        have hoq4 := hoq.below hD (Nat.le_refl _)
        have hP5 := hN5.below hD
        have hP1 := hN1.below hD
        have hb4 := hb.trans (hD.mono hb.size)
        have hz4 : W2.heap.size ≤ (wr.drewN m).heap.size := by have := hD.size; omega
        clear hob hoq hN5 hN1 hb hz2
        generalize wr.drewN m = w4 at *
        obtain ⟨va, vc, rfl⟩ := OwnB.shape hob4
        have hsq : Sep vq (.slice va bl.length vc) := own_sep (by decide) hoq4 hob4
        have hsm : SepG g5 (.slice va bl.length vc) := own_sepG (by decide) hob4 hP5
        have hsz : SepG w.heap.size (.slice va bl.length vc) := own_sepG (by decide) hob4 hP1
        obtain rfl | ⟨t, p, rfl⟩ : ls = [] ∨ ∃ t p, ls = t ++ [p] := by
          rcases List.eq_nil_or_concat ls with h | ⟨t, p, h⟩
          · exact Or.inl h
          · exact Or.inr ⟨t, p, by rw [h, List.concat_eq_append]⟩
        · have hS0 := ext_new [] ((512 * k : Nat) : Int) (c.length : Int) (fun p hp => by cases hp)
          have HN := Lib.hid (show shrS s (k + 1) = ([((k : Int) * 512, (c.length : Int))], bl ++ c) by
            rw [HS1.out, hS0, show ((512 * k : Nat) : Int) = (k : Int) * 512 by omega]; rfl)
          obtain ⟨qa, qc, hvq⟩ := hoq4.shape
          have hvq' : vq = .slice qa 0 qc := hvq
          clear hS0 HS1 hmem hvq
          subst hvq'
          have hj0 : decide ((0 : Int) < 0) = false := by decide
          go_wp2_with (at_builtin; go_must (refine app_textG rfl _ _ rfl (g5 + 1) (.slice va bl.length vc) bl c rfl hob4 rfl (by omega) (by omega) ?_); intro v5 w5 hob5 hb5 hgr5; have hR5 : MapAt w5 g5 s.length (.slice qa 0 qc) := (hgr5.block _ hP5.lt hsm).trans hP5; have hR1 : MapAt w5 w.heap.size 0 (.slice none 0 0) := (hgr5.block _ hP1.lt hsz).trans hP1; have hoq5 : OwnQ w5 (g5 + 1) (.slice qa 0 qc) [] := World.ownsRow.kept hoq4 hgr5 hsq; have r1 := hR5.c1)
          have hs5 := hb5.size
          have hsgq : SepG g5 (.slice qa 0 qc) := own_sepG (by decide) hoq5 hR5
          have hszq : SepG w.heap.size (.slice qa 0 qc) := own_sepG (by decide) hoq5 hR1
          have hsv6 : Sep v5 (.slice qa 0 qc) := own_sep (by decide) hob5 hoq5
          have hb6 : Below w.heap.size w w5 := hb4.trans (hb5.mono (by omega))
          clear hb5 hob4 hoq4 hP5 hP1 hsm hsz hsq hgr5
          go_quiet (fail)
          have hD5 : Below w5.heap.size w5 (w5.drewN nq) := belowDrewN (Below.refl _ _)
          have hob6 := hob5.below hD5 (Nat.le_refl _)
          have hoq6 := hoq5.below hD5 (Nat.le_refl _)
          have hR6 := hR5.below hD5
          have hR7 := hR1.below hD5
          have hb7 := hb6.trans (hD5.mono hb6.size)
          have hz7 := hD5.size
          have z3 := hR6.c1
          clear hD5 hR5 hR1 r1 hob5 hoq5
          generalize w5.drewN nq = w6 at *
          have hbz : g5 + 1 ≤ w6.heap.size := by omega
          go_wp2_with (at_builtin; go_must (refine app_pie rfl _ _ rfl (g5 + 1) (.slice qa 0 qc) [] ((k : Int) * 512, (c.length : Int)) _ rfl rfl hoq6 rfl (by decide) hbz ?_); intro v8 w8 hown8 hb8 hg8; have hP8 := hR6.grew hg8 hsgq; obtain ⟨v8a, v8c, rfl⟩ := hown8.shape; have y1 := hP8.c1; have y2 := hP8.fz 1)
          have hob8 := hob6.kept hg8 hsv6
          have hR8 := hR7.grew hg8 hszq
          have hs8 := hb8.size
          have hsep8 : SepG g5 (.slice v8a ([] ++ [((k : Int) * 512, (c.length : Int))]).length v8c) := fun e => by have := (World.ownsRow.lt hown8 _ e.symm).1; omega
          have hsv8 : SepG g5 v5 := own_sepG (by decide) hob8 hP8
          go_roundw
          case rel => exact ⟨k + 1, _, by go_num, by omega, by rw [HN.out]; exact hob8.setOther _ _ _ hsv8, by rw [HN.out]; exact hown8.setOther _ _ _ hsep8, hP8.put _, hR8.setOther _ _ _ (by omega), (hb7.trans (hb8.mono (by omega))).setCell (by simp; omega) _, by simp; omega⟩
          case measure => simp [intOf]; omega
        · have hL : (t ++ [p]).length = t.length + 1 := by simp
          go_wp2_with (at_builtin; go_must (refine app_textG rfl _ _ rfl (g5 + 1) (.slice va bl.length vc) bl c rfl hob4 rfl (by omega) (by omega) ?_); intro v5 w5 hob5 hb5 hgr5; have hR5 : MapAt w5 g5 s.length vq := (hgr5.block _ hP5.lt hsm).trans hP5; have hR1 : MapAt w5 w.heap.size 0 (.slice none 0 0) := (hgr5.block _ hP1.lt hsz).trans hP1; have hoq5 : OwnQ w5 (g5 + 1) vq (t ++ [p]) := World.ownsRow.kept hoq4 hgr5 hsq; obtain ⟨g, cap, rfl, hgb, hgz, x0, x1, x2, hup, cs, hcs⟩ := own_last hoq5; have HU := Lib.hid hup; clear hup; have r1 := hR5.c1)
          obtain ⟨pa, pl⟩ := p
          have hp := hmem.out (pa, pl) (by simp)
          obtain ⟨hp1, hp2, hp3⟩ := hp
          dsimp only at hp1 hp2 hp3 x0 x1
          rw [hL] at hi4
          have hEX := ext_on t (pa, pl) ((512 * k : Nat) : Int) (c.length : Int)
          have hEN := ext_new (t ++ [(pa, pl)]) ((512 * k : Nat) : Int) (c.length : Int)
          have HEX := Lib.hid hEX
          have HEN := Lib.hid hEN
          have HL := Lib.hid hL
          clear hEX hEN hL hmem
          have hs5 := hb5.size
          have hob5' := hob5
          generalize hj : t.length = j at *
          have HJ := Lib.hid hj
          clear hj
          have hjI : (j : Int) ≤ 12 := by omega
          have e0 : IntKind.i64.wrap (pa + pl) = pa + pl := IntWalk.i64_in _ (by omega)
          have e1 : IntKind.i64.wrap ((j : Int) + 1 - 1) = (j : Int) := by rw [show (j : Int) + 1 - 1 = (j : Int) by omega]; exact IntWalk.i64_in _ (by omega)
          have hj0 : decide ((0 : Int) < (j : Int) + 1) = true := decide_eq_true (by omega)
          have hsgq : SepG g5 (.slice (some ⟨g, 0, none⟩) (j + 1) cap) := by intro e; simp only [Value.ownBlock, Option.some.injEq] at e; omega
          have hszq : SepG w.heap.size (.slice (some ⟨g, 0, none⟩) (j + 1) cap) := by intro e; simp only [Value.ownBlock, Option.some.injEq] at e; omega
          have hsv5 : SepG g v5 := own_sepG (by decide) hob5 hcs
          have hsv6 : Sep v5 (.slice (some ⟨g, 0, none⟩) (j + 1) cap) := own_sep (by decide) hob5 hoq5
          have hb6 : Below w.heap.size w w5 := hb4.trans (hb5.mono (by omega))
          clear hb5 hob5' hob4 hoq4 hP5 hP1 hsm hsz hsq hgr5
          by_cases hE : pa + pl = (k : Int) * 512
          · have hEB : ((pa + pl : Int) == (k : Int) * 512) = true := by rw [hE]; simp
            have HN := Lib.hid (show shrS s (k + 1) = (t ++ [(pa, pl + (c.length : Int))], bl ++ c) by rw [HS1.out, HEX.out (by show pa + pl = _; omega)])
            clear HEX HEN HS1 hE
            go_quiet (fail)
            have hD5 : Below w5.heap.size w5 (w5.drewN nq) := belowDrewN (Below.refl _ _)
            have hob6 := hob5.below hD5 (Nat.le_refl _)
            have hoq6 := hoq5.below hD5 (Nat.le_refl _)
            have hR6 := hR5.below hD5
            have hR7 := hR1.below hD5
            have hb7 := hb6.trans (hD5.mono hb6.size)
            have hz7 := hD5.size
            have z1 := (hD5.cell (p := ⟨g, j * 2 + 1, none⟩) hgz).trans x1
            have z2 := (hD5.frozen (p := ⟨g, j * 2 + 1, none⟩) hgz).trans x2
            have z3 := hR6.c1
            clear hD5 hR5 hR1 r1 x0 x1 x2 hob5 hoq5
            generalize w5.drewN nq = w6 at *
            have hst := own_set hoq6 (pl + (c.length : Int))
            rw [HJ.out] at hst
            have HST := Lib.hid hst
            clear hst
            go_wp2_with fail
            go_roundw
            case rel => exact ⟨k + 1, _, by go_num, by omega, by rw [HN.out]; exact hob6.setOther _ _ _ hsv5, by rw [HN.out]; exact HST.out, hR6.setOther _ _ _ (by omega), hR7.setOther _ _ _ (by omega), hb7.setCell (by simp; omega) _, by simp; omega⟩
            case measure => simp [intOf]; omega
          · have hEB : ((pa + pl : Int) == (k : Int) * 512) = false := by rw [beq_eq_false_iff_ne]; exact hE
            have HN := Lib.hid (show shrS s (k + 1) = (t ++ [(pa, pl)] ++ [((k : Int) * 512, (c.length : Int))], bl ++ c) by
              rw [HS1.out, HEN.out (fun p hp => by rw [List.getLast?_concat] at hp; cases hp; intro e; exact hE (by dsimp only at e; omega))]
              rw [show ((512 * k : Nat) : Int) = (k : Int) * 512 by omega])
            clear HEX HEN HS1 hE
            go_quiet (fail)
            have hD5 : Below w5.heap.size w5 (w5.drewN nq) := belowDrewN (Below.refl _ _)
            have hob6 := hob5.below hD5 (Nat.le_refl _)
            have hoq6 := hoq5.below hD5 (Nat.le_refl _)
            have hR6 := hR5.below hD5
            have hR7 := hR1.below hD5
            have hb7 := hb6.trans (hD5.mono hb6.size)
            have hz7 := hD5.size
            have z3 := hR6.c1
            clear hD5 hR5 hR1 r1 x0 x1 x2 hob5 hoq5
            generalize w5.drewN nq = w6 at *
            have hqb : (t ++ [(pa, pl)]).length ≤ 1000000000 := by rw [HL.out]; omega
            have hbz : g5 + 1 ≤ w6.heap.size := by omega
            go_wp2_with (at_builtin; go_must (refine app_pie rfl _ _ rfl (g5 + 1) (.slice (some ⟨g, 0, none⟩) (j + 1) cap) (t ++ [(pa, pl)]) ((k : Int) * 512, (c.length : Int)) _ rfl rfl hoq6 rfl hqb hbz ?_); intro v8 w8 hown8 hb8 hg8; have hP8 := hR6.grew hg8 hsgq; obtain ⟨v8a, v8c, rfl⟩ := hown8.shape; have y1 := hP8.c1; have y2 := hP8.fz 1)
            have hL8 : (t ++ [(pa, pl)] ++ [((k : Int) * 512, (c.length : Int))]).length = t.length + 2 := by simp
            have hob8 := hob6.kept hg8 hsv6
            have hR8 := hR7.grew hg8 hszq
            have hs8 := hb8.size
            have hsep8 : SepG g5 (.slice v8a (t ++ [(pa, pl)] ++ [((k : Int) * 512, (c.length : Int))]).length v8c) := fun e => by have := (World.ownsRow.lt hown8 _ e.symm).1; omega
            have hsv8 : SepG g5 v5 := own_sepG (by decide) hob8 hP8
            rw [hL8] at hown8 hsep8
            go_roundw
            case rel => exact ⟨k + 1, _, by go_num, by omega, by rw [HN.out]; exact hob8.setOther _ _ _ hsv8, by rw [HN.out]; exact hown8.setOther _ _ _ hsep8, hP8.put _, hR8.setOther _ _ _ (by omega), (hb7.trans (hb8.mono (by omega))).setCell (by simp; omega) _, by simp; omega⟩
            case measure => simp [intOf]; omega
      · rw [hbl] at HBk
        have hS1 := hSb.out hbl
        have HS1 := Lib.hid hS1
        clear hS1 hSb hSf HI
        go_wp2_with fail
        refine (HBk.out _).mono ?_
        rintro e w3 ⟨rfl, m, rfl⟩
        have hD : Below wr.heap.size wr (wr.drewN m) := belowDrewN (Below.refl _ _)
        have hob4 := hob.below hD (Nat.le_refl _)
        have hoq4 := hoq.below hD (Nat.le_refl _)
        have hP5 := hN5.below hD
        have hP1 := hN1.below hD
        have hb4 := hb.trans (hD.mono hb.size)
        have hz4 : W2.heap.size ≤ (wr.drewN m).heap.size := by have := hD.size; omega
        generalize wr.drewN m = w4 at *
        go_wp2_with fail
        go_roundw
        case rel => exact ⟨k + 1, vq, by go_num, by omega, by rw [HS1.out]; exact hob4, by rw [HS1.out]; exact hoq4, hP5, hP1, hb4, hz4⟩
        case measure => simp [intOf]; omega
    · have hkk : k = nB s := by omega
      subst hkk
      have hPV := hoq.pieV
      obtain ⟨va, vc, rfl⟩ := hob.shape
      have hls := shrS_len s (nB s)
      have hol : (shrS s (nB s)).2.length ≤ 1000000 := by omega
      have d0 := hN5.c0
      have d1 := hN5.c1
      have b0 := hN1.c0
      have b1 := hN1.c1
      have b2 := hN1.fz 0
      have b3 := hN1.fz 1
      have hst := run_string_own wr (g5 + 1) (.slice va (shrS s (nB s)).2.length vc) (shrS s (nB s)).2 hob
      have hst2 := run_string_own wr.drew (g5 + 1) (.slice va (shrS s (nB s)).2.length vc) (shrS s (nB s)).2 hob
      obtain ⟨qa, qc, rfl⟩ := hoq.shape
      have hoF := hoq
      have hsb : SepG w.heap.size (.slice va (shrS s (nB s)).2.length vc) := own_sepG (by decide) hob hN1
      have hst3 := run_string_own _ _ _ _ (show OwnB ((wr.setCell ⟨w.heap.size, 0, none⟩ (.int .i64 s.length)).setCell ⟨w.heap.size, 1, none⟩ (.slice qa (shrS s (nB s)).1.length qc)).drew (g5 + 1) (.slice va (shrS s (nB s)).2.length vc) (shrS s (nB s)).2 from (hob.setOther _ _ _ hsb).setOther _ _ _ hsb)
      have HP := Lib.hid hPV
      have hsq : SepG w.heap.size (.slice qa (shrS s (nB s)).1.length qc) := own_sepG (by decide) hoq hN1
      clear HP hPV hoF
      generalize hbl : (shrS s (nB s)).2 = bl at *
      generalize hlq : (shrS s (nB s)).1 = lq at *
      have HBL := Lib.hid hbl
      have HLQ := Lib.hid hlq
      clear hbl hlq
      go_wp2_with fail
      go_region
      go_wp2_with fail
      refine bodyPost_ret (v := .tuple #[.agg #[.int .i64 s.length, .slice qa lq.length qc], .string (S bl), .int .i64 0]) (by simp [results, Tryd.results8, go_sem, b0, b1]) rfl ?_
      refine ⟨_, by rw [HBL.out], ?_, ?_⟩
      · rw [HLQ.out]
        exact OwnR.pieV (show OwnQ _ (g5 + 1) _ lq from (hoq.setOther _ _ _ hsq).setOther _ _ _ hsq)
      · first | exact (((hb.setCell (by simp) _).setCell (by simp) _).drew) | exact ((hb.drew.setCell (by simp) _).setCell (by simp) _)
end Go.Proofs.YtnemjfojlgjkfaaDoor
