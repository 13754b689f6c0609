/- The document's map at a block: what a store, or an append, leaves. Its Shrink, walked. -/
import Derived.Test.YtnemjfojlgjkfaaDoorShrE
import Derived.Test.YtnemjfojlgjkfaaDoorSparseE
import Derived.RegionTactic
import Derived.Outline
namespace Go.Proofs.YtnemjfojlgjkfaaDoor
open Go.RowKit

theorem RMapAt.grew {w w' : World} {g : Nat} {a : Int} {b u u' : Value} (h : RMapAt w g a b) (hg : Grew w w' u u') (hs : SepG g u) : RMapAt w' g a b := (hg.block h.lt hs).trans h
/-- a store to the field of pieces -/
theorem RMapAt.put {w : World} {g : Nat} {a : Int} {b : Value} (h : RMapAt w g a b) (x : Value) : RMapAt (w.setCell ⟨g, 1, none⟩ x) g a x := by
  unfold RMapAt at h ⊢
  rw [heap_setCell_same w g 1 _ _ x h]
  rfl
theorem RMapAt.setOther {w : World} {g : Nat} {a : Int} {b : Value} (h : RMapAt w g a b) (k i : Nat) (x : Value) (hk : k ≠ g) : RMapAt (w.setCell ⟨k, i, none⟩ x) g a b := by
  unfold RMapAt at h ⊢
  rw [heap_setCell_other w ⟨k, i, none⟩ g x (fun e => hk (by simp at e; omega))]
  exact h
theorem RMapAt.under {w w' : World} {g B : Nat} {a : Int} {b : Value} (h : RMapAt w g a b) (hb : Below B w w') (hg : g < B) : RMapAt w' g a b := (hb.block g hg).trans h
theorem RMapAt.fz {w : World} {g : Nat} {a : Int} {b : Value} (h : RMapAt w g a b) (i : Nat) : w.frozen? ⟨g, i, none⟩ = false := by
  unfold RMapAt at h; simp [World.frozen?, h]

def wasB (s : List UInt8) (k : Nat) : Bool := decide (0 < k) && !blankB (chunkL s (k - 1))
theorem wasB_succ (s : List UInt8) (k : Nat) : wasB s (k + 1) = !blankB (chunkL s k) := by
  unfold wasB
  rw [decide_eq_true (by omega), Bool.true_and, Nat.add_sub_cancel]
theorem was_iff (s : List UInt8) (k : Nat) : wasB s k = true ↔ (0 < k ∧ blankB (chunkL s (k - 1)) = false) := by
  unfold wasB
  rw [Bool.and_eq_true, decide_eq_true_iff, Bool.not_eq_true']
/-- behind a full block: the last piece ends here -/
theorem was_yes (s : List UInt8) (k : Nat) (h : 512 * k < s.length) (hw : wasB s k = true) : ∃ (t : Pcs) (p : Int × Int), (shrS s k).1 = t ++ [p] ∧ p.1 + p.2 = ((512 * k : Nat) : Int) := by
  obtain ⟨h0, hb⟩ := (was_iff s k).1 hw
  cases hl : (shrS s k).1.getLast? with
  | none =>
    have := shr_nil s k (by simpa using hl) h0
    rw [this] at hb; cases hb
  | some p => exact ⟨_, p, snoc_of _ p hl, (shr_was s k h p hl).2 ⟨h0, hb⟩⟩
/-- behind a blank one, or none: no piece ends here -/
theorem was_no (s : List UInt8) (k : Nat) (h : 512 * k < s.length) (hw : wasB s k = false) (n : Int) : extL (shrS s k).1 ((512 * k : Nat) : Int) n = (shrS s k).1 ++ [(((512 * k : Nat) : Int), n)] := by
  refine ext_new _ _ _ (fun p hp e => ?_)
  have := (was_iff s k).2 ((shr_was s k h p hp).1 e)
  rw [hw] at this; cases this
theorem shrS_len (s : List UInt8) (k : Nat) : (shrS s k).2.length ≤ 512 * k := by
  induction k with
  | zero => exact Nat.le_refl 0
  | succ k ih =>
    by_cases h : blankB (chunkL s k) = true
    · rw [shrS_blank s k h]; omega
    · rw [shrS_full s k (by simpa using h)]
      have := chunk_len s k
      simp only [List.length_append]
      omega
def nB (s : List UInt8) : Nat := (s.length + 511) / 512
/-- what the document's Shrink tells -/
def RShrPost (s : List UInt8) (w : World) (e : Ending) (w' : World) : Prop :=
  ∃ v, e = .returned (.tuple #[.agg #[.int .i64 s.length, v], .string (S (shrS s (nB s)).2)]) ∧ PieV w' v (shrS s (nB s)).1 ∧ Below w.heap.size w w'
set_option maxRecDepth 100000 in
set_option maxHeartbeats 4000000 in
theorem rShrink_any (s : List UInt8) (hs : s.length ≤ 6000) (w : World) :
    Calls Tryd.prog 9 #[.string (S s)] w (RShrPost s w) := by
  have hx0 := (Below.refl w.heap.size w).alloc (Nat.le_refl _) (.cells #[.int .i64 0, .slice none 0 0] 31)
  have hM0 := RMapAt.new w 0 (.slice none 0 0)
  have hnB : 512 * nB s < s.length + 512 ∧ s.length ≤ 512 * nB s := by unfold nB; omega
  go_enter Tryd.func9, Tryd.ntmps9
  go_wp2_with fail
  have hg5 := hM0.lt
  generalize hW1 : w.alloc (.cells #[.int .i64 0, .slice none 0 0] 31) = W at *
  have hWz : W.heap.size = w.heap.size + 1 := by rw [← hW1]; simp
  clear hW1
  have hM1 := hM0.below ((Below.refl _ _).alloc (Nat.le_refl _) (.cells #[.int .i64 s.length, .slice none 0 0] 31))
  have hM5 := RMapAt.new W s.length (.slice none 0 0)
  have hx1 := hx0.alloc hx0.size (.cells #[.int .i64 s.length, .slice none 0 0] 31)
  have hg6 : W.heap.size < (W.alloc (.cells #[.int .i64 s.length, .slice none 0 0] 31)).heap.size := by simp
  rw [hWz] at hM5 hg6
  clear hM0 hx0 hg5
  generalize W.alloc (.cells #[.int .i64 s.length, .slice none 0 0] 31) = W2 at *
  clear hWz
  have hQ0 : OwnW W2 (w.heap.size + 2) (.slice none 0 0) (shrS s 0).1 := OwnR.nil _ _ _ _ _
  go_loopw [5, 6, 7] (fun v5 v6 v7 wr => ∃ (k : Nat) (vq : Value), v5 = .string (S (shrS s k).2) ∧ v6 = .bool (wasB s k) ∧ v7 = .int .i64 ((k : Int) * 512) ∧ k ≤ nB s ∧ OwnW wr (w.heap.size + 2) vq (shrS s k).1 ∧ RMapAt wr (w.heap.size + 1) s.length vq ∧ RMapAt wr w.heap.size 0 (.slice none 0 0) ∧ Below w.heap.size w wr ∧ W2.heap.size ≤ wr.heap.size) (fun _ _ v7 _ => s.length + 512 - (intOf v7).toNat)
  case atStart => exact ⟨0, _, rfl, rfl, rfl, Nat.zero_le _, hQ0, hM5, hM1, hx1, Nat.le_refl _⟩
  case round =>
    obtain ⟨k, vq, rfl, rfl, rfl, hk, hoq, hN5, hN1, hb, hz2⟩ := hrel
    clear hQ0 hM5 hM1 hx1
    have hls := shrS_len s k
    by_cases hlt : k < nB s
    · have hkI : (k : Int) * 512 < (s.length : Int) := by omega
      have hk5 : 512 * k < s.length := by omega
      have hcl := chunk_len s k
      have hc1 : 1 ≤ (chunkL s k).length := by omega
      have hc2 : (chunkL s k).length ≤ 512 := by omega
      have hsl : (S s).extract (k * 512) (min ((k : Int) * 512 + 512) (s.length : Int)).toNat = S (chunkL s k) := by
        rw [← chunk_slice s k, Nat.mul_comm, show (min ((k : Int) * 512 + 512) (s.length : Int)).toNat = min (512 * k + 512) s.length by omega]
      have hbk := fun W => rBlank_any (S (chunkL s k)) (by rw [S_size]; omega) W
      have hI := shrI s k (by omega)
      have hmem := Lib.hid (pieB_mem _ _ _ hI.right)
      have hcnt := hI.cnt
      have hSb := Lib.hid (shrS_blank s k)
      have hSf := Lib.hid (shrS_full s k)
      have hWs := Lib.hid (wasB_succ s k)
      have hkn : (k : Int) ≤ 12 := by omega
      have hol : (shrS s k).2.length ≤ 6200 := by omega
      have hWY := Lib.hid (was_yes s k hk5)
      have hWN := Lib.hid (was_no s k hk5)
      rw [show (S (chunkL s k)).data.toList = chunkL s k from rfl] at hbk
      have HBk := Lib.hid hbk
      have hcat := S_append (shrS s k).2 (chunkL s k)
      clear hbk hcl hI hls
      generalize chunkL s k = c at *
      have HSL := Lib.hid hsl
      clear hsl
      go_upto_region 7 with fail
      go_cut [8] (fun v8 wx => v8 = .string (S c) ∧ wr = wx)
      case first =>
        clear hSb hSf hWs hWY hWN HBk hmem hcat
        go_wp2_with fail
        all_goals
          go_meet
          exact ⟨congrArg Value.string (by rw [← HSL.out]; first | rfl | (congr 1; omega)), rfl⟩
      obtain ⟨rfl, rfl⟩ := hcut
      cases hbl : blankB c
      · rw [hbl] at HBk
        have HS1 := Lib.hid (hSf.out hbl)
        have HW1 : Hid (wasB s (k + 1) = true) := Lib.hid (by rw [hWs.out, hbl]; rfl)
        clear hSb hSf hWs hbl
        have HC := Lib.hid hcat
        clear hcat
        cases hw : wasB s k
        · have hEN := hWN.out hw c.length
          have HN : Hid (shrS s (k + 1) = ((shrS s k).1 ++ [((k : Int) * 512, (c.length : Int))], (shrS s k).2 ++ c)) := Lib.hid (by
            rw [HS1.out, hEN, show ((512 * k : Nat) : Int) = (k : Int) * 512 by omega])
          clear hEN HS1 hWY hWN
          obtain ⟨qa, qc, rfl⟩ := hoq.shape
          have hsgq : SepG (w.heap.size + 1) (.slice qa (shrS s k).1.length qc) := own_sepG (by decide) hoq hN5
          have hszq : SepG w.heap.size (.slice qa (shrS s k).1.length qc) := own_sepG (by decide) hoq hN1
          have hqb : (shrS s k).1.length ≤ 1000000000 := by omega
          have hbz : w.heap.size + 2 ≤ wr.heap.size := by omega
          have z3 := hN5.c1
          generalize (shrS s k).2 = bl at *
          generalize (shrS s k).1 = ls at *
          go_wp2_with fail
          go_outline
          refine (HBk.out _).mono ?_
          rintro e w3 ⟨rfl, rfl⟩
          go_wp2_with (at_builtin; go_must (refine app_rpie rfl _ _ rfl (w.heap.size + 2) (.slice qa ls.length qc) ls ((k : Int) * 512, (c.length : Int)) _ rfl rfl hoq rfl hqb hbz ?_); intro v8 w8 hown8 hb8 hg8; have hP8 := hN5.grew hg8 hsgq; obtain ⟨v8a, v8c, rfl⟩ := hown8.shape; have y1 := hP8.c1; have y2 := hP8.fz 1)
          have hR8 := hN1.grew hg8 hszq
          have hs8 := hb8.size
          have hsep8 : SepG (w.heap.size + 1) (.slice v8a (ls ++ [((k : Int) * 512, (c.length : Int))]).length v8c) := fun e => by have := (World.ownsRow.lt hown8 _ e.symm).1; omega
          have hL8 : (ls ++ [((k : Int) * 512, (c.length : Int))]).length = ls.length + 1 := by simp
          rw [hL8] at hown8 hsep8
          go_roundw
          case rel => exact ⟨k + 1, _, by rw [HN.out]; exact congrArg Value.string HC.out, by rw [HW1.out], by go_num, by omega, by rw [HN.out]; exact hown8.setOther _ _ _ hsep8, hP8.put _, hR8.setOther _ _ _ (by omega), (hb.trans (hb8.mono (by omega))).setCell (by simp) _, by simp; omega⟩
          case measure => simp [intOf]; omega
        · obtain ⟨t, p, hlp, hpe⟩ := hWY.out hw
          have HN : Hid (shrS s (k + 1) = (t ++ [(p.1, p.2 + (c.length : Int))], (shrS s k).2 ++ c)) := Lib.hid (by
            rw [HS1.out, hlp, ext_on t p _ _ hpe])
          rw [hlp] at hoq hcnt hmem
          clear HS1 hWY hWN
          obtain ⟨g, cap, rfl, hgb, hgz, x0, x1, x2, hup, cs, hcs⟩ := own_last hoq
          have hst := hup (p.2 + (c.length : Int))
          have hp := hmem.out p (by simp)
          have HST := Lib.hid hst
          have z3 := hN5.c1
          have hj1 : t.length + 1 ≤ 12 := by simp at hcnt; omega
          clear hup hst hlp hpe hcnt hmem hoq
          obtain ⟨pa, pl⟩ := p
          dsimp only at *
          generalize (shrS s k).2 = bl at *
          generalize t.length = j at *
          have e1 : IntKind.i64.wrap ((j : Int) + 1 - 1) = (j : Int) := by rw [show (j : Int) + 1 - 1 = (j : Int) by omega]; exact IntWalk.i64_in _ (by omega)
          go_wp2_with fail
          refine (HBk.out _).mono ?_
          rintro e w3 ⟨rfl, rfl⟩
          go_wp2_with fail
          go_roundw
          case rel => exact ⟨k + 1, _, by rw [HN.out]; exact congrArg Value.string HC.out, by rw [HW1.out], by go_num, by omega, by rw [HN.out]; exact HST.out, hN5.setOther _ _ _ (by omega), hN1.setOther _ _ _ (by omega), hb.setCell (by simp; omega) _, by simp; omega⟩
          case measure => simp [intOf]; omega
      · rw [hbl] at HBk
        have HS1 := Lib.hid (hSb.out hbl)
        have HW1 : Hid (wasB s (k + 1) = false) := Lib.hid (by rw [hWs.out, hbl]; rfl)
        clear hSb hSf hWs hWY hWN hcat hbl
        go_wp2_with fail
        refine (HBk.out _).mono ?_
        rintro e w3 ⟨rfl, rfl⟩
        go_wp2_with fail
        go_roundw
        case rel => exact ⟨k + 1, vq, by rw [HS1.out], by rw [HW1.out], by go_num, by omega, by rw [HS1.out]; exact hoq, hN5, hN1, hb, hz2⟩
        case measure => simp [intOf]; omega
    · have hkk : k = nB s := by omega
      subst hkk
      have hkI : ¬ ((nB s : Nat) : Int) * 512 < (s.length : Int) := by omega
      have hsq : SepG w.heap.size vq := own_sepG (by decide) hoq hN1
      obtain ⟨qa, qc, rfl⟩ := hoq.shape
      have d0 := hN5.c0
      have d1 := hN5.c1
      have b0 := hN1.c0
      have b1 := hN1.c1
      have b2 := hN1.fz 0
      have b3 := hN1.fz 1
      generalize hbl : (shrS s (nB s)).2 = bl at *
      generalize hlq : (shrS s (nB s)).1 = lq at *
      have HBL := Lib.hid hbl
      have HLQ := Lib.hid hlq
      clear hbl hlq
      go_wp2_with fail
      refine bodyPost_ret (v := .tuple #[.agg #[.int .i64 s.length, .slice qa lq.length qc], .string (S bl)]) (by simp [results, Tryd.results9, go_sem, b0, b1]) rfl ?_
      refine ⟨_, by rw [HBL.out], ?_, (hb.setCell (by simp) _).setCell (by simp) _⟩
      rw [HLQ.out]
      exact OwnR.pieV ((hoq.setOther _ _ _ hsq).setOther _ _ _ hsq)
end Go.Proofs.YtnemjfojlgjkfaaDoor
