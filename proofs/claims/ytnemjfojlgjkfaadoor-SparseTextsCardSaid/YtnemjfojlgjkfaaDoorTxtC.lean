/- sparse.Parse, walked. -/
import Derived.Test.YtnemjfojlgjkfaaDoorTxtA
import Derived.Test.YtnemjfojlgjkfaaDoorShrE
import Derived.Test.YtnemjfojlgjkfaaDoorShrB
namespace Go.Proofs.YtnemjfojlgjkfaaDoor
open Go.RowKit
open Go.Lib (decDigits itoa)

/-- what Parse tells -/
def ParV (P : Int × Pcs × List UInt8 × Nat) (w : World) (e : Ending) (w' : World) : Prop :=
  ∃ v, e = .returned (.tuple #[.agg #[.int .i64 P.1, v], .string (S P.2.2.1), .int .i64 P.2.2.2]) ∧ PieV w' v P.2.1 ∧ Below w.heap.size w w'
theorem ParV.no {w w' : World} (hb : Below w.heap.size w w') (er : Nat) : ParV (0, [], [], er) w (.returned (.tuple #[.agg #[.int .i64 0, .slice none 0 0], .string (S []), .int .i64 er])) w' :=
  ⟨_, rfl, ⟨none, 0, rfl, fun h => absurd h (by simp)⟩, hb⟩
/-- a piece lies at a block -/
def PieAt (w : World) (g : Nat) (x y : Int) : Prop := w.heap[g]? = some (.cells #[.int .i64 x, .int .i64 y] 57 (0, 0))
theorem PieAt.c0 {w : World} {g : Nat} {a b : Int} (h : PieAt w g a b) : w.cell? ⟨g, 0, none⟩ = some (.int .i64 a) := by
  unfold PieAt at h; simp [World.cell?, h]
theorem PieAt.c1 {w : World} {g : Nat} {a b : Int} (h : PieAt w g a b) : w.cell? ⟨g, 1, none⟩ = some (.int .i64 b) := by
  unfold PieAt at h; simp [World.cell?, h]
theorem PieAt.fz {w : World} {g : Nat} {a b : Int} (h : PieAt w g a b) (i : Nat) : w.frozen? ⟨g, i, none⟩ = false := by
  unfold PieAt at h; simp [World.frozen?, h]
theorem PieAt.lt {w : World} {g : Nat} {a b : Int} (h : PieAt w g a b) : g < w.heap.size := (Array.getElem?_eq_some_iff.1 h).1
theorem PieAt.put0 {w : World} {g : Nat} {a b : Int} (h : PieAt w g a b) (x : Int) : PieAt (w.setCell ⟨g, 0, none⟩ (.int .i64 x)) g x b := by
  unfold PieAt at h ⊢
  rw [heap_setCell_same w g 0 _ _ _ h]
  rfl
theorem PieAt.put1 {w : World} {g : Nat} {a b : Int} (h : PieAt w g a b) (x : Int) : PieAt (w.setCell ⟨g, 1, none⟩ (.int .i64 x)) g a x := by
  unfold PieAt at h ⊢
  rw [heap_setCell_same w g 1 _ _ _ h]
  rfl
theorem MapAt.put0 {w : World} {g : Nat} {a : Int} {b : Value} (h : MapAt w g a b) (x : Int) : MapAt (w.setCell ⟨g, 0, none⟩ (.int .i64 x)) g x b := by
  unfold MapAt at h ⊢
  rw [heap_setCell_same w g 0 _ _ _ h]
  rfl
/-- how far a piece is read -/
def StP (r : List UInt8) : Nat → List UInt8 → Int → Int → Prop
  | 0, r', x, y => r' = r ∧ x = 0 ∧ y = 0
  | 1, r', x, y => (numL r).2.2 = 0 ∧ r' = (numL r).2.1 ∧ x = (numL r).1 ∧ y = 0
  | 2, r', x, y => (numL r).2.2 = 0 ∧ (numL (numL r).2.1).2.2 = 0 ∧ r' = (numL (numL r).2.1).2.1 ∧ x = (numL r).1 ∧ y = (numL (numL r).2.1).1
  | _, _, _, _ => False
theorem pcsL_len : ∀ (n : Nat) (r : List UInt8) (out : Pcs), (pcsL n r out).2.1.length ≤ r.length
  | 0, r, out => Nat.le_refl _
  | n + 1, r, out => by
    rw [pcsL]
    split
    · exact Nat.zero_le _
    · split
      · exact Nat.zero_le _
      · have h1 := pcsL_len n (numL (numL r).2.1).2.1 (out ++ [(((numL r).1 : Int), ((numL (numL r).2.1).1 : Int))])
        have h2 := (numL_lt r).2
        have h3 := (numL_lt (numL r).2.1).2
        omega
set_option maxRecDepth 100000 in
set_option maxHeartbeats 4000000 in
theorem sParse_any (s : List UInt8) (hs : s.length ≤ 100000) (w : World) :
    Calls Tryd.prog 22 #[.string (S s)] w (ParV (parL s) w) := by
  have hM0 := MapAt.new w 0 (.slice none 0 0)
  have hx0 := (Below.refl w.heap.size w).alloc (Nat.le_refl _) (.cells #[.int .i64 0, .slice none 0 0] 25)
  have hP : parL s = parL s := rfl
  generalize hPP : parL s = P at *
  clear hP
  unfold parL at hPP
  have HNum : Hid (∀ r W, r.length ≤ 100000 → Calls Tryd.prog 31 #[.string (S r)] W fun e w' => e = .returned (.tuple #[.int .i64 (numL r).1, .string (S (numL r).2.1), .int .i64 (numL r).2.2]) ∧ ∃ m, w' = W.drewN m) := Lib.hid (fun r W h => sNum_any r h W)
  have HN1 := Lib.hid (HNum.out s (w.alloc (.cells #[.int .i64 0, .slice none 0 0] 25)) hs)
  obtain ⟨l1, l2⟩ := numL_lt s
  have b0 := hM0.c0
  have b1 := hM0.c1
  have b2 := hM0.fz 0
  have b3 := hM0.fz 1
  generalize hn1 : numL s = N1 at *
  obtain ⟨n, r1, e1⟩ := N1
  dsimp only at *
  by_cases he1 : e1 = 0
  · subst he1
    rw [if_neg (by simp)] at hPP
    by_cases hn : 4096 < n
    · rw [if_pos hn] at hPP
      have HPP := Lib.hid hPP
      have hnI : (4096 : Int) < (n : Int) := by omega
      clear hPP HNum
      go_enter Tryd.func22, Tryd.ntmps22
      go_upto_region 1 with fail
      generalize w.alloc (.cells #[.int .i64 0, .slice none 0 0] 25) = W at *
      go_wp2_with fail
      refine HN1.out.mono ?_
      rintro e w1 ⟨rfl, m, rfl⟩
      go_wp2_with fail
      refine bodyPost_ret (v := .tuple #[.agg #[.int .i64 0, .slice none 0 0], .string (S []), .int .i64 8]) (by simp [results, Tryd.results22, go_sem, b0, b1]; rfl) rfl ?_
      rw [← HPP.out]
      exact ParV.no (((belowDrewN hx0).setCell (by simp) _).setCell (by simp) _) 8
    · rw [if_neg hn] at hPP
      have hnI : ¬ (4096 : Int) < (n : Int) := by omega
      have hnI2 : (n : Int) ≤ 4096 := by omega
      obtain ⟨l3, l4⟩ := numL_lt r1
      go_enter Tryd.func22, Tryd.ntmps22
      go_upto_region 1 with fail
      generalize w.alloc (.cells #[.int .i64 0, .slice none 0 0] 25) = W at *
      go_wp2_with fail
      refine HN1.out.mono ?_
      rintro e w1 ⟨rfl, m, rfl⟩
      have hD1 : Below W.heap.size W (W.drewN m) := belowDrewN (Below.refl _ _)
      have hM1 := hM0.below hD1
      have hx1 := hx0.trans (hD1.mono hx0.size)
      clear hD1 HN1 hM0 hx0 b0 b1 b2 b3
      generalize W.drewN m = w1 at *
      have hD2 := (Below.refl w1.heap.size w1).alloc (Nat.le_refl _) (.cells #[.int .i64 0, .slice none 0 0] 25)
      have hM2 := hM1.below hD2
      have hQ2 := MapAt.new w1 0 (.slice none 0 0)
      have hx2 : Below w.heap.size w (w1.alloc (.cells #[.int .i64 0, .slice none 0 0] 25)) := hx1.alloc hx1.size _
      have hg8 := hM1.lt
      clear hD2 hM1 hx1
      go_upto_region 7 with fail
      generalize w1.alloc (.cells #[.int .i64 0, .slice none 0 0] 25) = w2 at *
      generalize w1.heap.size = g8 at *
      have HN2 := Lib.hid (HNum.out r1 w2 (by omega))
      go_wp2_with fail
      refine HN2.out.mono ?_
      rintro e w3 ⟨rfl, m3, rfl⟩
      have hD3 : Below w2.heap.size w2 (w2.drewN m3) := belowDrewN (Below.refl _ _)
      have hM3 := hM2.below hD3
      have hQ3 := hQ2.below hD3
      have hx3 := hx2.trans (hD3.mono hx2.size)
      clear hD3 hM2 hQ2 hx2 HN2
      generalize w2.drewN m3 = w3 at *
      generalize hn2 : numL r1 = N2 at *
      obtain ⟨sz, r2, e2⟩ := N2
      dsimp only at *
      have q0 := hQ3.c0
      have q1 := hQ3.fz 0
      have hM4 := hM3.setOther g8 0 (.int .i64 sz) (by omega)
      have hQ4 := hQ3.put0 sz
      have hx4 : Below w.heap.size w (w3.setCell ⟨g8, 0, none⟩ (.int .i64 sz)) := hx3.setCell (by simp; omega) _
      go_upto_region 8 with fail
      clear hM3 hQ3 hx3 q0 q1
      generalize w3.setCell ⟨g8, 0, none⟩ (.int .i64 sz) = w4 at *
      by_cases he2 : e2 = 0
      · subst he2
        have h00 : ((0 : Nat) : Int) = 0 := rfl
        simp only [h00]
        clear h00
        rw [if_neg (by simp)] at hPP
        have hown0 : OwnQ w4 (g8 + 1) (.slice none 0 0) [] := OwnR.nil _ _ _ _ _
        have hgl := hQ4.lt
        generalize hpr : pcsL n r2 [] = PR at *
        have HPR := Lib.hid hpr
        have HPP := Lib.hid hPP
        clear hpr hPP hgl
        go_wp2_with fail
        go_loopw [6, 39] (fun v6 v39 wr => ∃ (k : Nat) (r : List UInt8) (vq : Value) (out : Pcs), v39 = .int .i64 k ∧ v6 = .string (S r) ∧ k ≤ n ∧ r.length ≤ 100000 ∧ out.length = k ∧ Hid (pcsL (n - k) r out = PR) ∧ OwnQ wr (g8 + 1) vq out ∧ MapAt wr g8 sz vq ∧ MapAt wr w.heap.size 0 (.slice none 0 0) ∧ Below w.heap.size w wr) (fun _ v39 _ => n - (intOf v39).toNat)
        case atStart => exact ⟨0, r2, _, [], rfl, rfl, Nat.zero_le _, by omega, rfl, HPR, hown0, hQ4, hM4, hx4⟩
        case round =>
          clear hown0 hQ4 hM4 hx4 HPR
          obtain ⟨k, r, vq, out, rfl, rfl, hk, hrl, hol, HPC, hown, hQ, hM, hb⟩ := hrel
          have hol2 : out.length ≤ 4096 := by omega
          have HOL := Lib.hid hol
          clear hol
          by_cases hlt : k < n
          · have hkI : (k : Int) < (n : Int) := by omega
            have hpc := HPC.out
            rw [show n - k = (n - (k + 1)) + 1 by omega, pcsL] at hpc
            have HPC2 := Lib.hid hpc
            clear hpc HPC
            -- a new piece, and the pointers to its two parts
            have hsz0 := hb.size
            have hw5 : (wr.alloc (.cells #[.int .i64 0, .int .i64 0] 57)).heap.size = wr.heap.size + 1 := by simp
            have hP5 : PieAt (wr.alloc (.cells #[.int .i64 0, .int .i64 0] 57)) wr.heap.size 0 0 := heap_alloc_new _ _
            have hB5 : Below wr.heap.size wr (wr.alloc (.cells #[.int .i64 0, .int .i64 0] 57)) := (Below.refl _ _).alloc (Nat.le_refl _) _
            have hownlt : ∀ b, vq.ownBlock = some b → b < wr.heap.size := fun b h => (World.ownsRow.lt hown b h).2
            have hs9 : SepG wr.heap.size vq := fun e => by have := hownlt _ e.symm; omega
            have hown5 := hown.below hB5 (Nat.le_refl _)
            have hQ5 := hQ.below hB5
            have hM5 := hM.below hB5
            have hb5 : Below w.heap.size w (wr.alloc (.cells #[.int .i64 0, .int .i64 0] 57)) := hb.alloc hb.size _
            have hg9 := hQ.lt
            go_upto_region 13 with fail
            clear hown hQ hM hb hB5 hownlt
            generalize wr.alloc (.cells #[.int .i64 0, .int .i64 0] 57) = w5 at *
            generalize wr.heap.size = g9 at *
            have hB6 : Below w5.heap.size w5 (w5.alloc (.cells #[.pointer (some ⟨g9, 0, none⟩), .pointer (some ⟨g9, 1, none⟩)] 65)) := (Below.refl _ _).alloc (Nat.le_refl _) _
            have hP6 : PieAt (w5.alloc (.cells #[.pointer (some ⟨g9, 0, none⟩), .pointer (some ⟨g9, 1, none⟩)] 65)) g9 0 0 := (hB6.block g9 hP5.lt).trans hP5
            have hown6 := hown5.below hB6 (Nat.le_refl _)
            have hQ6 := hQ5.below hB6
            have hM6 := hM5.below hB6
            have hb6 : Below w.heap.size w (w5.alloc (.cells #[.pointer (some ⟨g9, 0, none⟩), .pointer (some ⟨g9, 1, none⟩)] 65)) := hb5.alloc hb5.size _
            have hp0 : (w5.alloc (.cells #[.pointer (some ⟨g9, 0, none⟩), .pointer (some ⟨g9, 1, none⟩)] 65)).cell? ⟨w5.heap.size, 0, none⟩ = some (.pointer (some ⟨g9, 0, none⟩)) := by simp
            have hp1 : (w5.alloc (.cells #[.pointer (some ⟨g9, 0, none⟩), .pointer (some ⟨g9, 1, none⟩)] 65)).cell? ⟨w5.heap.size, 1, none⟩ = some (.pointer (some ⟨g9, 1, none⟩)) := by simp
            have hgp : g9 < w5.heap.size := hP5.lt
            have hgz6 : w5.heap.size < (w5.alloc (.cells #[.pointer (some ⟨g9, 0, none⟩), .pointer (some ⟨g9, 1, none⟩)] 65)).heap.size := by simp
            go_wp2_with fail
            rw [hw5] at hp0 hp1 hgz6
            clear hown5 hQ5 hM5 hb5 hB6 hP5
            generalize w5.alloc (.cells #[.pointer (some ⟨g9, 0, none⟩), .pointer (some ⟨g9, 1, none⟩)] 65) = w6 at *
            clear hw5 hgp
            go_loopw [6, 45] (fun v6 v45 wy => ∃ (j : Nat) (r' : List UInt8) (x y : Int), v45 = .int .i64 j ∧ v6 = .string (S r') ∧ j ≤ 2 ∧ r'.length ≤ 100000 ∧ Hid (StP r j r' x y) ∧ PieAt wy g9 x y ∧ OwnQ wy (g8 + 1) vq out ∧ MapAt wy g8 sz vq ∧ MapAt wy w.heap.size 0 (.slice none 0 0) ∧ (wy.cell? ⟨g9 + 1, 0, none⟩ = some (.pointer (some ⟨g9, 0, none⟩)) ∧ wy.cell? ⟨g9 + 1, 1, none⟩ = some (.pointer (some ⟨g9, 1, none⟩))) ∧ Below w.heap.size w wy ∧ g9 + 1 < wy.heap.size) (fun _ v45 _ => 2 - (intOf v45).toNat)
            case atStart => exact ⟨0, r, 0, 0, rfl, rfl, Nat.zero_le _, hrl, Lib.hid ⟨rfl, rfl, rfl⟩, hP6, hown6, hQ6, hM6, ⟨hp0, hp1⟩, hb6, hgz6⟩
            case round =>
              clear hP6 hown6 hQ6 hM6 hp0 hp1 hb6 hgz6
              obtain ⟨j, r', x, y, rfl, rfl, hj, hrl', HST, hP, hown, hQ, hM, ⟨hp0, hp1⟩, hb, hgz⟩ := hrel
              by_cases hjl : j < 2
              · have hn' := numL_lt r'
                have HNr := Lib.hid (HNum.out r' wr hrl')
                obtain rfl | rfl : j = 0 ∨ j = 1 := by omega
                · obtain ⟨rfl, rfl, rfl⟩ := HST.out
                  obtain ⟨hb1', hb2'⟩ := hn'
                  have HERR : Hid ((numL r').2.2 ≠ 0 → P = (0, [], [], (numL r').2.2)) := Lib.hid (fun h => by
                    have h1 := HPC2.out
                    rw [if_pos h] at h1
                    have h2 := HPP.out
                    rw [← h1, if_pos h] at h2
                    exact h2.symm)
                  have HNXT : Hid ((numL r').2.2 = 0 → StP r' 1 (numL r').2.1 (numL r').1 0) := Lib.hid (fun h => ⟨h, rfl, rfl, rfl⟩)
                  generalize hNN : numL r' = NN at *
                  obtain ⟨vv, rr, ee⟩ := NN
                  dsimp only at *
                  clear HST hNN
                  go_wp2_with fail
                  refine HNr.out.mono ?_
                  rintro e w7 ⟨rfl, m7, rfl⟩
                  have hD7 : Below wr.heap.size wr (wr.drewN m7) := belowDrewN (Below.refl _ _)
                  have hP7 : PieAt (wr.drewN m7) g9 _ _ := (hD7.block g9 hP.lt).trans hP
                  have hown7 := hown.below hD7 (Nat.le_refl _)
                  have hQ7 := hQ.below hD7
                  have hM7 := hM.below hD7
                  have hp07 := (hD7.cell (p := ⟨g9 + 1, 0, none⟩) hgz).trans hp0
                  have hp17 := (hD7.cell (p := ⟨g9 + 1, 1, none⟩) hgz).trans hp1
                  have hb7 := hb.trans (hD7.mono hb.size)
                  have hgz7 : g9 + 1 < (wr.drewN m7).heap.size := by have := hD7.size; omega
                  have q0 := hP7.c0
                  have q1 := hP7.fz 0
                  clear hP hown hQ hM hp0 hp1 hb hgz hD7 HNr
                  generalize wr.drewN m7 = w7 at *
                  by_cases he : ee = 0
                  · have heI : ((ee : Int) != 0) = false := by rw [he]; rfl
                    go_wp2_with fail
                    go_roundw
                    case rel => exact ⟨1, _, _, _, by go_num, rfl, by omega, by omega, Lib.hid (HNXT.out he), hP7.put0 _, hown7.setOther _ _ _ hs9, hQ7.setOther _ _ _ (by omega), hM7.setOther _ _ _ (by omega), ⟨(World.cell?_of_block (a := ⟨g9 + 1, 0, none⟩) (heap_setCell_other _ _ (g9 + 1) _ (show g9 + 1 ≠ g9 by omega))).trans hp07, (World.cell?_of_block (a := ⟨g9 + 1, 1, none⟩) (heap_setCell_other _ _ (g9 + 1) _ (show g9 + 1 ≠ g9 by omega))).trans hp17⟩, hb7.setCell (by simp; omega) _, by simp; omega⟩
                    case measure => simp [intOf]
                  · have heI : ((ee : Int) != 0) = true := by simpa using he
                    have HPE := Lib.hid (HERR.out he)
                    have hM8 := hM7.setOther g9 0 (.int .i64 vv) (by omega)
                    have hb8 : Below w.heap.size w (w7.setCell ⟨g9, 0, none⟩ (.int .i64 vv)) := hb7.setCell (by simp; omega) _
                    have z0 := hM8.c0
                    have z1 := hM8.c1
                    have z2 := hM8.fz 0
                    have z3 := hM8.fz 1
                    go_upto_region 17 with fail
                    generalize w7.setCell ⟨g9, 0, none⟩ (.int .i64 vv) = w8 at *
                    go_wp2_with fail
                    refine bodyPost_ret (v := .tuple #[.agg #[.int .i64 0, .slice none 0 0], .string (S []), .int .i64 ee]) (by simp [results, Tryd.results22, go_sem, z0, z1]; rfl) rfl ?_
                    rw [HPE.out]
                    exact ParV.no ((hb8.setCell (by simp) _).setCell (by simp) _) ee
                · obtain ⟨ha, rfl, rfl, rfl⟩ := HST.out
                  obtain ⟨hb1', hb2'⟩ := hn'
                  have HERR : Hid ((numL (numL r).2.1).2.2 ≠ 0 → P = (0, [], [], (numL (numL r).2.1).2.2)) := Lib.hid (fun h => by
                    have h1 := HPC2.out
                    rw [if_neg (by rw [ha]; decide), if_pos h] at h1
                    have h2 := HPP.out
                    rw [← h1, if_pos h] at h2
                    exact h2.symm)
                  have HNXT : Hid ((numL (numL r).2.1).2.2 = 0 → StP r 2 (numL (numL r).2.1).2.1 (numL r).1 (numL (numL r).2.1).1) := Lib.hid (fun h => ⟨ha, h, rfl, rfl, rfl⟩)
                  clear ha
                  generalize hNN : numL (numL r).2.1 = NN at *
                  obtain ⟨vv, rr, ee⟩ := NN
                  dsimp only at *
                  clear HST hNN
                  go_wp2_with fail
                  refine HNr.out.mono ?_
                  rintro e w7 ⟨rfl, m7, rfl⟩
                  have hD7 : Below wr.heap.size wr (wr.drewN m7) := belowDrewN (Below.refl _ _)
                  have hP7 : PieAt (wr.drewN m7) g9 _ _ := (hD7.block g9 hP.lt).trans hP
                  have hown7 := hown.below hD7 (Nat.le_refl _)
                  have hQ7 := hQ.below hD7
                  have hM7 := hM.below hD7
                  have hp07 := (hD7.cell (p := ⟨g9 + 1, 0, none⟩) hgz).trans hp0
                  have hp17 := (hD7.cell (p := ⟨g9 + 1, 1, none⟩) hgz).trans hp1
                  have hb7 := hb.trans (hD7.mono hb.size)
                  have hgz7 : g9 + 1 < (wr.drewN m7).heap.size := by have := hD7.size; omega
                  have q0 := hP7.c1
                  have q1 := hP7.fz 1
                  clear hP hown hQ hM hp0 hp1 hb hgz hD7 HNr
                  generalize wr.drewN m7 = w7 at *
                  by_cases he : ee = 0
                  · have heI : ((ee : Int) != 0) = false := by rw [he]; rfl
                    go_wp2_with fail
                    go_roundw
                    case rel => exact ⟨2, _, _, _, by go_num, rfl, by omega, by omega, Lib.hid (HNXT.out he), hP7.put1 _, hown7.setOther _ _ _ hs9, hQ7.setOther _ _ _ (by omega), hM7.setOther _ _ _ (by omega), ⟨(World.cell?_of_block (a := ⟨g9 + 1, 0, none⟩) (heap_setCell_other _ _ (g9 + 1) _ (show g9 + 1 ≠ g9 by omega))).trans hp07, (World.cell?_of_block (a := ⟨g9 + 1, 1, none⟩) (heap_setCell_other _ _ (g9 + 1) _ (show g9 + 1 ≠ g9 by omega))).trans hp17⟩, hb7.setCell (by simp; omega) _, by simp; omega⟩
                    case measure => simp [intOf]
                  · have heI : ((ee : Int) != 0) = true := by simpa using he
                    have HPE := Lib.hid (HERR.out he)
                    have hM8 := hM7.setOther g9 1 (.int .i64 vv) (by omega)
                    have hb8 : Below w.heap.size w (w7.setCell ⟨g9, 1, none⟩ (.int .i64 vv)) := hb7.setCell (by simp; omega) _
                    have z0 := hM8.c0
                    have z1 := hM8.c1
                    have z2 := hM8.fz 0
                    have z3 := hM8.fz 1
                    go_upto_region 17 with fail
                    generalize w7.setCell ⟨g9, 1, none⟩ (.int .i64 vv) = w8 at *
                    go_wp2_with fail
                    refine bodyPost_ret (v := .tuple #[.agg #[.int .i64 0, .slice none 0 0], .string (S []), .int .i64 ee]) (by simp [results, Tryd.results22, go_sem, z0, z1]; rfl) rfl ?_
                    rw [HPE.out]
                    exact ParV.no ((hb8.setCell (by simp) _).setCell (by simp) _) ee
              · have hj2 : j = 2 := by omega
                subst hj2
                obtain ⟨ha, hbb, rfl, rfl, rfl⟩ := HST.out
                have hpc : pcsL (n - (k + 1)) (numL (numL r).2.1).2.1 (out ++ [(((numL r).1 : Int), ((numL (numL r).2.1).1 : Int))]) = PR := by
                  have h1 := HPC2.out
                  rw [if_neg (by rw [ha]; decide), if_neg (by rw [hbb]; decide)] at h1
                  exact h1
                have HPC3 := Lib.hid hpc
                clear HST HPC2 hpc ha hbb
                generalize (numL (numL r).2.1).2.1 = r3 at *
                generalize (numL (numL r).2.1).1 = vy at *
                generalize (numL r).1 = vx at *
                have q0 := hP.c0
                have q1 := hP.c1
                have q2 := hQ.c1
                have hsep : SepG g8 vq := fun e => by have := (World.ownsRow.lt hown _ e.symm).1; omega
                have hsep1 : SepG w.heap.size vq := fun e => by have := (World.ownsRow.lt hown _ e.symm).1; omega
                have hql : out.length ≤ 1000000000 := by omega
                obtain ⟨va, vc, rfl⟩ := hown.shape
                have hbz : g8 + 1 ≤ wr.heap.size := by omega
                go_wp2_with (at_builtin; go_must (refine app_pie rfl _ _ rfl (g8 + 1) (.slice va out.length vc) out ((vx : Int), (vy : Int)) _ rfl rfl hown rfl hql hbz ?_); intro v8 w8 hown8 hb8 hg8'; have hQ8 := hQ.grew hg8' hsep; obtain ⟨vb, vd, rfl⟩ := hown8.shape; have y1 := hQ8.c1; have y2 := hQ8.fz 1)
                have hM8 := hM.grew hg8' hsep1
                have hL8 : (out ++ [((vx : Int), (vy : Int))]).length = out.length + 1 := by simp
                have hsep8 : SepG g8 (.slice vb (out ++ [((vx : Int), (vy : Int))]).length vd) := fun e => by have := (World.ownsRow.lt hown8 _ e.symm).1; omega
                rw [hL8] at hown8 hsep8
                have hs8 := hb8.size
                go_roundw
                case rel => exact ⟨k + 1, r3, _, out ++ [((vx : Int), (vy : Int))], by go_num, rfl, hlt, hrl', by simp [HOL.out], HPC3, hown8.setOther _ _ _ hsep8, hQ8.put _, hM8.setOther _ _ _ (by omega), (hb.trans (hb8.mono (by omega))).setCell (by simp; omega) _⟩
                case measure => simp [intOf]; omega
          · have hkk : k = n := by omega
            subst hkk
            have hpc := HPC.out
            rw [Nat.sub_self, pcsL] at hpc
            subst hpc
            have hPP := HPP.out
            rw [if_neg (by simp)] at hPP
            dsimp only at hPP
            have hkI : ¬ ((k : Nat) : Int) < (k : Int) := by omega
            have q0 := hQ.c0
            have q1 := hQ.c1
            obtain ⟨va, vc, rfl⟩ := hown.shape
            have HRt := Lib.hid (Right_any sz out _ wr hown.pieV)
            cases hr : mapB sz out
            · rw [hr] at HRt hPP
              rw [if_neg (by decide)] at hPP
              have HPE := Lib.hid hPP
              clear hPP
              go_wp2_with fail
              refine HRt.out.mono ?_
              rintro e w7 ⟨rfl, hb7⟩
              have hM7 := hM.below hb7
              have hx7 := hb.trans (hb7.mono hb.size)
              have z0 := hM7.c0
              have z1 := hM7.c1
              have z2 := hM7.fz 0
              have z3 := hM7.fz 1
              go_wp2_with fail
              refine bodyPost_ret (v := .tuple #[.agg #[.int .i64 0, .slice none 0 0], .string (S []), .int .i64 6]) (by simp [results, Tryd.results22, go_sem, z0, z1]; rfl) rfl ?_
              rw [← HPE.out]
              exact ParV.no ((hx7.setCell (by simp) _).setCell (by simp) _) 6
            · rw [hr] at HRt hPP
              rw [if_pos rfl] at hPP
              have HPE := Lib.hid hPP
              clear hPP
              go_wp2_with fail
              refine HRt.out.mono ?_
              rintro e w7 ⟨rfl, hb7⟩
              have hM7 := hM.below hb7
              have hQ7 := hQ.below hb7
              have hown7 := hown.below hb7 (Nat.le_refl _)
              have hx7 := hb.trans (hb7.mono hb.size)
              have z0 := hM7.c0
              have z1 := hM7.c1
              have z2 := hM7.fz 0
              have z3 := hM7.fz 1
              have y0 := hQ7.c0
              have y1 := hQ7.c1
              have hsep1 : SepG w.heap.size (.slice va out.length vc) := fun e => by have := (World.ownsRow.lt hown _ e.symm).1; omega
              go_wp2_with fail
              refine bodyPost_ret (v := .tuple #[.agg #[.int .i64 sz, .slice va out.length vc], .string (S r), .int .i64 0]) (by simp [results, Tryd.results22, go_sem, z0, z1]) rfl ?_
              rw [← HPE.out]
              exact ⟨_, rfl, OwnR.pieV ((hown7.setOther _ _ _ hsep1).setOther _ _ _ hsep1), (hx7.setCell (by simp) _).setCell (by simp) _⟩
      · rw [if_pos he2] at hPP
        have HPP := Lib.hid hPP
        have heI : ((e2 : Int) != 0) = true := by simpa using he2
        have b0 := hM4.c0
        have b1 := hM4.c1
        have b2 := hM4.fz 0
        have b3 := hM4.fz 1
        clear hPP HNum
        go_wp2_with fail
        refine bodyPost_ret (v := .tuple #[.agg #[.int .i64 0, .slice none 0 0], .string (S []), .int .i64 e2]) (by simp [results, Tryd.results22, go_sem, b0, b1]; rfl) rfl ?_
        rw [← HPP.out]
        exact ParV.no ((hx4.setCell (by simp) _).setCell (by simp) _) e2
  · rw [if_pos he1] at hPP
    have HPP := Lib.hid hPP
    have heI : ((e1 : Int) != 0) = true := by simpa using he1
    clear hPP HNum
    go_enter Tryd.func22, Tryd.ntmps22
    go_upto_region 1 with fail
    generalize w.alloc (.cells #[.int .i64 0, .slice none 0 0] 25) = W at *
    go_wp2_with fail
    refine HN1.out.mono ?_
    rintro e w1 ⟨rfl, m, rfl⟩
    go_wp2_with fail
    refine bodyPost_ret (v := .tuple #[.agg #[.int .i64 0, .slice none 0 0], .string (S []), .int .i64 e1]) (by simp [results, Tryd.results22, go_sem, b0, b1]; rfl) rfl ?_
    rw [← HPP.out]
    exact ParV.no (((belowDrewN hx0).setCell (by simp) _).setCell (by simp) _) e1
end Go.Proofs.YtnemjfojlgjkfaaDoor
