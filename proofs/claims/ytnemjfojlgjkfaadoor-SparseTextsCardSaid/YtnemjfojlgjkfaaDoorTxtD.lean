/- The document's Parse of a map's text, walked. -/
import Derived.Test.YtnemjfojlgjkfaaDoorTxtB
import Derived.Test.YtnemjfojlgjkfaaDoorTxtC
import Derived.Test.YtnemjfojlgjkfaaDoorShrG
import Derived.Test.YtnemjfojlgjkfaaDoorSparseG
namespace Go.Proofs.YtnemjfojlgjkfaaDoor
open Go.RowKit
open Go.Lib (decDigits itoa)

/-- what the document's Parse tells: the place behind what is read -/
def RParV (s : List UInt8) (P : Int × Pcs × List UInt8 × Nat) (w : World) (e : Ending) (w' : World) : Prop :=
  ∃ v, e = .returned (.tuple #[.agg #[.int .i64 P.1, v], .int .i64 ((if P.2.2.2 = 0 then s.length - P.2.2.1.length else 0 : Nat) : Int), .int .i64 P.2.2.2]) ∧ PieV w' v P.2.1 ∧ Below w.heap.size w w'
theorem RParV.no {s : List UInt8} {w w' : World} (hb : Below w.heap.size w w') (er : Nat) (he : er ≠ 0) : RParV s (0, [], [], er) w (.returned (.tuple #[.agg #[.int .i64 0, .slice none 0 0], .int .i64 0, .int .i64 er])) w' :=
  ⟨_, by dsimp only; rw [if_neg he]; rfl, ⟨none, 0, rfl, fun h => absurd h (by simp)⟩, hb⟩
def RPieAt (w : World) (g : Nat) (x y : Int) : Prop := w.heap[g]? = some (.cells #[.int .i64 x, .int .i64 y] 58 (0, 0))
theorem RPieAt.c0 {w : World} {g : Nat} {a b : Int} (h : RPieAt w g a b) : w.cell? ⟨g, 0, none⟩ = some (.int .i64 a) := by
  unfold RPieAt at h; simp [World.cell?, h]
theorem RPieAt.c1 {w : World} {g : Nat} {a b : Int} (h : RPieAt w g a b) : w.cell? ⟨g, 1, none⟩ = some (.int .i64 b) := by
  unfold RPieAt at h; simp [World.cell?, h]
theorem RPieAt.fz {w : World} {g : Nat} {a b : Int} (h : RPieAt w g a b) (i : Nat) : w.frozen? ⟨g, i, none⟩ = false := by
  unfold RPieAt at h; simp [World.frozen?, h]
theorem RPieAt.put0 {w : World} {g : Nat} {a b : Int} (h : RPieAt w g a b) (x : Int) : RPieAt (w.setCell ⟨g, 0, none⟩ (.int .i64 x)) g x b := by
  unfold RPieAt at h ⊢
  rw [heap_setCell_same w g 0 _ _ _ h]
  rfl
theorem RPieAt.put1 {w : World} {g : Nat} {a b : Int} (h : RPieAt w g a b) (x : Int) : RPieAt (w.setCell ⟨g, 1, none⟩ (.int .i64 x)) g a x := by
  unfold RPieAt at h ⊢
  rw [heap_setCell_same w g 1 _ _ _ h]
  rfl
theorem RMapAt.put0 {w : World} {g : Nat} {a : Int} {b : Value} (h : RMapAt w g a b) (x : Int) : RMapAt (w.setCell ⟨g, 0, none⟩ (.int .i64 x)) g x b := by
  unfold RMapAt at h ⊢
  rw [heap_setCell_same w g 0 _ _ _ h]
  rfl
/-- a rest of a text lies at a place of it -/
theorem rest_drop (s r : List UInt8) (k : Nat) (hk : k ≤ s.length) (h : s.drop k = r) : s.drop (s.length - r.length) = r := by
  have : s.length - r.length = k := by rw [← h, List.length_drop]; omega
  rw [this, h]
theorem app_drop (a b x : List UInt8) (h : a ++ b = x) : x.drop a.length = b := by rw [← h, List.drop_append_of_le_length (Nat.le_refl _), List.drop_length, List.nil_append]
/-- what is behind a number is a rest of the text -/
theorem numL_rest (s r : List UInt8) (h : ∃ k, k ≤ s.length ∧ s.drop k = r) (h0 : (numL r).2.2 = 0) : ∃ k, k ≤ s.length ∧ s.drop k = (numL r).2.1 := by
  obtain ⟨k, hk, rfl⟩ := h
  have htd := tw_dw (s.drop k)
  unfold numL at h0 ⊢
  split
  · rename_i h1
    rw [if_pos h1] at h0; exact absurd h0 (by decide)
  · split
    · rename_i h1 h2
      rw [if_neg h1, if_pos h2] at h0; exact absurd h0 (by decide)
    · split
      · rename_i h1 h2 h3
        have hl := congrArg List.length htd
        rw [List.length_append, List.length_drop] at hl
        have hd : 0 < (dwC 10 (s.drop k)).length := List.length_pos_iff.2 h1
        refine ⟨k + ((twC 10 (s.drop k)).length + 1), by omega, ?_⟩
        rw [← List.drop_drop, ← List.drop_drop]
        congr 1
        exact app_drop _ _ _ htd
      · rename_i h1 h2 h3
        rw [if_neg h1, if_neg h2, if_neg h3] at h0; exact absurd h0 (by decide)
set_option maxRecDepth 100000 in
set_option maxHeartbeats 4000000 in
theorem rParse_any40 (s : List UInt8) (hs : s.length ≤ 100000) (w : World) :
    Calls Tryd.prog 24 #[.string (S s)] w (RParV s (parL s) w) := by
  have hM0 := RMapAt.new w 0 (.slice none 0 0)
  have hx0 := (Below.refl w.heap.size w).alloc (Nat.le_refl _) (.cells #[.int .i64 0, .slice none 0 0] 31)
  generalize hPP : parL s = P at *
  unfold parL at hPP
  have HNum : Hid (∀ r W, (∃ k, k ≤ s.length ∧ s.drop k = r) → Calls Tryd.prog 33 #[.string (S s), .int .i64 ((s.length - r.length : Nat) : Int)] W fun e w' => e = .returned (.tuple #[.int .i64 (numL r).1, .int .i64 ((if (numL r).2.2 = 0 then s.length - (numL r).2.1.length else 0 : Nat) : Int), .int .i64 (numL r).2.2]) ∧ W = w') := Lib.hid (fun r W h => by
    obtain ⟨k, hk, h2⟩ := h
    have hd := rest_drop s r k hk h2
    have := rNum_any s (s.length - r.length) (by omega) hs W
    rw [hd] at this
    exact this)
  have hN1 := HNum.out s
  rw [Nat.sub_self] at hN1
  have HN1 : Hid (∀ W, Calls Tryd.prog 33 #[.string (S s), .int .i64 0] W fun e w' => e = .returned (.tuple #[.int .i64 (numL s).1, .int .i64 ((if (numL s).2.2 = 0 then s.length - (numL s).2.1.length else 0 : Nat) : Int), .int .i64 (numL s).2.2]) ∧ W = w') := Lib.hid (fun W => hN1 W ⟨0, Nat.zero_le _, rfl⟩)
  have hR1 := numL_rest s s ⟨0, Nat.zero_le _, rfl⟩
  clear hN1
  obtain ⟨l1, l2⟩ := numL_lt s
  have hb5 : Below w.heap.size w ((w.alloc (.cells #[.int .i64 0, .slice none 0 0] 31)).alloc (.cells #[.int .i64 0, .slice none 0 0] 31)) := hx0.alloc hx0.size _
  have hM1 := hM0.below ((Below.refl _ _).alloc (Nat.le_refl _) (.cells #[.int .i64 0, .slice none 0 0] 31))
  have hQ1 := RMapAt.new (w.alloc (.cells #[.int .i64 0, .slice none 0 0] 31)) 0 (.slice none 0 0)
  have hz1 : (w.alloc (.cells #[.int .i64 0, .slice none 0 0] 31)).heap.size = w.heap.size + 1 := by simp
  rw [hz1] at hQ1
  have hz2 : ((w.alloc (.cells #[.int .i64 0, .slice none 0 0] 31)).alloc (.cells #[.int .i64 0, .slice none 0 0] 31)).heap.size = w.heap.size + 2 := by simp
  clear hM0 hx0 hz1
  generalize hn1 : numL s = N1 at *
  obtain ⟨n, r1, e1⟩ := N1
  dsimp only at *
  go_enter Tryd.func24, Tryd.ntmps24
  go_upto_region 2 with fail
  generalize (w.alloc (.cells #[.int .i64 0, .slice none 0 0] 31)).alloc (.cells #[.int .i64 0, .slice none 0 0] 31) = W at *
  have HZ2 := Lib.hid hz2
  clear hz2
  have b0 := hM1.c0
  have b1 := hM1.c1
  have b2 := hM1.fz 0
  have b3 := hM1.fz 1
  have a0 := hQ1.c0
  have a1 := hQ1.c1
  go_wp2_with fail
  refine (HN1.out W).mono ?_
  rintro e w1 ⟨rfl, rfl⟩
  by_cases he1 : e1 = 0
  · subst he1
    have h00 : ((0 : Nat) : Int) = 0 := rfl
    simp only [h00, if_true]
    clear h00
    rw [if_neg (by simp)] at hPP
    obtain hR1 := hR1 rfl
    by_cases hn : 4096 < n
    · rw [if_pos hn] at hPP
      have HPP := Lib.hid hPP
      have hnI : (4096 : Int) < (n : Int) := by omega
      clear hPP HNum
      go_wp2_with fail
      refine bodyPost_ret (v := .tuple #[.agg #[.int .i64 0, .slice none 0 0], .int .i64 0, .int .i64 8]) (by simp [results, Tryd.results24, go_sem, b0, b1]) rfl ?_
      rw [← HPP.out]
      exact RParV.no ((hb5.setCell (by simp) _).setCell (by simp) _) 8 (by decide)
    · rw [if_neg hn] at hPP
      have hnI : ¬ (4096 : Int) < (n : Int) := by omega
      have hnI2 : (n : Int) ≤ 4096 := by omega
      obtain ⟨l3, l4⟩ := numL_lt r1
      have hR2 := numL_rest s r1 hR1
      have hD2 := (Below.refl W.heap.size W).alloc (Nat.le_refl _) (.cells #[.int .i64 0, .slice none 0 0] 31)
      have hM2 := hM1.below hD2
      have hA2 := hQ1.below hD2
      have hQ2 := RMapAt.new W 0 (.slice none 0 0)
      rw [HZ2.out] at hQ2
      have hx2 : Below w.heap.size w (W.alloc (.cells #[.int .i64 0, .slice none 0 0] 31)) := hb5.alloc hb5.size _
      have hWz := HZ2.out
      have HN2 := Lib.hid (HNum.out r1 (W.alloc (.cells #[.int .i64 0, .slice none 0 0] 31)) hR1)
      go_upto_region 8 with fail
      clear b0 b1 b2 b3 a0 a1 hM1 hQ1 hD2 hb5
      generalize hw2 : W.alloc (.cells #[.int .i64 0, .slice none 0 0] 31) = w2 at *
      clear hw2
      try rw [hWz]
      clear hWz
      have q0 := hQ2.c0
      have q1 := hQ2.fz 0
      go_wp2_with fail
      refine HN2.out.mono ?_
      rintro e w3 ⟨rfl, rfl⟩
      generalize hn2 : numL r1 = N2 at *
      obtain ⟨sz, r2, e2⟩ := N2
      dsimp only at *
      have hM4 := hM2.setOther (w.heap.size + 2) 0 (.int .i64 sz) (by omega)
      have hA4 := hA2.setOther (w.heap.size + 2) 0 (.int .i64 sz) (by omega)
      have hQ4 := hQ2.put0 sz
      have hx4 : Below w.heap.size w (w2.setCell ⟨w.heap.size + 2, 0, none⟩ (.int .i64 sz)) := hx2.setCell (by simp) _
      go_upto_region 9 with fail
      clear hM2 hQ2 hA2 hx2 q0 q1 HN2
      generalize w2.setCell ⟨w.heap.size + 2, 0, none⟩ (.int .i64 sz) = w4 at *
      by_cases he2 : e2 = 0
      · subst he2
        have h00 : ((0 : Nat) : Int) = 0 := rfl
        simp only [h00, if_true]
        clear h00
        have hR3 := hR2 rfl
        rw [if_neg (by simp)] at hPP
        have hown0 : OwnW w4 (w.heap.size + 3) (.slice none 0 0) [] := OwnR.nil _ _ _ _ _
        have hgl := hQ4.lt
        generalize hpr : pcsL n r2 [] = PR at *
        have HPR := Lib.hid hpr
        have HPP := Lib.hid hPP
        have HR3 := Lib.hid hR3
        clear hpr hPP hgl hR3 hR2 hR1
        go_wp2_with fail
        go_loopw [7, 10] (fun v7 v10 wr => ∃ (k : Nat) (r : List UInt8) (vq : Value) (out : Pcs), v10 = .int .i64 k ∧ v7 = .int .i64 ((s.length - r.length : Nat) : Int) ∧ k ≤ n ∧ Hid (∃ k0, k0 ≤ s.length ∧ s.drop k0 = r) ∧ Hid (out.length = k) ∧ Hid (pcsL (n - k) r out = PR) ∧ OwnW wr (w.heap.size + 3) vq out ∧ RMapAt wr (w.heap.size + 2) sz vq ∧ RMapAt wr (w.heap.size + 1) 0 (.slice none 0 0) ∧ RMapAt wr w.heap.size 0 (.slice none 0 0) ∧ Below w.heap.size w wr) (fun _ v10 _ => n - (intOf v10).toNat)
        case atStart => exact ⟨0, r2, _, [], rfl, rfl, Nat.zero_le _, HR3, Lib.hid rfl, HPR, hown0, hQ4, hA4, hM4, hx4⟩
        case round =>
          clear hown0 hQ4 hM4 hA4 hx4 HPR HR3
          obtain ⟨k, r, vq, out, rfl, rfl, hk, HR, HOL, HPC, hown, hQ, hA, hM, hb⟩ := hrel
          have hol2 : out.length ≤ 4096 := by have := HOL.out; omega
          by_cases hlt : k < n
          · have hkI : (k : Int) < (n : Int) := by omega
            have hpc := HPC.out
            rw [show n - k = (n - (k + 1)) + 1 by omega, pcsL] at hpc
            have HPC2 := Lib.hid hpc
            clear hpc HPC
            have hP5 : RPieAt (wr.alloc (.cells #[.int .i64 0, .int .i64 0] 58)) wr.heap.size 0 0 := heap_alloc_new _ _
            have hB5 : Below wr.heap.size wr (wr.alloc (.cells #[.int .i64 0, .int .i64 0] 58)) := (Below.refl _ _).alloc (Nat.le_refl _) _
            have hs9 : SepG wr.heap.size vq := fun e => by have := (World.ownsRow.lt hown _ e.symm).2; omega
            have hown5 := hown.below hB5 (Nat.le_refl _)
            have hQ5 := hQ.below hB5
            have hA5 := hA.below hB5
            have hM5 := hM.below hB5
            have hb5 : Below w.heap.size w (wr.alloc (.cells #[.int .i64 0, .int .i64 0] 58)) := hb.alloc hb.size _
            have hg9 := hQ.lt
            have hgz : wr.heap.size < (wr.alloc (.cells #[.int .i64 0, .int .i64 0] 58)).heap.size := by simp
            have HNr := Lib.hid (HNum.out r (wr.alloc (.cells #[.int .i64 0, .int .i64 0] 58)) HR.out)
            have HRn := Lib.hid (numL_rest s r HR.out)
            go_upto_region 15 with fail
            clear hown hQ hA hM hb hB5 HR
            generalize wr.alloc (.cells #[.int .i64 0, .int .i64 0] 58) = w5 at *
            generalize wr.heap.size = g9 at *
            generalize hNN : numL r = NN at *
            obtain ⟨vx, rr, ee⟩ := NN
            dsimp only at *
            have q0 := hP5.c0
            have q1 := hP5.fz 0
            go_wp2_with fail
            refine HNr.out.mono ?_
            rintro e w6 ⟨rfl, rfl⟩
            have hP6 := hP5.put0 vx
            have hown6 := hown5.setOther g9 0 (.int .i64 vx) hs9
            have hQ6 := hQ5.setOther g9 0 (.int .i64 vx) (by omega)
            have hA6 := hA5.setOther g9 0 (.int .i64 vx) (by omega)
            have hM6 := hM5.setOther g9 0 (.int .i64 vx) (by omega)
            have hb6 : Below w.heap.size w (w5.setCell ⟨g9, 0, none⟩ (.int .i64 vx)) := hb5.setCell (by simp; omega) _
            have hgz6 : g9 < (w5.setCell ⟨g9, 0, none⟩ (.int .i64 vx)).heap.size := by simp; omega
            go_upto_region 16 with fail
            clear hP5 hown5 hQ5 hA5 hM5 hb5 hgz q0 q1 HNr
            generalize w5.setCell ⟨g9, 0, none⟩ (.int .i64 vx) = w7 at *
            by_cases he : ee = 0
            · subst he
              have h00 : ((0 : Nat) : Int) = 0 := rfl
              simp only [h00, if_true]
              clear h00
              have hRr := HRn.out rfl
              have HNr := Lib.hid (HNum.out rr w7 hRr)
              have HRn2 := Lib.hid (numL_rest s rr hRr)
              clear hRr
              have hpc := HPC2.out
              rw [if_neg (by simp)] at hpc
              have HPC3 := Lib.hid hpc
              clear hpc HPC2
              generalize hNN2 : numL rr = NN at *
              obtain ⟨vy, r3, e3⟩ := NN
              dsimp only at *
              have q0 := hP6.c1
              have q1 := hP6.fz 1
              go_wp2_with fail
              refine HNr.out.mono ?_
              rintro e w8 ⟨rfl, rfl⟩
              have hP8 := hP6.put1 vy
              have hown8 := hown6.setOther g9 1 (.int .i64 vy) hs9
              have hQ8 := hQ6.setOther g9 1 (.int .i64 vy) (by omega)
              have hA8 := hA6.setOther g9 1 (.int .i64 vy) (by omega)
              have hM8 := hM6.setOther g9 1 (.int .i64 vy) (by omega)
              have hb8 : Below w.heap.size w (w7.setCell ⟨g9, 1, none⟩ (.int .i64 vy)) := hb6.setCell (by simp; omega) _
              have hgz8 : g9 < (w7.setCell ⟨g9, 1, none⟩ (.int .i64 vy)).heap.size := by simp; omega
              go_upto_region 18 with fail
              clear hP6 hown6 hQ6 hA6 hM6 hb6 hgz6 q0 q1 HNr
              generalize w7.setCell ⟨g9, 1, none⟩ (.int .i64 vy) = w8 at *
              by_cases he3 : e3 = 0
              · subst he3
                have h00 : ((0 : Nat) : Int) = 0 := rfl
                simp only [h00, if_true]
                clear h00
                have HR3 := Lib.hid (HRn2.out rfl)
                have hpc := HPC3.out
                rw [if_neg (by simp)] at hpc
                have HPC4 := Lib.hid hpc
                clear hpc HPC3
                have q0 := hP8.c0
                have q1 := hP8.c1
                have q2 := hQ8.c1
                have hsep : SepG (w.heap.size + 2) vq := fun e => by have := (World.ownsRow.lt hown8 _ e.symm).1; omega
                have hsep1 : SepG (w.heap.size + 1) vq := fun e => by have := (World.ownsRow.lt hown8 _ e.symm).1; omega
                have hsep0 : SepG w.heap.size vq := fun e => by have := (World.ownsRow.lt hown8 _ e.symm).1; omega
                have hql : out.length ≤ 1000000000 := by omega
                obtain ⟨va, vc, rfl⟩ := hown8.shape
                have hbz : w.heap.size + 3 ≤ w8.heap.size := by omega
                go_wp2_with (at_builtin; go_must (refine app_rpie rfl _ _ rfl (w.heap.size + 3) (.slice va out.length vc) out ((vx : Int), (vy : Int)) _ rfl rfl hown8 rfl hql hbz ?_); intro v9 w9 hown9 hb9 hg9'; have hQ9 := hQ8.grew hg9' hsep; obtain ⟨vb, vd, rfl⟩ := hown9.shape; have y1 := hQ9.c1; have y2 := hQ9.fz 1)
                have hA9 := hA8.grew hg9' hsep1
                have hM9 := hM8.grew hg9' hsep0
                have hL8 : (out ++ [((vx : Int), (vy : Int))]).length = out.length + 1 := by simp
                have hsep8 : SepG (w.heap.size + 2) (.slice vb (out ++ [((vx : Int), (vy : Int))]).length vd) := fun e => by have := (World.ownsRow.lt hown9 _ e.symm).1; omega
                rw [hL8] at hown9 hsep8
                have hs8 := hb9.size
                go_roundw
                case rel => exact ⟨k + 1, r3, _, out ++ [((vx : Int), (vy : Int))], by go_num, rfl, hlt, HR3, Lib.hid (by simp [HOL.out]), HPC4, hown9.setOther _ _ _ hsep8, hQ9.put _, hA9.setOther _ _ _ (by omega), hM9.setOther _ _ _ (by omega), (hb8.trans (hb9.mono (by omega))).setCell (by simp) _⟩
                case measure => simp [intOf]; omega
              · have heI : ((e3 : Int) != 0) = true := by simpa using he3
                have HPE : Hid (P = (0, [], [], e3)) := Lib.hid (by
                  have h1 := HPC3.out
                  rw [if_pos he3] at h1
                  have h2 := HPP.out
                  rw [← h1, if_pos he3] at h2
                  exact h2.symm)
                have b0 := hM8.c0
                have b1 := hM8.c1
                have b2 := hM8.fz 0
                have b3 := hM8.fz 1
                have a0 := hA8.c0
                have a1 := hA8.c1
                go_wp2_with fail
                refine bodyPost_ret (v := .tuple #[.agg #[.int .i64 0, .slice none 0 0], .int .i64 0, .int .i64 e3]) (by simp [results, Tryd.results24, go_sem, b0, b1]) rfl ?_
                rw [HPE.out]
                exact RParV.no ((hb8.setCell (by simp) _).setCell (by simp) _) e3 he3
            · have heI : ((ee : Int) != 0) = true := by simpa using he
              have heI2 : ((ee : Int) == 0) = false := by simpa using he
              have HPE : Hid (P = (0, [], [], ee)) := Lib.hid (by
                have h1 := HPC2.out
                rw [if_pos he] at h1
                have h2 := HPP.out
                rw [← h1, if_pos he] at h2
                exact h2.symm)
              have b0 := hM6.c0
              have b1 := hM6.c1
              have b2 := hM6.fz 0
              have b3 := hM6.fz 1
              have a0 := hA6.c0
              have a1 := hA6.c1
              go_wp2_with fail
              refine bodyPost_ret (v := .tuple #[.agg #[.int .i64 0, .slice none 0 0], .int .i64 0, .int .i64 ee]) (by simp [results, Tryd.results24, go_sem, b0, b1]) rfl ?_
              rw [HPE.out]
              exact RParV.no ((hb6.setCell (by simp) _).setCell (by simp) _) ee he
          · have hkk : k = n := by omega
            subst hkk
            have hpc := HPC.out
            rw [Nat.sub_self, pcsL] at hpc
            subst hpc
            have hPP := HPP.out
            rw [if_neg (by simp)] at hPP
            dsimp only at hPP
            have hkI : ¬ ((k : Nat) : Int) < (k : Int) := by omega
            have q0 := hQ.c0
            have q1 := hQ.c1
            obtain ⟨va, vc, rfl⟩ := hown.shape
            have HRt := Lib.hid (rRight_any40 sz out _ wr hown.pieV)
            cases hr : mapB sz out
            · rw [hr] at HRt hPP
              rw [if_neg (by decide)] at hPP
              have HPE := Lib.hid hPP.symm
              clear hPP
              go_wp2_with fail
              refine HRt.out.mono ?_
              rintro e w7 ⟨rfl, hb7⟩
              have hM7 := hM.below hb7
              have hA7 := hA.below hb7
              have hx7 := hb.trans (hb7.mono hb.size)
              have b0 := hM7.c0
              have b1 := hM7.c1
              have b2 := hM7.fz 0
              have b3 := hM7.fz 1
              have a0 := hA7.c0
              have a1 := hA7.c1
              go_wp2_with fail
              refine bodyPost_ret (v := .tuple #[.agg #[.int .i64 0, .slice none 0 0], .int .i64 0, .int .i64 6]) (by simp [results, Tryd.results24, go_sem, b0, b1]) rfl ?_
              rw [HPE.out]
              exact RParV.no ((hx7.setCell (by simp) _).setCell (by simp) _) 6 (by decide)
            · rw [hr] at HRt hPP
              rw [if_pos rfl] at hPP
              have HPE := Lib.hid hPP
              clear hPP
              go_wp2_with fail
              refine HRt.out.mono ?_
              rintro e w7 ⟨rfl, hb7⟩
              have hM7 := hM.below hb7
              have hQ7 := hQ.below hb7
              have hown7 := hown.below hb7 (Nat.le_refl _)
              have hx7 := hb.trans (hb7.mono hb.size)
              have z0 := hM7.c0
              have z1 := hM7.c1
              have z2 := hM7.fz 0
              have z3 := hM7.fz 1
              have y0 := hQ7.c0
              have y1 := hQ7.c1
              have hsep1 : SepG w.heap.size (.slice va out.length vc) := fun e => by have := (World.ownsRow.lt hown _ e.symm).1; omega
              go_wp2_with fail
              refine bodyPost_ret (v := .tuple #[.agg #[.int .i64 sz, .slice va out.length vc], .int .i64 ((s.length - r.length : Nat) : Int), .int .i64 0]) (by simp [results, Tryd.results24, go_sem, z0, z1]) rfl ?_
              rw [← HPE.out]
              exact ⟨_, by dsimp only; rw [if_pos rfl]; rfl, OwnR.pieV ((hown7.setOther _ _ _ hsep1).setOther _ _ _ hsep1), (hx7.setCell (by simp) _).setCell (by simp) _⟩
      · rw [if_pos he2] at hPP
        have HPP := Lib.hid hPP
        have heI : ((e2 : Int) != 0) = true := by simpa using he2
        have b0 := hM4.c0
        have b1 := hM4.c1
        have b2 := hM4.fz 0
        have b3 := hM4.fz 1
        have a0 := hA4.c0
        have a1 := hA4.c1
        clear hPP HNum
        go_wp2_with fail
        refine bodyPost_ret (v := .tuple #[.agg #[.int .i64 0, .slice none 0 0], .int .i64 0, .int .i64 e2]) (by simp [results, Tryd.results24, go_sem, b0, b1]) rfl ?_
        rw [← HPP.out]
        exact RParV.no ((hx4.setCell (by simp) _).setCell (by simp) _) e2 he2
  · rw [if_pos he1] at hPP
    have HPP := Lib.hid hPP
    have heI : ((e1 : Int) != 0) = true := by simpa using he1
    clear hPP HNum
    go_wp2_with fail
    refine bodyPost_ret (v := .tuple #[.agg #[.int .i64 0, .slice none 0 0], .int .i64 0, .int .i64 e1]) (by simp [results, Tryd.results24, go_sem, b0, b1]) rfl ?_
    rw [← HPP.out]
    exact RParV.no ((hb5.setCell (by simp) _).setCell (by simp) _) e1 he1
end Go.Proofs.YtnemjfojlgjkfaaDoor
