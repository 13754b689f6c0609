/- The law WhenTexts: a stamp whose day may be; and all of it. -/
import Derived.Test.YtjaiadfpdkjkpaaDoorWhenM
namespace Go.Proofs.YtjaiadfpdkjkpaaDoor
open Go.RowKit Go.Lib

set_option maxRecDepth 100000 in
set_option maxHeartbeats 1000000 in
theorem lawTexts_ok (s n : Int) (w : World) (hr : rightB s n = true) (hq0 : -719162 ≤ s / 86400) (hq1 : s / 86400 ≤ 2932896) (hT : TB w.heap.size w) :
    Calls Tryd.prog 8 #[.agg #[.int .i64 s, .int .i64 n]] w fun e w' => e = .returned (.bool true) ∧ Below w.heap.size w w' := by
  obtain ⟨g1, g2, g3, g4⟩ := (right_iff s n).1 hr
  have hB0 := (Below.refl w.heap.size w).alloc (Nat.le_refl _) (.cells #[.int .i64 s, .int .i64 n] 41)
  have HT1 := Lib.hid (fun W hT => wText_ok s n hr hq0 hq1 W hT)
  have HR := Lib.hid (show ∀ W : World, Calls Tryd.prog 26 #[.int .i64 s, .int .i64 n] W fun e w' => e = .returned (.bool true) ∧ w' = W from fun W => by rw [← hr]; exact rRight_any s n W)
  have N1 := Lib.hid (show ∀ W : World, Calls Tryd.prog 28 #[.int .i64 1, .int .i64 1, .int .i64 1] W fun e w' => e = .returned (.int .i64 (-719162)) ∧ W = w' from fun W => by rw [← num_first]; exact rnum_any 1 1 1 W (by decide) (by decide) (by decide) (by decide) (by decide) (by decide))
  have N2 := Lib.hid (show ∀ W : World, Calls Tryd.prog 28 #[.int .i64 9999, .int .i64 12, .int .i64 31] W fun e w' => e = .returned (.int .i64 2932896) ∧ W = w' from fun W => by rw [← num_last]; exact rnum_any 9999 12 31 W (by decide) (by decide) (by decide) (by decide) (by decide) (by decide))
  have HA := Lib.hid (StAt.new w s n)
  have hs0 : -62135596800 ≤ s := by omega
  have hs1 : s ≤ 253402300799 := by omega
  have hR0 : 0 ≤ s % 86400 := by omega
  have hR1 : (s % 86400).toNat < 86400 := by omega
  have hsr : s = 86400 * (s / 86400) + ((s % 86400).toNat : Int) := by omega
  have HSR := Lib.hid hsr
  have HR1 := Lib.hid hR1
  have hn4 : n.toNat < 1000000000 := by omega
  have HN4 := Lib.hid hn4
  have hnn : (n.toNat : Int) = n := by omega
  have HNN := Lib.hid hnn
  clear hr hR0 hsr hR1 hn4 hnn
  generalize (s % 86400).toNat = R at *
  generalize s / 86400 = q at *
  have hTB := hT.up hB0 hB0.size
  go_enter Tryd.func8, Tryd.ntmps8
  go_wp2_with fail
  refine (HT1.out _ hTB).mono ?_
  rintro e w1 ⟨⟨Y, M, D, hmay, hnum, rfl⟩, hb1⟩
  have hB1 := chain hB0 hb1
  have hA1 := HA.out.below hb1 (by simp)
  have c0 := hA1.c0
  have c1 := hA1.c1
  have hg1 := hA1.lt
  obtain ⟨m1, m2, m3, m4, m5, m6⟩ := (may_iff Y M D).1 hmay
  have h31 : (D : Int) ≤ 31 := by
    have := len_mon Y M m3 m4
    have := mon_bd (febI Y) ((M : Int).toNat - 1) (feb_bd Y) (by omega)
    omega
  have hnr := num_ref Y M D m1 m3 m4
  have hF := textW_ok Y M D (R / 3600) (R / 60 % 60) (R % 60) n.toNat (by omega) (by omega) (by omega) (by have := HR1.out; omega) (by omega) (by omega)
  have PP := Lib.hid (fun W => rParse_ok _ Y M D _ _ _ _ hF hmay (by have := HR1.out; omega) (by omega) (by omega) HN4.out W)
  have hsum : 86400 * refNum Y M D + (3600 * ((R / 3600 : Nat) : Int) + 60 * ((R / 60 % 60 : Nat) : Int) + ((R % 60 : Nat) : Int)) = s := by
    rw [← hnr, hnum]
    have := HSR.out
    have h3 : 3600 * (R / 3600) + 60 * (R / 60 % 60) + R % 60 = R := by omega
    have h4 : 3600 * ((R / 3600 : Nat) : Int) + 60 * ((R / 60 % 60 : Nat) : Int) + ((R % 60 : Nat) : Int) = (R : Int) := by
      have := congrArg (fun x : Nat => (x : Int)) h3
      push_cast at this ⊢
      exact this
    omega
  rw [hsum] at PP
  have hl := hF.len
  have htl : (tailW n.toNat).length = if n.toNat = 0 then 0 else (fracT n.toNat).length + 1 := by unfold tailW; split <;> simp
  have hf10 := frac_len10 n.toNat HN4.out
  have hx10 := hF.c10
  generalize textW Y M D (R / 3600) (R / 60 % 60) (R % 60) n.toNat = T at *
  have HF10 := Lib.hid hf10
  have HTL := Lib.hid (hl.trans (by rw [htl]))
  have hl1 : 19 ≤ T.length := by omega
  have hl2 : T.length ≤ 29 := by
    rw [hl, htl]
    have := frac_len9 n.toNat HN4.out
    split <;> omega
  rw [HNN.out] at PP
  clear HA hb1 hF hmay hnum m6 hnr hsum hl htl hf10 HT1 HSR HR1
  have q10 := byte_beq _ 32 32 rfl (getB T 10 32 hx10 (by rw [S_size]; omega))
  clear hx10
  go_wp2_with fail
  refine (HR.out _).mono ?_
  rintro e w' ⟨rfl, rfl⟩
  go_wp2_with fail
  refine (N1.out _).mono ?_
  rintro e w' ⟨rfl, rfl⟩
  go_wp2_with fail
  refine (N2.out _).mono ?_
  rintro e w' ⟨rfl, rfl⟩
  go_wp2_with fail
  refine (PP.out _).mono ?_
  rintro e w' ⟨rfl, rfl⟩
  clear N1 N2 HR PP
  by_cases hz : n = 0
  · have hlen : ((T.length : Int) == 19) = true := by
      rw [beq_iff_eq]
      have := HTL.out
      rw [if_pos (by omega)] at this
      omega
    subst hz
    clear HTL HF10 HNN HN4 g3 g4
    go_wp2_with fail
    refine (awake29 _).mono ?_
    rintro e w2 ⟨rfl, hb2⟩
    go_wp2_with fail
    go_ret
    exact ⟨rfl, chain hB1 hb2⟩
  · have hlen : T.length = 20 + (fracT n.toNat).length := by
      have := HTL.out
      rw [if_neg (by omega)] at this
      omega
    have hf : fracN 10 n.toNat = (fracT n.toNat).length := by rw [HF10.out, if_neg (by omega)]
    have hL9 := frac_len9 n.toNat HN4.out
    have hn0 : 0 < n := by omega
    generalize (fracT n.toNat).length = L at *
    have HFr := Lib.hid hf
    have HLe := Lib.hid hlen
    have hnx : n * 10 ≤ 10000000000 := by omega
    have HN9 := Lib.hid g4
    clear hz hf hlen HTL HF10 g4
    go_wp2_with fail
    go_loop [10, 11] (fun l x => ∃ (j : Nat) (v : Nat), j ≤ L ∧ l = .int .i64 (20 + (j : Int)) ∧ x = .int .i64 v ∧ fracN (10 - j) v + j = L ∧ Hid (v < 1000000000)) (fun l _ => 40 - (RowKit.intOf l).toNat)
    case atStart => exact ⟨0, n.toNat, by omega, rfl, by rw [HNN.out], by rw [Nat.add_zero]; exact HFr.out, Lib.hid HN4.out⟩
    case round =>
      obtain ⟨j, v, hj, rfl, rfl, hfr, hvb⟩ := hrel
      have hv9 := hvb.out
      have hvx : (v : Int) * 10 ≤ 10000000000 := by omega
      obtain ⟨f, hf⟩ : ∃ f, 10 - j = f + 1 := ⟨9 - j, by omega⟩
      rw [hf, fracN] at hfr
      by_cases hv0 : v = 0
      · rw [if_pos hv0] at hfr
        have hlb : ((T.length : Int) == 20 + (j : Int)) = true := by
          rw [beq_iff_eq]; have := HLe.out; omega
        subst hv0
        clear hfr hf hv9 hvx hvb
        go_wp2_with fail
        refine (awake29 _).mono ?_
        rintro e w2 ⟨rfl, hb2⟩
        go_wp2_with fail
        go_ret
        exact ⟨rfl, chain hB1 hb2⟩
      · rw [if_neg hv0] at hfr
        have hvp : 0 < v := by omega
        have hfj : f = 10 - (j + 1) := by omega
        have HX := Lib.hid (show fracN (10 - (j + 1)) (v * 10 % 1000000000) + (j + 1) = L by rw [← hfj]; omega)
        have HM := Lib.hid (show v * 10 % 1000000000 < 1000000000 from Nat.mod_lt _ (by decide))
        have hjL : j + 1 ≤ L := by omega
        clear hfr hf hv9 hvb hv0 hfj
        go_wp2_with fail
        go_round
        case rel => exact ⟨j + 1, v * 10 % 1000000000, hjL, congrArg (Value.int .i64) (by omega), congrArg (Value.int .i64) (by omega), HX.out, HM⟩
        case measure => simp [RowKit.intOf]; omega
theorem lawTexts29 (s n : Int) (w : World) (_ : -9223372036854775808 ≤ s) (_ : s ≤ 9223372036854775807) (_ : -9223372036854775808 ≤ n) (_ : n ≤ 9223372036854775807) (hT : TB w.heap.size w) :
    Calls Tryd.prog 8 #[.agg #[.int .i64 s, .int .i64 n]] w fun e w' => e = .returned (.bool true) ∧ Below w.heap.size w w' := by
  cases hr : rightB s n with
  | false => exact lawTexts_arg s n w hr
  | true =>
    by_cases hq : s / 86400 < -719162 ∨ 2932896 < s / 86400
    · exact lawTexts_out s n w hr hq
    · exact lawTexts_ok s n w hr (by omega) (by omega) hT
end Go.Proofs.YtjaiadfpdkjkpaaDoor
