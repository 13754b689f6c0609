/- when.Text of a day that may be. -/
import Derived.Test.YtjldphpdfckjnaaDoorWhenJ
namespace Go.Proofs.YtjldphpdfckjnaaDoor
open Go.RowKit Go.Lib

/-- what is written of a stamp whose day may be -/
def TxQ (q : Int) (R N : Nat) (e : Ending) : Prop := ∃ Y M D : Nat, mayB Y M D = true ∧ numI Y M D = q ∧ e = .returned (.tuple #[.string (S (textW Y M D (R / 3600) (R / 60 % 60) (R % 60) N)), .int .i64 0])
set_option maxRecDepth 100000 in
set_option maxHeartbeats 1000000 in
theorem wText_ok (s n : Int) (h : rightB s n = true) (hq0 : -719162 ≤ s / 86400) (hq1 : s / 86400 ≤ 2932896) (w : World) (hT : TB w.heap.size w) :
    Calls Tryd.prog 84 #[.agg #[.int .i64 s, .int .i64 n]] w fun e w' => TxQ (s / 86400) (s % 86400).toNat n.toNat e ∧ Below w.heap.size w w' := by
  obtain ⟨g1, g2, g3, g4⟩ := (right_iff s n).1 h
  have hB1 := (Below.refl w.heap.size w).alloc (Nat.le_refl _) (.cells #[.int .i64 s, .int .i64 n] 52)
  have HR := Lib.hid (show ∀ W : World, Calls Tryd.prog 112 #[.agg #[.int .i64 s, .int .i64 n]] W fun e w' => e = .returned (.bool true) ∧ Below W.heap.size W w' from fun W => by rw [← h]; exact sRight_any s n W)
  have HA := Lib.hid (StAt.new w s n)
  have HN := Lib.hid (fun W => day_yes (s / 86400) W hq0 hq1)
  obtain ⟨hm, hd⟩ := tm_parts s
  have hr0 : 0 ≤ s % 86400 := by omega
  have hr1 : s % 86400 < 86400 := by omega
  clear h
  generalize s / 86400 = q at *
  generalize hr : s % 86400 = r at *
  have hwq : wrap64 q = q := IntWalk.wrap64_in q (by omega)
  have HTO := Lib.hid (fun (W : World) (hB : Below w.heap.size w W) => hT.on hB)
  clear hT
  go_enter Tryd.func84, Tryd.ntmps84
  go_wp2_with fail
  refine (HR.out _).mono ?_
  rintro e w1 ⟨rfl, hb1⟩
  have hB2 := chain hB1 hb1
  have hA1 := HA.out.below hb1 (by simp)
  have c0 := hA1.c0
  have c1 := hA1.c1
  have hg1 := hA1.lt
  clear HA hb1
  rcases hm with hm | ⟨hm1, hm2⟩
  all_goals
    go_wp2_with fail
    refine (HN.out _).mono ?_
    rintro e w2 ⟨⟨y, m, d, hmay, hnum, rfl⟩, hb2⟩
    obtain ⟨R, rfl⟩ := Int.eq_ofNat_of_zero_le hr0
    obtain ⟨N, rfl⟩ := Int.eq_ofNat_of_zero_le g3
    have hB3 := chain hB2 hb2
    have hA2 := hA1.below hb2 hg1
    have d0 := hA2.c0
    have d1 := hA2.c1
    have hg2 := hA2.lt
    obtain ⟨m1, m2, m3, m4, m5, m6⟩ := (may_iff y m d).1 hmay
    have h31 : d ≤ 31 := by
      have := len_mon y m m3 m4
      have := mon_bd (febI y) (m.toNat - 1) (feb_bd y) (by omega)
      omega
    obtain ⟨Y, rfl⟩ := Int.eq_ofNat_of_zero_le (show 0 ≤ y by omega)
    obtain ⟨M, rfl⟩ := Int.eq_ofNat_of_zero_le (show 0 ≤ m by omega)
    obtain ⟨D, rfl⟩ := Int.eq_ofNat_of_zero_le (show 0 ≤ d by omega)
    have HM := Lib.hid (And.intro hmay hnum)
    clear hmay hnum m6 HN hb2 hA1 hB1 hB2
    unfold DayV
    have hpl1 := pad_len 4 Y (digs_len 3 Y (by omega))
    have hpl2 := pad_len 2 M (digs_len 1 M (by omega))
    have hpl3 := pad_len 2 D (digs_len 1 D (by omega))
    have hpl4 := pad_len 2 (R / 3600) (digs_len 1 _ (by omega))
    have hpl5 := pad_len 2 (R / 60 % 60) (digs_len 1 _ (by omega))
    have hpl6 := pad_len 2 (R % 60) (digs_len 1 _ (by omega))
    have P1 := Lib.hid (fun W hT => pad_any Y 4 (by omega) (by omega) W (B := w.heap.size) hT)
    have P2 := Lib.hid (fun W hT => pad_any M 2 (by omega) (by omega) W (B := w.heap.size) hT)
    have P3 := Lib.hid (fun W hT => pad_any D 2 (by omega) (by omega) W (B := w.heap.size) hT)
    have P4 := Lib.hid (show ∀ W : World, TB w.heap.size W → Calls Tryd.prog 114 #[.int .i64 ((R : Int) / 3600), .int .i64 2] W fun e w' => e = .returned (.string (S (padL 2 (R / 3600)))) ∧ Below W.heap.size W w' from fun W hT => pad_any (R / 3600) 2 (by omega) (by omega) W (B := w.heap.size) hT)
    have P5 := Lib.hid (show ∀ W : World, TB w.heap.size W → Calls Tryd.prog 114 #[.int .i64 ((R : Int) / 60 % 60), .int .i64 2] W fun e w' => e = .returned (.string (S (padL 2 (R / 60 % 60)))) ∧ Below W.heap.size W w' from fun W hT => pad_any (R / 60 % 60) 2 (by omega) (by omega) W (B := w.heap.size) hT)
    have P6 := Lib.hid (show ∀ W : World, TB w.heap.size W → Calls Tryd.prog 114 #[.int .i64 ((R : Int) % 60), .int .i64 2] W fun e w' => e = .returned (.string (S (padL 2 (R % 60)))) ∧ Below W.heap.size W w' from fun W hT => pad_any (R % 60) 2 (by omega) (by omega) W (B := w.heap.size) hT)
    have hk1 : (R : Int) / 3600 ≤ 23 := by omega
    have HT0 := Lib.hid (show textW Y M D (R / 3600) (R / 60 % 60) (R % 60) N = (padL 4 Y ++ 45 :: (padL 2 M ++ 45 :: (padL 2 D ++ 32 :: (padL 2 (R / 3600) ++ 58 :: (padL 2 (R / 60 % 60) ++ 58 :: padL 2 (R % 60)))))) ++ tailW N by unfold textW; simp only [List.append_assoc, List.cons_append])

    generalize padL 4 Y = a at *
    generalize padL 2 M = b at *
    generalize padL 2 D = c at *
    generalize padL 2 (R / 3600) = f at *
    generalize padL 2 (R / 60 % 60) = g at *
    generalize padL 2 (R % 60) = k at *
    have hcat : S a ++ (⟨#[45]⟩ : ByteArray) ++ S b ++ ⟨#[45]⟩ ++ S c ++ ⟨#[32]⟩ ++ S f ++ ⟨#[58]⟩ ++ S g ++ ⟨#[58]⟩ ++ S k = S (a ++ 45 :: (b ++ 45 :: (c ++ 32 :: (f ++ 58 :: (g ++ 58 :: k))))) := by
      rw [show (⟨#[45]⟩ : ByteArray) = S [45] from rfl, show (⟨#[32]⟩ : ByteArray) = S [32] from rfl, show (⟨#[58]⟩ : ByteArray) = S [58] from rfl]
      simp only [S_append, List.append_assoc, List.cons_append, List.nil_append]
    have hbl : (a ++ 45 :: (b ++ 45 :: (c ++ 32 :: (f ++ 58 :: (g ++ 58 :: k))))).length = 19 := by simp [hpl1, hpl2, hpl3, hpl4, hpl5, hpl6]
    generalize a ++ 45 :: (b ++ 45 :: (c ++ 32 :: (f ++ 58 :: (g ++ 58 :: k)))) = base at *
    have HC := Lib.hid hcat
    clear hcat hd
    go_wp2_with fail
    refine (P1.out _ (HTO.out _ hB3)).mono ?_
    rintro e w3 ⟨rfl, hb3⟩
    have hB4 := chain hB3 hb3
    go_wp2_with fail
    refine (P2.out _ (HTO.out _ hB4)).mono ?_
    rintro e w4 ⟨rfl, hb4⟩
    have hB5 := chain hB4 hb4
    go_wp2_with fail
    refine (P3.out _ (HTO.out _ hB5)).mono ?_
    rintro e w5 ⟨rfl, hb5⟩
    have hB6 := chain hB5 hb5
    go_wp2_with fail
    refine (P4.out _ (HTO.out _ hB6)).mono ?_
    rintro e w6 ⟨rfl, hb6⟩
    have hB7 := chain hB6 hb6
    go_wp2_with fail
    refine (P5.out _ (HTO.out _ hB7)).mono ?_
    rintro e w7 ⟨rfl, hb7⟩
    have hB8 := chain hB7 hb7
    go_wp2_with fail
    refine (P6.out _ (HTO.out _ hB8)).mono ?_
    rintro e w8 ⟨rfl, hb8⟩
    have hB9 := chain hB8 hb8
    have hbs := chain (chain (chain (chain (chain hb3 hb4) hb5) hb6) hb7) hb8
    have hA8 := hA2.below hbs hg2
    have d0 := hA8.c0
    have d1 := hA8.c1
    have hg8 := hA8.lt
    have hcat := HC.out
    clear hb3 hb4 hb5 hb6 hb7 hb8 hbs P1 P2 P3 P4 P5 P6 hB4 hB5 hB6 hB7 hB8 hA2 hB3
    by_cases hN : N = 0
    · have HTx := Lib.hid (show textW Y M D (R / 3600) (R / 60 % 60) (R % 60) N = base by
        rw [HT0.out]; unfold tailW; rw [if_pos hN, List.append_nil])
      have hnb : ((N : Int) != 0) = false := by rw [hN]; rfl
      clear hN g4
      go_wp2_with fail
      go_ret2
      exact ⟨⟨Y, M, D, HM.out.1, HM.out.2, by rw [Int.toNat_natCast, Int.toNat_natCast, HTx.out]; rfl⟩, hB9⟩
    · have hnb : ((N : Int) != 0) = true := by rw [bne_iff_ne]; omega
      have P7 := Lib.hid (fun W hT => pad_any N 9 (by omega) (by omega) W (B := w.heap.size) hT)
      have hf9 := frac_len9 N (by omega)
      have hpf := pad_frac N (by omega)
      have hpl9 := pad_len 9 N (digs_len 8 N (by omega))
      have HTx := Lib.hid (show textW Y M D (R / 3600) (R / 60 % 60) (R % 60) N = base ++ 46 :: fracT N by
        rw [HT0.out]; unfold tailW; rw [if_neg hN])
      have hc2 : S base ++ ((⟨#[46]⟩ : ByteArray) ++ S (fracT N)) = S (base ++ 46 :: fracT N) := by
        rw [show (⟨#[46]⟩ : ByteArray) = S [46] from rfl, S_append, S_append]; rfl
      have HPF := Lib.hid hpf
      clear hN g4 hpf HT0
      generalize padL 9 N = z at *
      generalize fracT N = fr at *
      go_wp2_with fail
      refine (P7.out _ (HTO.out _ hB9)).mono ?_
      rintro e w9 ⟨rfl, hb9⟩
      have hB10 := chain hB9 hb9
      go_wp2_with fail
      refine (Go.Proofs.Tryd.strings_TrimRight_one (S z) 48 (by decide) _ (by rw [S_size]; omega)).mono ?_
      rintro e w10 ⟨rfl, hw10⟩
      subst hw10
      rw [S_data, HPF.out, show (⟨fr.toArray⟩ : ByteArray) = S fr from rfl]
      go_wp2_with fail
      go_ret2
      exact ⟨⟨Y, M, D, HM.out.1, HM.out.2, by rw [Int.toNat_natCast, Int.toNat_natCast, HTx.out]; rfl⟩, hB10⟩
end Go.Proofs.YtjldphpdfckjnaaDoor
