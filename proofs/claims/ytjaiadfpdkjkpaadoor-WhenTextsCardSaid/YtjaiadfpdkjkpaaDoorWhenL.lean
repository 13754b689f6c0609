/- The document's Parse of what was written. -/
import Derived.Test.YtjaiadfpdkjkpaaDoorWhenK
namespace Go.Proofs.YtjaiadfpdkjkpaaDoor
open Go.RowKit Go.Lib

theorem getB (T : List UInt8) (k : Nat) (c : UInt8) (h : T[k]? = some c) (hk : k < (S T).size) : (S T)[k]'hk = c := by
  have hk2 : k < T.length := by rw [S_size] at hk; exact hk
  rw [List.getElem?_eq_getElem hk2] at h
  exact Option.some.inj h
set_option maxRecDepth 100000 in
set_option maxHeartbeats 2000000 in
theorem rParse_ok (T : List UInt8) (Y M D H I Sc N : Nat) (hF : TxF T Y M D H I Sc N) (hmay : mayB Y M D = true) (hH : H ≤ 23) (hI : I ≤ 59) (hS : Sc ≤ 59) (hN : N < 1000000000) (w : World) :
    Calls Tryd.prog 29 #[.string (S T)] w fun e w' => e = .returned (.tuple #[.int .i64 (86400 * refNum Y M D + (3600 * (H : Int) + 60 * (I : Int) + (Sc : Int))), .int .i64 N, .int .i64 0]) ∧ w' = w := by
  obtain ⟨m1, m2, m3, m4, m5, m6⟩ := (may_iff Y M D).1 hmay
  have h31 : (D : Int) ≤ 31 := by
    have := len_mon Y M m3 m4
    have := mon_bd (febI Y) ((M : Int).toNat - 1) (feb_bd Y) (by omega)
    omega
  have hnb := num_bd Y M D hmay
  have hnr := num_ref Y M D m1 m3 m4
  have hlt9 := frac_len9 N hN
  have htl : (tailW N).length ≤ 10 := by unfold tailW; split <;> simp <;> omega
  have hl1 : 19 ≤ T.length := by rw [hF.len]; omega
  have hl2 : T.length ≤ 29 := by rw [hF.len]; omega
  have G0 := Lib.hid (show ∀ W : World, Calls Tryd.prog 48 #[.string (S T), .int .i64 0, .int .u8 64] W fun e w' => e = .returned (.bool false) ∧ w' = W from fun W => by
    have := rsign_any T 0 64 W
    rw [decide_eq_false hF.head] at this
    exact this)
  have dg' := fun (k n : Nat) (v : Int) (hk : k ≤ 1000) (hn : n ≤ 9) (h : rdigF T k n = v) (W : World) => show Calls Tryd.prog 50 #[.string (S T), .int .i64 k, .int .i64 n] W fun e w' => e = .returned (.int .i64 v) ∧ w' = W by rw [← h]; exact rdig29_any T k n (by omega) hk hn W
  have D0 := Lib.hid (show ∀ W : World, Calls Tryd.prog 50 #[.string (S T), .int .i64 0, .int .i64 4] W fun e w' => e = .returned (.int .i64 Y) ∧ w' = W from fun W => dg' 0 4 _ (by decide) (by decide) hF.r0 W)
  have D5 := Lib.hid (show ∀ W : World, Calls Tryd.prog 50 #[.string (S T), .int .i64 5, .int .i64 2] W fun e w' => e = .returned (.int .i64 M) ∧ w' = W from fun W => dg' 5 2 _ (by decide) (by decide) hF.r5 W)
  have D8 := Lib.hid (show ∀ W : World, Calls Tryd.prog 50 #[.string (S T), .int .i64 8, .int .i64 2] W fun e w' => e = .returned (.int .i64 D) ∧ w' = W from fun W => dg' 8 2 _ (by decide) (by decide) hF.r8 W)
  have D11 := Lib.hid (show ∀ W : World, Calls Tryd.prog 50 #[.string (S T), .int .i64 11, .int .i64 2] W fun e w' => e = .returned (.int .i64 H) ∧ w' = W from fun W => dg' 11 2 _ (by decide) (by decide) hF.r11 W)
  have D14 := Lib.hid (show ∀ W : World, Calls Tryd.prog 50 #[.string (S T), .int .i64 14, .int .i64 2] W fun e w' => e = .returned (.int .i64 I) ∧ w' = W from fun W => dg' 14 2 _ (by decide) (by decide) hF.r14 W)
  have D17 := Lib.hid (show ∀ W : World, Calls Tryd.prog 50 #[.string (S T), .int .i64 17, .int .i64 2] W fun e w' => e = .returned (.int .i64 Sc) ∧ w' = W from fun W => dg' 17 2 _ (by decide) (by decide) hF.r17 W)
  have DJ := Lib.hid (show ∀ (j : Nat) (W : World), j ≤ 20 → Calls Tryd.prog 50 #[.string (S T), .int .i64 (19 + ((j : Int) + 1)), .int .i64 1] W fun e w' => e = .returned (.int .i64 (rdigF T (19 + (j + 1)) 1)) ∧ w' = W from fun j W hj => by
    rw [show (19 : Int) + ((j : Int) + 1) = ((19 + (j + 1) : Nat) : Int) by push_cast; rfl]
    exact dg' (19 + (j + 1)) 1 _ (by omega) (by decide) rfl W)
  have G19 := Lib.hid (show ∀ (W : World), Calls Tryd.prog 48 #[.string (S T), .int .i64 19, .int .u8 46] W fun e w' => e = .returned (.bool (decide (T[19]? = some 46))) ∧ w' = W from fun W => rsign_any T 19 46 W)
  have GJ := Lib.hid (show ∀ (k : Nat) (W : World), T.length ≤ k → Calls Tryd.prog 48 #[.string (S T), .int .i64 k, .int .u8 90] W fun e w' => e = .returned (.bool false) ∧ w' = W from fun k W hk => by
    have := rsign_any T k 90 W
    rw [decide_eq_false (show ¬ T[k]? = some 90 by rw [List.getElem?_eq_none hk]; simp)] at this
    exact this)
  have q4 := byte_bne' _ 45 45 rfl (getB T 4 45 hF.c4 (by rw [S_size]; omega))
  have q7 := byte_bne' _ 45 45 rfl (getB T 7 45 hF.c7 (by rw [S_size]; omega))
  have q10 := byte_bne' _ 32 32 rfl (getB T 10 32 hF.c10 (by rw [S_size]; omega))
  have q13 := byte_bne' _ 58 58 rfl (getB T 13 58 hF.c13 (by rw [S_size]; omega))
  have q16 := byte_bne' _ 58 58 rfl (getB T 16 58 hF.c16 (by rw [S_size]; omega))
  have HTail := Lib.hid (fun j => tail_at T N hF.tail j)
  have HLen := Lib.hid hF.len
  have HMay := Lib.hid (show ∀ W : World, Calls Tryd.prog 51 #[.int .i64 Y, .int .i64 M, .int .i64 D] W fun e w' => e = .returned (.bool true) ∧ W = w' from fun W => by rw [← hmay]; exact rmay_any Y M D W)
  have HNum := Lib.hid (fun W => rnum_any Y M D W m1 m2 m3 m4 m5 h31)
  rw [hnr] at hnb
  obtain ⟨-, -, b1, b2⟩ := hnb
  have HN := Lib.hid hN
  have e10 : ((T.length : Int) == 10) = false := by rw [beq_eq_false_iff_ne]; omega
  clear hF dg' hnr hmay m6 htl hN hlt9
  generalize refNum Y M D = q at *
  go_enter Tryd.func29, Tryd.ntmps29
  go_wp2_with fail
  refine (G0.out _).mono ?_
  rintro e w' ⟨rfl, rfl⟩
  go_wp2_with fail
  refine (D0.out _).mono ?_
  rintro e w' ⟨rfl, rfl⟩
  go_wp2_with fail
  refine (D5.out _).mono ?_
  rintro e w' ⟨rfl, rfl⟩
  go_wp2_with fail
  refine (D8.out _).mono ?_
  rintro e w' ⟨rfl, rfl⟩
  go_wp2_with fail
  refine (HMay.out _).mono ?_
  rintro e w' ⟨rfl, rfl⟩
  go_wp2_with fail
  refine (HNum.out _).mono ?_
  rintro e w' ⟨rfl, rfl⟩
  go_wp2_with fail
  refine (D11.out _).mono ?_
  rintro e w' ⟨rfl, rfl⟩
  go_wp2_with fail
  refine (D14.out _).mono ?_
  rintro e w' ⟨rfl, rfl⟩
  go_wp2_with fail
  refine (D17.out _).mono ?_
  rintro e w' ⟨rfl, rfl⟩
  go_wp2_with fail
  refine (G19.out _).mono ?_
  rintro e w' ⟨rfl, rfl⟩
  clear G0 D0 D5 D8 D11 D14 D17 G19 HMay HNum q4 q7 q10 q13 q16
  by_cases hz : N = 0
  · have hd : decide (T[19]? = some 46) = false := decide_eq_false (by
      have := HTail.out 0
      rw [Nat.add_zero] at this
      rw [this, hz]; simp [tailW])
    have hlen : T.length = 19 := by rw [HLen.out, hz]; rfl
    have G := GJ.out 19
    rw [hd]
    have hge : T.length ≤ 19 := by omega
    have HG := Lib.hid (show ∀ W : World, Calls Tryd.prog 48 #[.string (S T), .int .i64 19, .int .u8 90] W fun e w' => e = .returned (.bool false) ∧ w' = W from fun W => G W hge)
    have HZ := Lib.hid hz
    clear hd hlen G hz
    go_wp2_with fail
    refine (HG.out _).mono ?_
    rintro e w' ⟨rfl, rfl⟩
    go_wp2_with fail
    go_ret3
    exact ⟨by rw [HZ.out]; rfl, rfl⟩
  · have htN : tailW N = 46 :: fracT N := by unfold tailW; rw [if_neg hz]
    have hd : decide (T[19]? = some 46) = true := decide_eq_true (by
      have := HTail.out 0
      rw [Nat.add_zero] at this
      rw [this, htN]; rfl)
    obtain ⟨hok, hval⟩ := fracT_ok N HN.out hz
    obtain ⟨hne, _, hdg⟩ := (digB_iff _ _).1 hok
    have hL9 := frac_len9 N HN.out
    have hlen : T.length = 20 + (fracT N).length := by rw [HLen.out, htN, List.length_cons]; omega
    have hL1 : 1 ≤ (fracT N).length := List.length_pos_iff.2 hne
    have hdv : decN (fracT N) * 10 ^ (9 - (fracT N).length) = N := by
      rw [List.take_append, List.take_of_length_le hL9, List.take_replicate, show min (9 - (fracT N).length) 8 = 9 - (fracT N).length by omega, decN_app_zeros] at hval
      exact hval
    have hat : ∀ j, T[19 + (j + 1)]? = (fracT N)[j]? := fun j => by rw [HTail.out (j + 1), htN]; rfl
    rw [hd]
    have HAt := Lib.hid hat
    have HDv := Lib.hid hdv
    have HDg := Lib.hid hdg
    clear hd hat hdv hdg hval hok hne htN hz HTail HLen
    generalize fracT N = fr at *
    generalize hLL : fr.length = L at *
    go_wp2_with fail
    go_loopw [13, 14] (fun v k wr => ∃ j : Nat, j ≤ L ∧ k = .int .i64 ((j : Int) + 1) ∧ v = .int .i64 (decN (fr.take j)) ∧ wr = w') (fun _ k _ => 20 - (RowKit.intOf k).toNat)
    case atStart => exact ⟨0, by omega, rfl, rfl, by first | trivial | rfl⟩
    case round =>
      obtain ⟨j, hj, rfl, rfl, rfl⟩ := hrel
      by_cases hlt : j < L
      · have hg := HAt.out j
        have hjl : j < fr.length := by omega
        rw [List.getElem?_eq_getElem hjl] at hg
        have hcd := HDg.out fr[j] (List.getElem_mem hjl)
        have hr := rdig_one T (19 + (j + 1)) fr[j] hg hcd
        have hcd2 := of_decide_eq_true hcd
        have hbd := decN_lt j (fr.take j) (fun c hc => HDg.out c (List.mem_of_mem_take hc)) (by rw [List.length_take]; omega)
        have hp : 10 ^ j ≤ 10 ^ 8 := Nat.pow_le_pow_right (by decide) (by omega)
        have HS := Lib.hid (show decN (fr.take (j + 1)) = 10 * decN (fr.take j) + (fr[j].toNat - 48) by rw [List.take_succ_eq_append_getElem hjl, decN_snoc])
        have DD := Lib.hid (show ∀ W : World, Calls Tryd.prog 50 #[.string (S T), .int .i64 (19 + ((j : Int) + 1)), .int .i64 1] W fun e w' => e = .returned (.int .i64 ((fr[j].toNat - 48 : Nat) : Int)) ∧ w' = W from fun W => by rw [← hr]; exact DJ.out j W (by omega))
        have hb2 : decN (fr.take j) ≤ 100000000 := by omega
        have hc9 : fr[j].toNat - 48 ≤ 9 := by omega
        clear hg hcd hr hcd2 hbd hp
        generalize fr[j].toNat - 48 = cv at *
        generalize decN (fr.take j) = dv at *
        go_wp2_with fail
        refine (DD.out _).mono ?_
        rintro e w1 ⟨rfl, rfl⟩
        go_wp2_with fail
        refine (DD.out _).mono ?_
        rintro e w2 ⟨rfl, rfl⟩
        go_wp2_with fail
        go_roundw
        case rel => exact ⟨j + 1, by omega, by push_cast; rfl, by rw [HS.out]; push_cast; rfl, by first | trivial | rfl⟩
        case measure => simp [RowKit.intOf]; omega
      · have hjL : j = L := by omega
        subst hjL
        have htk : fr.take j = fr := List.take_of_length_le (by omega)
        rw [htk]
        have HE := Lib.hid (show ∀ W : World, j ≤ 8 → Calls Tryd.prog 50 #[.string (S T), .int .i64 (19 + ((j : Int) + 1)), .int .i64 1] W fun e w' => e = .returned (.int .i64 (-1)) ∧ w' = W from fun W h8 => by rw [← rdig_end T (19 + (j + 1)) (by omega)]; exact DJ.out j W (by omega))
        have HZs := Lib.hid (show ∀ W : World, Calls Tryd.prog 48 #[.string (S T), .int .i64 (19 + ((j : Int) + 1)), .int .u8 90] W fun e w' => e = .returned (.bool false) ∧ w' = W from fun W => by
          rw [show (19 : Int) + ((j : Int) + 1) = ((19 + (j + 1) : Nat) : Int) by push_cast; rfl]
          exact GJ.out (19 + (j + 1)) W (by omega))
        have hge : T.length ≤ 20 + j := by omega
        have hj1 : (((j : Int) + 1) == 1) = false := by rw [beq_eq_false_iff_ne]; omega
        clear htk hlt hlen hLL GJ DJ HAt HDg
        obtain ⟨w5, hw5⟩ : ∃ w5 : World, w5 = wr := ⟨_, rfl⟩
        subst hw5
        by_cases h8 : j ≤ 8
        · go_wp2_with fail
          refine (HE.out _ h8).mono ?_
          rintro e w4 ⟨rfl, rfl⟩
          go_wp2_with fail
          go_loopw [13, 14] (fun v k wr => ∃ i x : Nat, j + i ≤ 9 ∧ k = .int .i64 ((j : Int) + (i : Int) + 1) ∧ v = .int .i64 x ∧ x * 10 ^ (9 - j - i) = N ∧ x ≤ N ∧ wr = w4) (fun _ k _ => 20 - (RowKit.intOf k).toNat)
          case atStart => exact ⟨0, decN fr, by omega, by simp, rfl, HDv.out, by have := HDv.out; have := Nat.one_le_pow (9 - j) 10 (by decide); exact Nat.le_trans (Nat.le_mul_of_pos_right _ this) (by omega), by first | trivial | rfl⟩
          case round =>
            obtain ⟨i, x, hi, rfl, rfl, hx, hxN, rfl⟩ := hrel
            by_cases hlt : j + i < 9
            · have hpw : 10 ^ (9 - j - i) = 10 * 10 ^ (9 - j - (i + 1)) := by
                rw [show 9 - j - i = (9 - j - (i + 1)) + 1 by omega, Nat.pow_succ, Nat.mul_comm]
              have HX := Lib.hid (show (10 * x) * 10 ^ (9 - j - (i + 1)) = N by rw [← hx, hpw, Nat.mul_comm 10 x, Nat.mul_assoc])
              have HXle := Lib.hid (show 10 * x ≤ N by
                have h1 := HX.out
                have := Nat.one_le_pow (9 - j - (i + 1)) 10 (by decide)
                exact Nat.le_trans (Nat.le_mul_of_pos_right _ this) (by omega))
              have hxb : (x : Int) ≤ 1000000000 := by have := HN.out; omega
              clear hx hpw
              go_wp2_with fail
              go_roundw
              case rel => exact ⟨i + 1, 10 * x, by omega, by first | go_num | (push_cast; congr 1; omega), by first | go_num | (push_cast; rfl), HX.out, HXle.out, by first | trivial | rfl⟩
              case measure => simp [RowKit.intOf]; omega
            · have hxe : x = N := by
                rw [show 9 - j - i = 0 by omega] at hx
                simpa using hx
              have HXe := Lib.hid hxe
              clear hx hxe
              go_wp2_with fail
              refine (HZs.out _).mono ?_
              rintro e w6 ⟨rfl, rfl⟩
              go_wp2_with fail
              go_ret3
              exact ⟨by rw [HXe.out]; rfl, rfl⟩
        · have h9 : 9 ≤ j := by omega
          go_wp2_with fail
          go_loopw [13, 14] (fun v k wr => ∃ i x : Nat, j + i ≤ 9 ∧ k = .int .i64 ((j : Int) + (i : Int) + 1) ∧ v = .int .i64 x ∧ x * 10 ^ (9 - j - i) = N ∧ x ≤ N ∧ wr = w5) (fun _ k _ => 20 - (RowKit.intOf k).toNat)
          case atStart => exact ⟨0, decN fr, by omega, by simp, rfl, HDv.out, by have := HDv.out; have := Nat.one_le_pow (9 - j) 10 (by decide); exact Nat.le_trans (Nat.le_mul_of_pos_right _ this) (by omega), by first | trivial | rfl⟩
          case round =>
            obtain ⟨i, x, hi, rfl, rfl, hx, hxN, rfl⟩ := hrel
            by_cases hlt : j + i < 9
            · exfalso; omega
            · have hxe : x = N := by
                rw [show 9 - j - i = 0 by omega] at hx
                simpa using hx
              have HXe := Lib.hid hxe
              clear hx hxe
              go_wp2_with fail
              refine (HZs.out _).mono ?_
              rintro e w6 ⟨rfl, rfl⟩
              go_wp2_with fail
              go_ret3
              exact ⟨by rw [HXe.out]; rfl, rfl⟩
end Go.Proofs.YtjaiadfpdkjkpaaDoor
