/- The document's Digits and Text. -/
import Derived.Test.YtpdknjpicaokkaaDoorStampN
namespace Go.Proofs.YtpdknjpicaokkaaDoor
open Go.RowKit Go.Lib

def digC0 (n : Nat) : UInt8 := UInt8.ofNat (48 + n)
theorem digit_const0 (n : Nat) (hn : n < 10) : (⟨#[48, 49, 50, 51, 52, 53, 54, 55, 56, 57]⟩ : ByteArray).extract n (n + 1) = S [digC0 n] := by
  have h : n = 0 ∨ n = 1 ∨ n = 2 ∨ n = 3 ∨ n = 4 ∨ n = 5 ∨ n = 6 ∨ n = 7 ∨ n = 8 ∨ n = 9 := by omega
  rcases h with rfl | rfl | rfl | rfl | rfl | rfl | rfl | rfl | rfl | rfl <;> rfl
theorem rdig_big : ∀ (k n : Nat), n < 10 ^ (k + 1) → k ≤ 16 → ∀ w : World, Calls Tryd.prog 82 #[.int .i64 n] w fun e w' => e = .returned (.string (S (decDigits n))) ∧ ∃ m, w' = w.drewN m := by
  intro k
  induction k with
  | zero =>
    intro n hn _ w
    have hn : n < 10 := by simpa using hn
    have e1 : decDigits n = [digC0 n] := by rw [decDigits, dif_pos hn]; rfl
    have E1 := Lib.hid e1
    have hc := digit_const0 n hn
    clear e1
    go_enter Tryd.func82, Tryd.ntmps82
    go_wp2_with fail
    go_ret
    exact ⟨by rw [E1.out]; rfl, 0, rfl⟩
  | succ k ih =>
    intro n hn hk w
    by_cases h10 : n < 10
    · have e1 : decDigits n = [digC0 n] := by rw [decDigits, dif_pos h10]; rfl
      have E1 := Lib.hid e1
      have hc := digit_const0 n h10
      clear e1
      go_enter Tryd.func82, Tryd.ntmps82
      go_wp2_with fail
      go_ret
      exact ⟨by rw [E1.out]; rfl, 0, rfl⟩
    · have e1 : S (decDigits (n / 10)) ++ S [digC0 (n % 10)] = S (decDigits n) := by rw [S_append]; rw [decDigits.eq_1 n, dif_neg h10]; rfl
      have hb : n ≤ 100000000000000000 := by
        have : 10 ^ (k + 1 + 1) ≤ 10 ^ 17 := Nat.pow_le_pow_right (by decide) (by omega)
        omega
      have hlen := digs_len k (n / 10) (by rw [Nat.pow_succ] at hn; omega)
      have hlen2 : (decDigits (n / 10)).length ≤ 20 := by omega
      have IH := Lib.hid (fun w => ih (n / 10) (by rw [Nat.pow_succ] at hn; omega) (by omega) w)
      have E1 := Lib.hid e1
      have hc := digit_const0 (n % 10) (Nat.mod_lt _ (by decide))
      clear e1 ih hn hlen
      go_enter Tryd.func82, Tryd.ntmps82
      go_wp2_with fail
      go_quiet ((go_at_call 82; exact Calls.quiet_of (IH.out _)))
      go_wp2
      go_ret
      exact ⟨by rw [← E1.out]; rfl, nq, rfl⟩

theorem digs_one (d : Nat) (h : d < 10) : decDigits d = [UInt8.ofNat (48 + d)] := by rw [decDigits, dif_pos h]
set_option maxRecDepth 100000 in
set_option maxHeartbeats 4000000 in
theorem rText_any (s n : Int) (h : rightB s n = true) (w : World) :
    Calls Tryd.prog 52 #[.int .i64 s, .int .i64 n] w fun e w' => e = .returned (.string (S (textF s n))) ∧ ∃ m, w' = w.drewN m := by
  obtain ⟨h1, h2, h3, h4⟩ := (right_iff s n).1 h
  obtain ⟨sg, a, b, ha, hb, htx, hcase⟩ := text_parts s n h
  have HX := Lib.hid htx
  have hda := digs_len 15 a ha
  have hsg : sg.length ≤ 1 := by rcases hcase with ⟨_, rfl, _⟩ | ⟨_, rfl, _⟩ <;> simp
  have hcase2 : (s < 0 ∧ n = 0 ∧ sg = [45] ∧ -s = (a : Int) ∧ b = 0) ∨ (s < 0 ∧ n ≠ 0 ∧ sg = [45] ∧ -s - 1 = (a : Int) ∧ 1000000000 - n = (b : Int)) ∨ (0 ≤ s ∧ sg = [] ∧ s = a ∧ n = b) := by
    rcases hcase with ⟨g1, g2, g3⟩ | g
    · unfold turnF at g3
      by_cases hn : n = 0
      · rw [if_pos hn] at g3
        injection g3 with g4 g5
        exact .inl ⟨g1, hn, g2, g4, by omega⟩
      · rw [if_neg hn] at g3
        injection g3 with g4 g5
        exact .inr (.inl ⟨g1, hn, g2, g4, g5⟩)
    · exact .inr (.inr g)
  clear h htx hcase
  go_enter Tryd.func52, Tryd.ntmps52
  go_upto_if 8 with fail
  go_cut [0, 1, 5] (fun x y v wx => x = .int .i64 a ∧ y = .int .i64 b ∧ v = .string (S sg) ∧ wx = w)
  case first =>
    rcases hcase2 with ⟨g1, g2, rfl, g4, rfl⟩ | ⟨g1, g2, rfl, g4, g5⟩ | ⟨g1, rfl, g4, g5⟩
    · subst g2
      go_wp2_with fail
      go_meet
      exact ⟨rfl, rfl, rfl, rfl⟩
    · have g3 : (n == 0) = false := beq_eq_false_iff_ne.2 g2
      clear g2
      go_wp2_with fail
      go_meet
      exact ⟨rfl, rfl, rfl, rfl⟩
    · have G4 := Lib.hid g4
      have G5 := Lib.hid g5
      clear g4 g5
      go_wp2_with fail
      go_meet
      exact ⟨by rw [← G4.out], by rw [← G5.out], rfl, rfl⟩
  case rest =>
    clear hcase2
    obtain ⟨rfl, rfl, rfl, rfl⟩ := hcut
    go_wp2_with fail
    refine (rdig_big 15 a ha (by decide) _).mono ?_
    rintro e w1 ⟨rfl, q1, rfl⟩
    by_cases hb0 : b = 0
    · have HX2 := Lib.hid (show textF s n = sg ++ decDigits a by rw [HX.out]; unfold bodyT; rw [if_pos hb0, List.append_nil])
      subst hb0
      go_wp2_with fail
      go_ret
      exact ⟨by rw [HX2.out, ← S_append]; rfl, _, rfl⟩
    · have HX2 := Lib.hid (show textF s n = sg ++ decDigits a ++ [46] ++ tailD 9 b by rw [HX.out]; unfold bodyT; rw [if_neg hb0, tail_frac b hb]; simp)
      have hb1 : ((b : Int) == 0) = false := by rw [beq_eq_false_iff_ne]; omega
      have HS0 := Lib.hid (show S sg ++ S (decDigits a) ++ (⟨#[46]⟩ : ByteArray) = S (sg ++ decDigits a ++ [46]) by rw [show (⟨#[46]⟩ : ByteArray) = S [46] from rfl, S_append, S_append])
      clear hb0
      go_wp2_with fail
      rw [HS0.out]
      have hl0 : (sg ++ decDigits a ++ [46]).length ≤ 20 := by rw [List.length_append, List.length_append, List.length_singleton]; omega
      generalize hT : sg ++ decDigits a ++ [46] ++ tailD 9 b = T at *
      have HT := Lib.hid hT
      clear hT HS0
      generalize sg ++ decDigits a ++ [46] = t0 at *
      go_loopw [1, 5, 6] (fun x v y wr => ∃ (p m : Nat) (t : List UInt8), p ≤ 9 ∧ m < 10 ^ p ∧ x = .int .i64 m ∧ v = .string (S t) ∧ y = .int .i64 (10 ^ p / 10 : Nat) ∧ t.length ≤ 30 - p ∧ t ++ tailD p m = T ∧ ∃ q, wr = wc.drewN q) (fun _ _ y _ => (intOf y).toNat)
      case atStart => exact ⟨9, b, t0, Nat.le_refl _, by simpa using hb, rfl, rfl, rfl, by omega, HT.out, q1, rfl⟩
      case round =>
        obtain ⟨p, m, t, hp, hm, rfl, rfl, rfl, ht, he, hq⟩ := hrel
        have HE := Lib.hid he
        have HQ := Lib.hid hq
        clear he hq
        by_cases hm0 : m = 0
        · have HN := Lib.hid (show t = T by rw [← HE.out, hm0, tailD_zero, List.append_nil])
          subst hm0
          go_wp2_with fail
          go_ret
          obtain ⟨q, rfl⟩ := HQ.out
          exact ⟨by rw [HX2.out, ← HN.out]; rfl, q, rfl⟩
        · obtain ⟨p, rfl⟩ : ∃ j, p = j + 1 := by
            cases p with
            | zero => exfalso; simp at hm; omega
            | succ j => exact ⟨j, rfl⟩
          have hpp : 0 < 10 ^ p := Nat.pow_pos (by decide)
          have hp9 : 10 ^ p ≤ 100000000 := by
            have : 10 ^ p ≤ 10 ^ 8 := Nat.pow_le_pow_right (by decide) (by omega)
            omega
          have hd : m / 10 ^ p < 10 := by
            rw [Nat.div_lt_iff_lt_mul hpp]
            rw [Nat.pow_succ, Nat.mul_comm] at hm
            exact hm
          have hmm : m % 10 ^ p < 10 ^ p := Nat.mod_lt _ hpp
          have h10 : 10 ^ (p + 1) / 10 = 10 ^ p := by rw [Nat.pow_succ]; exact Nat.mul_div_cancel _ (by decide)
          have HT2 := Lib.hid (show (t ++ [UInt8.ofNat (48 + m / 10 ^ p)]) ++ tailD p (m % 10 ^ p) = T by
            rw [← HE.out, tailD, if_neg hm0]; simp)
          have hdig := fun W => rdig_big 0 (m / 10 ^ p) (by simpa using hd) (by decide) W
          rw [digs_one _ hd] at hdig
          have HD := Lib.hid hdig
          have hmb : m < 1000000000 := by
            have : 10 ^ (p + 1) ≤ 10 ^ 9 := Nat.pow_le_pow_right (by decide) (by omega)
            omega
          rw [h10]
          clear hdig h10 hm
          have hqe : (m : Int) / ((10 ^ p : Nat) : Int) = ((m / 10 ^ p : Nat) : Int) := rfl
          have hre : (m : Int) % ((10 ^ p : Nat) : Int) = ((m % 10 ^ p : Nat) : Int) := rfl
          have HM := Lib.hid hmm
          have HH := Lib.hid (show 10 ^ p / 10 < 10 ^ p from Nat.div_lt_self hpp (by decide))
          clear hmm
          generalize hP : m / 10 ^ p = d at *
          generalize hR : m % 10 ^ p = m' at *
          generalize hZ : 10 ^ p = z at *
          have hZ2 := Lib.hid hZ
          clear hP hR hZ
          have hm1 : 0 < m := by omega
          have hdl : [UInt8.ofNat (48 + d)].length ≤ 1 := by simp
          generalize [UInt8.ofNat (48 + d)] = dl at *
          clear hm0
          go_wp2_with fail
          refine (HD.out _).mono ?_
          rintro e w2 ⟨rfl, q2, rfl⟩
          go_wp2_with fail
          go_roundw
          case rel =>
            obtain ⟨q, rfl⟩ := HQ.out
            refine ⟨p, m', _, by omega, by rw [hZ2.out]; exact HM.out, by rw [hre], by rw [S_append], by rw [hZ2.out]; go_num, by rw [List.length_append]; omega, HT2.out, _, World.drewN_drewN ..⟩
          case measure =>
            have := HH.out
            simp [intOf]
            omega
end Go.Proofs.YtpdknjpicaokkaaDoor
