/- The document's reading of a stamp is the plain one. -/
import Derived.Test.YtpdknjpicaokkaaDoorStampQ
namespace Go.Proofs.YtpdknjpicaokkaaDoor
open Go.RowKit Go.Lib

theorem stamp3_no (l : List UInt8) (h : okF (restS l) = false) : r3V (stampF l).1 (stampF l).2.1 (stampF l).2.2 = .tuple #[.int .i64 0, .int .i64 0, .int .i64 2] := by rw [stampF_no l h]; rfl
theorem rest_cases (s : ByteArray) : ∃ (a0 : Nat) (mb : Bool), ((mb = true ∧ a0 = 1 ∧ ∃ h : 0 < s.size, s[0] = 45) ∨ (mb = false ∧ a0 = 0 ∧ (s.size = 0 ∨ ∃ h : 0 < s.size, s[0] ≠ 45))) ∧ mb = decide (s.data.toList.head? = some 45) ∧ a0 + (restS s.data.toList).length = s.size ∧ ∀ k, (h : k < (restS s.data.toList).length) → ∃ h2 : a0 + k < s.size, s[a0 + k] = (restS s.data.toList)[k] := by
  have hsz := size_len s
  have hg : ∀ k (h : k < s.size), s[k] = s.data.toList[k]'(by rw [hsz]; exact h) := fun k h => rfl
  by_cases hm : s.data.toList.head? = some 45
  · have h0 : 0 < s.size := by
      rw [← hsz]
      cases h : s.data.toList with
      | nil => rw [h] at hm; cases hm
      | cons => simp
    have hr : restS s.data.toList = s.data.toList.tail := by unfold restS; rw [if_pos hm]
    refine ⟨1, true, .inl ⟨rfl, rfl, h0, ?_⟩, by rw [decide_eq_true hm], by rw [hr, List.length_tail, hsz]; omega, fun k h => ?_⟩
    · rw [hg 0 h0]
      rw [List.head?_eq_getElem?, List.getElem?_eq_getElem (by rw [hsz]; exact h0)] at hm
      exact Option.some.inj hm
    · rw [hr, List.length_tail, hsz] at h
      refine ⟨by omega, ?_⟩
      rw [hg _ (by omega)]
      simp only [hr, List.getElem_tail]
      congr 1
      omega
  · have hr : restS s.data.toList = s.data.toList := by unfold restS; rw [if_neg hm]
    refine ⟨0, false, .inr ⟨rfl, rfl, ?_⟩, by rw [decide_eq_false hm], by rw [hr, hsz]; omega, fun k h => ?_⟩
    · by_cases h0 : s.size = 0
      · exact .inl h0
      · refine .inr ⟨by omega, fun e => hm ?_⟩
        rw [List.head?_eq_getElem?, List.getElem?_eq_getElem (by rw [hsz]; omega), ← hg 0 (by omega), e]
    · rw [hr, hsz] at h
      refine ⟨by omega, ?_⟩
      rw [hg _ (by omega)]
      simp only [hr, Nat.zero_add]
set_option maxRecDepth 100000 in
set_option maxHeartbeats 16000000 in
theorem rParse_any (s : ByteArray) (hs : s.size ≤ 100) (w : World) :
    Calls Tryd.prog 48 #[.string s] w fun e w' => e = .returned (r3V (stampF s.data.toList).1 (stampF s.data.toList).2.1 (stampF s.data.toList).2.2) ∧ w' = w := by
  obtain ⟨a0, mb, hstart, hmb, hlen, hget⟩ := rest_cases s
  have HNO := Lib.hid (fun h => stamp3_no s.data.toList h)
  have HV := Lib.hid (show valF s.data.toList = if s.data.toList.head? = some 45 then turnF (decN (wholeL (restS s.data.toList))) (nsecF (partL (restS s.data.toList))) else ((decN (wholeL (restS s.data.toList)) : Int), (nsecF (partL (restS s.data.toList)) : Int)) from rfl)
  have HYes := Lib.hid (fun h hr => stampF_yes s.data.toList h hr)
  have HOut := Lib.hid (fun h hr => stampF_out s.data.toList h hr)
  have hs1 : a0 ≤ 1 := by rcases hstart with ⟨_, rfl, _⟩ | ⟨_, rfl, _⟩ <;> omega
  generalize restS s.data.toList = r at *
  have HGet := Lib.hid hget
  have hlen1 : a0 + r.length ≤ s.size := by omega
  have hlen2 : s.size ≤ a0 + r.length := by omega
  have HMB := Lib.hid hmb
  clear hget hlen hmb
  go_enter Tryd.func48, Tryd.ntmps48
  go_upto_region 2 with fail
  go_cut [6] (fun v wx => v = .bool mb ∧ wx = w)
  case first =>
    rcases hstart with ⟨rfl, rfl, h0, hc⟩ | ⟨rfl, rfl, h0⟩
    · go_wp2_with fail
      go_meet
      exact ⟨rfl, rfl⟩
    · rcases h0 with h0 | ⟨h0, hc⟩
      · have h00 : ¬ 0 < s.size := by omega
        clear h0
        go_wp2_with fail
        go_meet
        exact ⟨rfl, rfl⟩
      · have hx : ((s[0].toNat : Int) == 45) = false := byte_beq' s[0] 45 45 rfl hc
        clear hc
        go_wp2_with fail
        go_meet
        exact ⟨rfl, rfl⟩
  case rest =>
    obtain ⟨rfl, rfl⟩ := hcut
    have hab : (mb = true ∧ a0 = 1) ∨ (mb = false ∧ a0 = 0) := by
      rcases hstart with ⟨h1, h2, _⟩ | ⟨h1, h2, _⟩
      · exact .inl ⟨h1, h2⟩
      · exact .inr ⟨h1, h2⟩
    clear hstart
    go_upto_if 19 with fail
    go_cut [5] (fun v wx => v = .int .i64 a0 ∧ wx = wc)
    case first =>
      rcases hab with ⟨rfl, rfl⟩ | ⟨rfl, rfl⟩
      · go_wp2_with fail
        go_meet
        exact ⟨rfl, rfl⟩
      · go_wp2_with fail
        go_meet
        exact ⟨rfl, rfl⟩
    case rest =>
      obtain ⟨rfl, rfl⟩ := hcut
      clear hab
      -- LOOPS
      go_wp2_with fail
      go_loop [5, 7, 8] (fun x y z => ∃ k : Nat, k ≤ 17 ∧ k ≤ r.length ∧ x = .int .i64 ((a0 : Int) + k) ∧ y = .int .i64 (decN (r.take k)) ∧ z = .int .i64 k ∧ AllDg (r.take k)) (fun _ _ z => 17 - (intOf z).toNat)
      case atStart => exact ⟨0, by omega, by omega, by simp, rfl, rfl, fun c hc => by cases hc⟩
      case round =>
        obtain ⟨k, hk17, hkr, rfl, rfl, rfl, hd⟩ := hrel
        have HD := Lib.hid hd
        have hv : decN (r.take k) < 100000000000000000 := by
          have h1 := decN_lt _ (r.take k) hd rfl
          have h2 : (r.take k).length ≤ 17 := by rw [List.length_take]; omega
          have h3 : 10 ^ (r.take k).length ≤ 10 ^ 17 := Nat.pow_le_pow_right (by decide) h2
          omega
        clear hd
        by_cases hlt : k < r.length
        · obtain ⟨hi, hc⟩ := HGet.out k hlt
          have hts : r.take (k + 1) = r.take k ++ [r[k]] := List.take_succ_eq_append_getElem hlt
          have HRK := Lib.hid (show r[k] = r[k] from rfl)
          generalize hcc : r[k] = c at *
          have HCC := Lib.hid hcc
          clear hcc HRK
          have hby := c.toNat_lt
          by_cases hg : dg c = true
          · have hdc := fun W => digit_any c W
            rw [hg] at hdc
            have HDC := Lib.hid hdc
            have hg2 := dgI c hg
            have HN := Lib.hid (show AllDg (r.take (k + 1)) by
              rw [hts]
              intro x hx
              rcases List.mem_append.1 hx with h | h
              · exact HD.out x h
              · rw [List.mem_singleton.1 h]; exact hg)
            have HV2 := Lib.hid (show decN (r.take (k + 1)) = 10 * decN (r.take k) + (c.toNat - 48) by rw [hts, decN_snoc])
            clear hdc hg hts
            generalize hvv : decN (r.take k) = v at *
            clear hvv
            by_cases h17 : k < 17
            · go_wp2_with fail
              refine (HDC.out _).mono ?_
              rintro e w1 ⟨rfl, hw1⟩
              subst hw1
              go_wp2_with fail
              go_round
              case rel => exact ⟨k + 1, by omega, by omega, by go_num, by rw [HV2.out]; congr 1; omega, by go_num, HN.out⟩
              case measure => simp [intOf]; omega
            · have HE := Lib.hid (HNO.out (ok_long r k (by omega) hkr HD.out))
              go_wp2_with fail
              refine (HDC.out _).mono ?_
              rintro e w1 ⟨rfl, hw1⟩
              subst hw1
              go_wp2_with fail
              go_ret3
              exact ⟨by rw [HE.out]; rfl, rfl⟩
          · have hgf : dg c = false := by simpa using hg
            have hdc := fun W => digit_any c W
            rw [hgf] at hdc
            have HDC := Lib.hid hdc
            have HG := Lib.hid hgf
            clear hdc hg hgf hts
            by_cases hk0 : k < 1
            · have HE := Lib.hid (HNO.out (by
                obtain rfl : k = 0 := by omega
                by_cases h46 : c = 46
                · exact ok_point0 r hlt (by rw [HCC.out, h46])
                · exact ok_stop r 0 hlt HD.out c HCC.out HG.out h46))
              go_wp2_with fail
              refine (HDC.out _).mono ?_
              rintro e w1 ⟨rfl, hw1⟩
              subst hw1
              go_wp2_with fail
              go_ret3
              exact ⟨by rw [HE.out]; rfl, rfl⟩
            · by_cases hk16 : 16 < k
              · have HE := Lib.hid (HNO.out (ok_long r k hk16 hkr HD.out))
                go_wp2_with fail
                refine (HDC.out _).mono ?_
                rintro e w1 ⟨rfl, hw1⟩
                subst hw1
                go_wp2_with fail
                go_ret3
                exact ⟨by rw [HE.out]; rfl, rfl⟩
              · by_cases h46 : c = 46
                · have hx46 : ((c.toNat : Int) != 46) = false := byte_bne' c 46 46 rfl h46
                  obtain ⟨o1, o2, o3⟩ := ok_dot r k hlt (by omega) (by omega) HD.out (by rw [HCC.out, h46])
                  have hpl : (r.drop (k + 1)).length = r.length - (k + 1) := List.length_drop
                  have hpget : ∀ j, (h : j < (r.drop (k + 1)).length) → ∃ h2 : a0 + k + 1 + j < s.size, s[a0 + k + 1 + j] = (r.drop (k + 1))[j] := fun j h => by
                    obtain ⟨q1, q2⟩ := HGet.out (k + 1 + j) (by omega)
                    refine ⟨by omega, ?_⟩
                    rw [List.getElem_drop, ← q2]
                    congr 1
                    omega
                  generalize r.drop (k + 1) = p at *
                  have HPG := Lib.hid hpget
                  have O1 := Lib.hid o1
                  have O2 := Lib.hid o2
                  have O3 := Lib.hid o3
                  have hpl1 : p.length ≤ r.length - (k + 1) := by omega
                  have hpl2 : r.length - (k + 1) ≤ p.length := by omega
                  clear hpget o1 o2 o3 h46 hpl
                  generalize hvv : decN (r.take k) = v at *
                  have HVV := Lib.hid hvv
                  clear hvv
                  have b1 : decide ((k : Int) < 1) = false := decide_eq_false (by omega)
                  have b2 : decide ((16 : Int) < (k : Int)) = false := decide_eq_false (by omega)
                  have b3 : decide ((a0 : Int) + (k : Int) < (s.size : Int)) = true := decide_eq_true (by omega)
                  have b4 : decide ((k : Int) < 17) = true := decide_eq_true (by omega)
                  go_wp2_with fail
                  refine (HDC.out _).mono ?_
                  rintro e w1 ⟨rfl, hw1⟩
                  subst hw1
                  go_wp2_with fail
                  -- SECOND
                  try simp only [hc]
                  go_loop [5, 9, 10] (fun x y z => ∃ j : Nat, j ≤ p.length ∧ x = .int .i64 ((a0 : Int) + k + 1 + j) ∧ y = .int .i64 (decN (p.take (min j 9))) ∧ z = .int .i64 j ∧ AllDg (p.take j)) (fun _ _ z => p.length - (intOf z).toNat)
                  case atStart => exact ⟨0, by omega, by simp, rfl, rfl, fun c hc => by cases hc⟩
                  case round =>
                    obtain ⟨j, hj, rfl, rfl, rfl, hd2⟩ := hrel
                    have HD2 := Lib.hid hd2
                    have hy : decN (p.take (min j 9)) < 1000000000 := by
                      have h1 := decN_lt _ (p.take (min j 9)) (fun c hc => hd2 c (List.mem_of_mem_take (by rw [List.take_take, Nat.min_eq_left (by omega)]; exact hc : c ∈ (p.take j).take (min j 9)))) rfl
                      have h2 : (p.take (min j 9)).length ≤ 9 := by rw [List.length_take]; omega
                      have h3 : 10 ^ (p.take (min j 9)).length ≤ 10 ^ 9 := Nat.pow_le_pow_right (by decide) h2
                      omega
                    clear hd2
                    by_cases hltj : j < p.length
                    · obtain ⟨hi2, hc2⟩ := HPG.out j hltj
                      have hts2 : p.take (j + 1) = p.take j ++ [p[j]] := List.take_succ_eq_append_getElem hltj
                      have HMem := Lib.hid (List.getElem_mem hltj)
                      generalize hcc2 : p[j] = c2 at *
                      clear hcc2
                      have hby2 := c2.toNat_lt
                      by_cases hgg : dg c2 = true
                      · have hdc2 := fun W => digit_any c2 W
                        rw [hgg] at hdc2
                        have HDC2 := Lib.hid hdc2
                        have hgg2 := dgI c2 hgg
                        have HN2 := Lib.hid (show AllDg (p.take (j + 1)) by
                          rw [hts2]
                          intro x hx
                          rcases List.mem_append.1 hx with h | h
                          · exact HD2.out x h
                          · rw [List.mem_singleton.1 h]; exact hgg)
                        by_cases h9 : j < 9
                        · have HY2 := Lib.hid (show decN (p.take (min (j + 1) 9)) = 10 * decN (p.take (min j 9)) + (c2.toNat - 48) by
                            rw [Nat.min_eq_left (by omega : j + 1 ≤ 9), Nat.min_eq_left (by omega : j ≤ 9), hts2, decN_snoc])
                          clear hdc2 hgg hts2
                          generalize decN (p.take (min j 9)) = y at *
                          go_wp2_with fail
                          refine (HDC2.out _).mono ?_
                          rintro e w2 ⟨rfl, hw2⟩
                          subst hw2
                          go_wp2_with fail
                          go_round
                          case rel => exact ⟨j + 1, by omega, by go_num, by rw [HY2.out]; congr 1; omega, by go_num, HN2.out⟩
                          case measure => simp [intOf]; omega
                        · have HY2 := Lib.hid (show decN (p.take (min (j + 1) 9)) = decN (p.take (min j 9)) by
                            rw [Nat.min_eq_right (by omega : 9 ≤ j + 1), Nat.min_eq_right (by omega : 9 ≤ j)])
                          clear hdc2 hgg hts2
                          generalize decN (p.take (min j 9)) = y at *
                          go_wp2_with fail
                          refine (HDC2.out _).mono ?_
                          rintro e w2 ⟨rfl, hw2⟩
                          subst hw2
                          go_wp2_with fail
                          go_round
                          case rel => exact ⟨j + 1, by omega, by go_num, by rw [HY2.out], by go_num, HN2.out⟩
                          case measure => simp [intOf]; omega
                      · have hgf2 : dg c2 = false := by simpa using hgg
                        have hdc2 := fun W => digit_any c2 W
                        rw [hgf2] at hdc2
                        have HDC2 := Lib.hid hdc2
                        have HE := Lib.hid (HNO.out (by
                          rw [O1.out]
                          cases hb : digB p 40 with
                          | false => rfl
                          | true => have := ((digB_iff _ _).1 hb).2.2 c2 HMem.out; rw [hgf2] at this; cases this))
                        clear hdc2 hgg hgf2 hts2
                        by_cases j1 : j < 1
                        · go_wp2_with fail
                          refine (HDC2.out _).mono ?_
                          rintro e w2 ⟨rfl, hw2⟩
                          subst hw2
                          go_wp2_with fail
                          go_ret3
                          exact ⟨by rw [HE.out]; rfl, rfl⟩
                        · by_cases j2 : 40 < j
                          · go_wp2_with fail
                            refine (HDC2.out _).mono ?_
                            rintro e w2 ⟨rfl, hw2⟩
                            subst hw2
                            go_wp2_with fail
                            go_ret3
                            exact ⟨by rw [HE.out]; rfl, rfl⟩
                          · go_wp2_with fail
                            refine (HDC2.out _).mono ?_
                            rintro e w2 ⟨rfl, hw2⟩
                            subst hw2
                            go_wp2_with fail
                            go_ret3
                            exact ⟨by rw [HE.out]; rfl, rfl⟩
                    · have hje : j = p.length := by omega
                      have hpt : p.take j = p := by rw [hje, List.take_length]
                      have hpd := HD2.out
                      rw [hpt] at hpd
                      by_cases j1 : j < 1
                      · have HE := Lib.hid (HNO.out (by rw [O1.out, List.eq_nil_of_length_eq_zero (show p.length = 0 by omega)]; rfl))
                        clear hpt hpd hje
                        go_wp2_with fail
                        go_ret3
                        exact ⟨by rw [HE.out]; rfl, rfl⟩
                      · by_cases j2 : 40 < j
                        · have HE := Lib.hid (HNO.out (by
                            rw [O1.out]
                            cases hb : digB p 40 with
                            | false => rfl
                            | true => have := ((digB_iff _ _).1 hb).2.1; omega))
                          clear hpt hpd hje
                          go_wp2_with fail
                          go_ret3
                          exact ⟨by rw [HE.out]; rfl, rfl⟩
                        · have O1' := Lib.hid (show okF r = true by rw [O1.out]; exact (digB_iff _ _).2 ⟨fun e => by rw [e] at hje; simp at hje; omega, by omega, hpd⟩)
                          have HPJ := Lib.hid hpt
                          have HPD := Lib.hid hpd
                          have HJE := Lib.hid hje
                          clear O1 hpt hpd
                          have O1 := O1'
                          clear O1'
                          clear hje
                          go_wp2_with fail
                          go_loop [9, 10] (fun y z => ∃ i : Nat, j ≤ i ∧ (i = j ∨ i ≤ 9) ∧ z = .int .i64 i ∧ y = .int .i64 (decN (p.take (min j 9)) * 10 ^ (i - j) : Nat)) (fun _ z => 9 - (intOf z).toNat)
                          case atStart => exact ⟨j, Nat.le_refl _, .inl rfl, rfl, by rw [Nat.sub_self, Nat.pow_zero, Nat.mul_one]⟩
                          case round =>
                            obtain ⟨i, hi1, hi3, rfl, rfl⟩ := hrel
                            by_cases hi9 : i < 9
                            · have hb10 : decN (p.take (min j 9)) * 10 ^ (i - j) < 1000000000 := by
                                have h1 : decN (p.take (min j 9)) < 10 ^ j := by
                                  rw [Nat.min_eq_left (by omega), HPJ.out]
                                  exact decN_lt j p HPD.out HJE.out.symm
                                have h2 : decN (p.take (min j 9)) * 10 ^ (i - j) < 10 ^ j * 10 ^ (i - j) := Nat.mul_lt_mul_of_pos_right h1 (Nat.pow_pos (by decide))
                                rw [← Nat.pow_add, show j + (i - j) = i by omega] at h2
                                have h3 : 10 ^ i ≤ 10 ^ 9 := Nat.pow_le_pow_right (by decide) (by omega)
                                omega
                              have HNX := Lib.hid (show decN (p.take (min j 9)) * 10 ^ (i + 1 - j) = 10 * (decN (p.take (min j 9)) * 10 ^ (i - j)) by
                                rw [show i + 1 - j = (i - j) + 1 by omega, Nat.pow_succ, ← Nat.mul_assoc, Nat.mul_comm])
                              generalize decN (p.take (min j 9)) * 10 ^ (i - j) = y at *
                              clear hi3
                              go_wp2_with fail
                              go_round
                              case rel => exact ⟨i + 1, by omega, .inr (by omega), by go_num, by rw [HNX.out]; go_num⟩
                              case measure => simp [intOf]; omega
                            · have hyv : decN (p.take (min j 9)) * 10 ^ (i - j) = nsecF (46 :: p) ∧ nsecF (46 :: p) < 1000000000 := by
                                have hne : p ≠ [] := fun e => by have := HJE.out; rw [e] at this; simp at this; omega
                                have hlt9 := (nsec_val (46 :: p) (by simp) (by rw [List.drop_one, List.tail_cons]; exact (digB_iff _ _).2 ⟨hne, by have := HJE.out; omega, HPD.out⟩)).2.2
                                refine ⟨?_, hlt9⟩
                                have hjp := HJE.out
                                by_cases hj9 : j ≤ 9
                                · rw [Nat.min_eq_left hj9, HPJ.out, nsec_of p hne (by omega)]
                                  congr 2
                                  omega
                                · rw [Nat.min_eq_right (by omega), nsec_long p (by omega), show i - j = 0 by omega, Nat.pow_zero, Nat.mul_one]
                              rw [hyv.1]
                              have hyb := hyv.2
                              have O4 := Lib.hid (show nsecF (partL r) = nsecF (46 :: p) by rw [O3.out])
                              clear hyv hi3 hy
                              generalize nsecF (46 :: p) = y at *
                              by_cases hy0 : y = 0
                              · subst hy0
                                cases mb with
                                | true =>
                                  have hm : s.data.toList.head? = some 45 := by have := HMB.out; simpa using this
                                  have hval : valF s.data.toList = (-(v : Int), 0) := by rw [HV.out, if_pos hm, O2.out, HVV.out, O4.out]; unfold turnF; rw [if_pos (by rfl)]
                                  cases hR : rightB (-(v : Int)) (0) with
                                  | true =>
                                    have HE := Lib.hid (show r3V (stampF s.data.toList).1 (stampF s.data.toList).2.1 (stampF s.data.toList).2.2 = .tuple #[.int .i64 (-(v : Int)), .int .i64 (0), .int .i64 0] by rw [HYes.out O1.out (by rw [hval]; exact hR), hval]; rfl)
                                    have hRR := fun W => rRight_any (-(v : Int)) (0) W
                                    rw [hR] at hRR
                                    have HRR := Lib.hid hRR
                                    clear hval hR hRR
                                    go_wp2_with fail
                                    refine (HRR.out _).mono ?_
                                    rintro e w8 ⟨rfl, hw8⟩
                                    subst hw8
                                    go_wp2_with fail
                                    go_ret3
                                    exact ⟨by rw [HE.out]; rfl, rfl⟩
                                  | false =>
                                    have HE := Lib.hid (show r3V (stampF s.data.toList).1 (stampF s.data.toList).2.1 (stampF s.data.toList).2.2 = .tuple #[.int .i64 0, .int .i64 0, .int .i64 6] by rw [HOut.out O1.out (by rw [hval]; exact hR)]; rfl)
                                    have hRR := fun W => rRight_any (-(v : Int)) (0) W
                                    rw [hR] at hRR
                                    have HRR := Lib.hid hRR
                                    clear hval hR hRR
                                    go_wp2_with fail
                                    refine (HRR.out _).mono ?_
                                    rintro e w8 ⟨rfl, hw8⟩
                                    subst hw8
                                    go_wp2_with fail
                                    go_ret3
                                    exact ⟨by rw [HE.out]; rfl, rfl⟩
                                | false =>
                                  have hm : ¬ s.data.toList.head? = some 45 := by have := HMB.out; simpa using this
                                  have hval : valF s.data.toList = ((v : Int), 0) := by rw [HV.out, if_neg hm, O2.out, HVV.out, O4.out]; rfl
                                  cases hR : rightB ((v : Int)) (0) with
                                  | true =>
                                    have HE := Lib.hid (show r3V (stampF s.data.toList).1 (stampF s.data.toList).2.1 (stampF s.data.toList).2.2 = .tuple #[.int .i64 ((v : Int)), .int .i64 (0), .int .i64 0] by rw [HYes.out O1.out (by rw [hval]; exact hR), hval]; rfl)
                                    have hRR := fun W => rRight_any ((v : Int)) (0) W
                                    rw [hR] at hRR
                                    have HRR := Lib.hid hRR
                                    clear hval hR hRR
                                    go_wp2_with fail
                                    refine (HRR.out _).mono ?_
                                    rintro e w8 ⟨rfl, hw8⟩
                                    subst hw8
                                    go_wp2_with fail
                                    go_ret3
                                    exact ⟨by rw [HE.out]; rfl, rfl⟩
                                  | false =>
                                    have HE := Lib.hid (show r3V (stampF s.data.toList).1 (stampF s.data.toList).2.1 (stampF s.data.toList).2.2 = .tuple #[.int .i64 0, .int .i64 0, .int .i64 6] by rw [HOut.out O1.out (by rw [hval]; exact hR)]; rfl)
                                    have hRR := fun W => rRight_any ((v : Int)) (0) W
                                    rw [hR] at hRR
                                    have HRR := Lib.hid hRR
                                    clear hval hR hRR
                                    go_wp2_with fail
                                    refine (HRR.out _).mono ?_
                                    rintro e w8 ⟨rfl, hw8⟩
                                    subst hw8
                                    go_wp2_with fail
                                    go_ret3
                                    exact ⟨by rw [HE.out]; rfl, rfl⟩
                              · have hy1 : (0 : Int) < (y : Int) := by omega
                                cases mb with
                                | true =>
                                  have hm : s.data.toList.head? = some 45 := by have := HMB.out; simpa using this
                                  have hval : valF s.data.toList = (-(v : Int) - 1, 1000000000 - (y : Int)) := by rw [HV.out, if_pos hm, O2.out, HVV.out, O4.out]; unfold turnF; rw [if_neg (by omega)]
                                  cases hR : rightB (-(v : Int) - 1) (1000000000 - (y : Int)) with
                                  | true =>
                                    have HE := Lib.hid (show r3V (stampF s.data.toList).1 (stampF s.data.toList).2.1 (stampF s.data.toList).2.2 = .tuple #[.int .i64 (-(v : Int) - 1), .int .i64 (1000000000 - (y : Int)), .int .i64 0] by rw [HYes.out O1.out (by rw [hval]; exact hR), hval]; rfl)
                                    have hRR := fun W => rRight_any (-(v : Int) - 1) (1000000000 - (y : Int)) W
                                    rw [hR] at hRR
                                    have HRR := Lib.hid hRR
                                    clear hval hR hRR
                                    go_wp2_with fail
                                    refine (HRR.out _).mono ?_
                                    rintro e w8 ⟨rfl, hw8⟩
                                    subst hw8
                                    go_wp2_with fail
                                    go_ret3
                                    exact ⟨by rw [HE.out]; rfl, rfl⟩
                                  | false =>
                                    have HE := Lib.hid (show r3V (stampF s.data.toList).1 (stampF s.data.toList).2.1 (stampF s.data.toList).2.2 = .tuple #[.int .i64 0, .int .i64 0, .int .i64 6] by rw [HOut.out O1.out (by rw [hval]; exact hR)]; rfl)
                                    have hRR := fun W => rRight_any (-(v : Int) - 1) (1000000000 - (y : Int)) W
                                    rw [hR] at hRR
                                    have HRR := Lib.hid hRR
                                    clear hval hR hRR
                                    go_wp2_with fail
                                    refine (HRR.out _).mono ?_
                                    rintro e w8 ⟨rfl, hw8⟩
                                    subst hw8
                                    go_wp2_with fail
                                    go_ret3
                                    exact ⟨by rw [HE.out]; rfl, rfl⟩
                                | false =>
                                  have hm : ¬ s.data.toList.head? = some 45 := by have := HMB.out; simpa using this
                                  have hval : valF s.data.toList = ((v : Int), (y : Int)) := by rw [HV.out, if_neg hm, O2.out, HVV.out, O4.out]
                                  cases hR : rightB ((v : Int)) ((y : Int)) with
                                  | true =>
                                    have HE := Lib.hid (show r3V (stampF s.data.toList).1 (stampF s.data.toList).2.1 (stampF s.data.toList).2.2 = .tuple #[.int .i64 ((v : Int)), .int .i64 ((y : Int)), .int .i64 0] by rw [HYes.out O1.out (by rw [hval]; exact hR), hval]; rfl)
                                    have hRR := fun W => rRight_any ((v : Int)) ((y : Int)) W
                                    rw [hR] at hRR
                                    have HRR := Lib.hid hRR
                                    clear hval hR hRR
                                    go_wp2_with fail
                                    refine (HRR.out _).mono ?_
                                    rintro e w8 ⟨rfl, hw8⟩
                                    subst hw8
                                    go_wp2_with fail
                                    go_ret3
                                    exact ⟨by rw [HE.out]; rfl, rfl⟩
                                  | false =>
                                    have HE := Lib.hid (show r3V (stampF s.data.toList).1 (stampF s.data.toList).2.1 (stampF s.data.toList).2.2 = .tuple #[.int .i64 0, .int .i64 0, .int .i64 6] by rw [HOut.out O1.out (by rw [hval]; exact hR)]; rfl)
                                    have hRR := fun W => rRight_any ((v : Int)) ((y : Int)) W
                                    rw [hR] at hRR
                                    have HRR := Lib.hid hRR
                                    clear hval hR hRR
                                    go_wp2_with fail
                                    refine (HRR.out _).mono ?_
                                    rintro e w8 ⟨rfl, hw8⟩
                                    subst hw8
                                    go_wp2_with fail
                                    go_ret3
                                    exact ⟨by rw [HE.out]; rfl, rfl⟩
                · have hx46 : ((c.toNat : Int) != 46) = true := byte_bne c 46 46 rfl h46
                  have HE := Lib.hid (HNO.out (ok_stop r k hlt HD.out c HCC.out HG.out h46))
                  clear h46
                  go_wp2_with fail
                  refine (HDC.out _).mono ?_
                  rintro e w1 ⟨rfl, hw1⟩
                  subst hw1
                  go_wp2_with fail
                  go_ret3
                  exact ⟨by rw [HE.out]; rfl, rfl⟩
        · have hke : k = r.length := by omega
          have hd := HD.out
          have hts : r.take k = r := by rw [hke, List.take_length]
          rw [hts] at hd hv ⊢
          by_cases hk0 : k < 1
          · have hr0 : r = [] := List.eq_nil_of_length_eq_zero (by omega)
            have HE := Lib.hid (HNO.out (by rw [hr0]; rfl))
            clear hd hts hr0 hke
            go_wp2_with fail
            go_ret3
            exact ⟨by rw [HE.out]; rfl, rfl⟩
          · by_cases hk16 : 16 < k
            · have HE := Lib.hid (HNO.out (ok_long r k hk16 hkr HD.out))
              clear hd hts hke
              go_wp2_with fail
              go_ret3
              exact ⟨by rw [HE.out]; rfl, rfl⟩
            · obtain ⟨o1, o2, o3⟩ := ok_end r (fun e => by rw [e] at hke; simp at hke; omega) (by omega) hd
              have O1 := Lib.hid o1
              have O2 := Lib.hid o2
              have O3 := Lib.hid o3
              clear hd hts o1 o2 o3 hke
              cases mb with
              | true =>
                have hm : s.data.toList.head? = some 45 := by have := HMB.out; simpa using this
                have hval : valF s.data.toList = (-(decN r : Int), 0) := by rw [HV.out, if_pos hm, O3.out, O2.out, nsec_nil]; unfold turnF; rw [if_pos (by rfl)]
                cases hR : rightB (-(decN r : Int)) (0) with
                | true =>
                  have HE := Lib.hid (show r3V (stampF s.data.toList).1 (stampF s.data.toList).2.1 (stampF s.data.toList).2.2 = .tuple #[.int .i64 (-(decN r : Int)), .int .i64 (0), .int .i64 0] by rw [HYes.out O1.out (by rw [hval]; exact hR), hval]; rfl)
                  have hRR := fun W => rRight_any (-(decN r : Int)) (0) W
                  rw [hR] at hRR
                  have HRR := Lib.hid hRR
                  clear hval hR hRR
                  go_wp2_with fail
                  refine (HRR.out _).mono ?_
                  rintro e w8 ⟨rfl, hw8⟩
                  subst hw8
                  go_wp2_with fail
                  go_ret3
                  exact ⟨by rw [HE.out]; rfl, rfl⟩
                | false =>
                  have HE := Lib.hid (show r3V (stampF s.data.toList).1 (stampF s.data.toList).2.1 (stampF s.data.toList).2.2 = .tuple #[.int .i64 0, .int .i64 0, .int .i64 6] by rw [HOut.out O1.out (by rw [hval]; exact hR)]; rfl)
                  have hRR := fun W => rRight_any (-(decN r : Int)) (0) W
                  rw [hR] at hRR
                  have HRR := Lib.hid hRR
                  clear hval hR hRR
                  go_wp2_with fail
                  refine (HRR.out _).mono ?_
                  rintro e w8 ⟨rfl, hw8⟩
                  subst hw8
                  go_wp2_with fail
                  go_ret3
                  exact ⟨by rw [HE.out]; rfl, rfl⟩
              | false =>
                have hm : ¬ s.data.toList.head? = some 45 := by have := HMB.out; simpa using this
                have hval : valF s.data.toList = ((decN r : Int), 0) := by rw [HV.out, if_neg hm, O3.out, O2.out, nsec_nil]; rfl
                cases hR : rightB ((decN r : Int)) (0) with
                | true =>
                  have HE := Lib.hid (show r3V (stampF s.data.toList).1 (stampF s.data.toList).2.1 (stampF s.data.toList).2.2 = .tuple #[.int .i64 ((decN r : Int)), .int .i64 (0), .int .i64 0] by rw [HYes.out O1.out (by rw [hval]; exact hR), hval]; rfl)
                  have hRR := fun W => rRight_any ((decN r : Int)) (0) W
                  rw [hR] at hRR
                  have HRR := Lib.hid hRR
                  clear hval hR hRR
                  go_wp2_with fail
                  refine (HRR.out _).mono ?_
                  rintro e w8 ⟨rfl, hw8⟩
                  subst hw8
                  go_wp2_with fail
                  go_ret3
                  exact ⟨by rw [HE.out]; rfl, rfl⟩
                | false =>
                  have HE := Lib.hid (show r3V (stampF s.data.toList).1 (stampF s.data.toList).2.1 (stampF s.data.toList).2.2 = .tuple #[.int .i64 0, .int .i64 0, .int .i64 6] by rw [HOut.out O1.out (by rw [hval]; exact hR)]; rfl)
                  have hRR := fun W => rRight_any ((decN r : Int)) (0) W
                  rw [hR] at hRR
                  have HRR := Lib.hid hRR
                  clear hval hR hRR
                  go_wp2_with fail
                  refine (HRR.out _).mono ?_
                  rintro e w8 ⟨rfl, hw8⟩
                  subst hw8
                  go_wp2_with fail
                  go_ret3
                  exact ⟨by rw [HE.out]; rfl, rfl⟩
end Go.Proofs.YtpdknjpicaokkaaDoor
