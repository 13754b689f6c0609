/- The laws WhenDays and WhenNumbers: for every input the law's call returns true and changes nothing that was there. No condition. -/
import Derived.Test.YtpfblnegaipgdaaWhenF
namespace Go.Proofs.Ytpfblnegaipgdaa
open Go.RowKit

theorem chain {w u v : World} (h : Below w.heap.size w u) (k : Below u.heap.size u v) : Below w.heap.size w v := h.trans (k.mono h.size)
theorem wd_bd (n : Int) : 0 ≤ wdI n ∧ wdI n ≤ 6 := by unfold wdI; omega
theorem wd_succ (n : Int) : wdI (n + 1) = (wdI n + 1) % 7 := by unfold wdI; omega

set_option maxRecDepth 100000 in
set_option maxHeartbeats 1000000 in
theorem lawDays (y m d : Int) (w : World) (y0 : -9223372036854775808 ≤ y) (y1 : y ≤ 9223372036854775807) (m0 : -9223372036854775808 ≤ m) (m1 : m ≤ 9223372036854775807) (d0 : -9223372036854775808 ≤ d) (d1 : d ≤ 9223372036854775807) :
    Calls Try.prog 5 #[.int .i64 y, .int .i64 m, .int .i64 d] w fun e w' => e = .returned (.bool true) ∧ Below w.heap.size w w' := by
  by_cases hM : mayB y m d = true
  · obtain ⟨h1, h2, h3, h4, h5, h6⟩ := (may_iff y m d).1 hM
    have hn := num_bd y m d hM
    have hr := num_ref y m d h1 h3 h4
    have h31 : d ≤ 31 := by
      have := len_mon y m h3 h4
      have := mon_bd (febI y) (m.toNat - 1) (feb_bd y) (by omega)
      omega
    have hinj := fun y' m' d' => num_inj y' m' d' y m d
    have HM := Lib.hid hM
    have HR := Lib.hid hr.symm
    have HI := Lib.hid hinj
    have hlo := hn.2.2.1
    have hhi := hn.2.2.2
    clear hM hr hinj hn h6
    have N1 := number_yes y m d w HM.out
    generalize hg : numI y m d = n at *
    have HG := Lib.hid hg
    clear hg
    go_enter Try.func5, Try.ntmps5
    go_wp2_with fail
    refine N1.mono ?_
    rintro e w1 ⟨rfl, hb1⟩
    unfold NumV
    go_wp2_with fail
    refine (rmay_any y m d _).mono ?_
    rintro e w' ⟨rfl, rfl⟩
    rw [HM.out]
    go_wp2_with fail
    refine (day_yes n _ hlo hhi).mono ?_
    rintro e w2 ⟨⟨y', m', d', q1, q2, rfl⟩, hb2⟩
    obtain ⟨rfl, rfl, rfl⟩ := HI.out y' m' d' q1 HM.out q2
    clear q1 q2 N1
    unfold DayV
    go_wp2_with fail
    refine (rnum_any y' m' d' _ h1 h2 h3 h4 h5 h31).mono ?_
    rintro e w' ⟨rfl, rfl⟩
    rw [HR.out]
    have wb := wd_bd n
    have w0 : wdI 0 = 4 := by decide
    have W0 := Lib.hid w0
    have WS := Lib.hid (wd_succ n)
    clear w0
    go_wp2_with fail
    refine (weekday_any _ _ (by omega) (by omega)).mono ?_
    rintro e w' ⟨rfl, rfl⟩
    rw [WS.out]
    go_wp2_with fail
    refine (weekday_any _ _ (by omega) (by omega)).mono ?_
    rintro e w' ⟨rfl, rfl⟩
    go_wp2_with fail
    refine (weekday_any _ _ (by omega) (by omega)).mono ?_
    rintro e w' ⟨rfl, rfl⟩
    rw [W0.out]
    go_wp2_with fail
    refine (awake29 _).mono ?_
    rintro e w3 ⟨rfl, hb3⟩
    go_wp2_with fail
    go_ret
    exact ⟨rfl, chain (chain hb1 hb2) hb3⟩
  · simp only [Bool.not_eq_true] at hM
    have N1 := number_no y m d w hM y0 y1 m0 m1 d0 d1
    have HM := Lib.hid hM
    clear hM
    go_enter Try.func5, Try.ntmps5
    go_wp2_with fail
    refine N1.mono ?_
    rintro e w1 ⟨rfl, hb1⟩
    unfold NumV
    go_wp2_with fail
    refine (rmay_any y m d _).mono ?_
    rintro e w' ⟨rfl, rfl⟩
    rw [HM.out]
    go_wp2_with fail
    refine (awake29 _).mono ?_
    rintro e w2 ⟨rfl, hb2⟩
    go_wp2_with fail
    go_ret
    exact ⟨rfl, chain hb1 hb2⟩

theorem wd_ref (n : Int) : wdI n = (n.tmod 7 + 11).tmod 7 := by
  have hm : n.tmod 7 = if 0 ≤ n then n % 7 else -((-n) % 7) := by
    split
    · rename_i h; exact Int.tmod_eq_emod_of_nonneg h
    · rename_i h
      have h2 := Int.neg_tmod (-n) 7
      rw [Int.neg_neg] at h2
      rw [h2, Int.tmod_eq_emod_of_nonneg (by omega)]
  rw [Int.tmod_eq_emod_of_nonneg (by rw [hm]; split <;> omega), hm]
  unfold wdI
  split <;> omega

theorem tmod_bd (n : Int) : -6 ≤ n.tmod 7 ∧ n.tmod 7 ≤ 6 := by
  have h1 := Int.tmod_lt_of_pos n (show (0 : Int) < 7 by decide)
  have h2 := Int.tmod_lt_of_pos (-n) (show (0 : Int) < 7 by decide)
  rw [Int.neg_tmod] at h2
  omega
/-- the two boxes of the law's times, and nothing older written -/
def Two (n : Nat) (w : World) (a b c d : Int) (u : World) : Prop := Below n w u ∧ StAt u n a b ∧ StAt u (n + 1) c d
theorem Two.keep {n : Nat} {w u v : World} {a b c d : Int} (h : Two n w a b c d u) (hb : Below u.heap.size u v) : Two n w a b c d v := by
  have l1 : n + 1 < u.heap.size := by
    rcases Nat.lt_or_ge (n + 1) u.heap.size with k | k
    · exact k
    · have := h.2.2
      unfold StAt at this
      rw [Array.getElem?_eq_none k] at this; cases this
  exact ⟨h.1.trans (hb.mono (by omega)), h.2.1.below hb (by omega), h.2.2.below hb (by omega)⟩
theorem Two.new (w : World) (a b c d : Int) : Two w.heap.size w a b c d ((w.alloc (.cells #[.int .i64 a, .int .i64 b] 37)).alloc (.cells #[.int .i64 c, .int .i64 d] 37)) := by
  refine ⟨((Below.refl _ _).alloc (Nat.le_refl _) _).alloc (by simp) _, ?_, ?_⟩
  · unfold StAt
    rw [Below.heap_alloc _ _ _ (by simp)]
    exact heap_alloc_new _ _
  · have := heap_alloc_new (w.alloc (.cells #[.int .i64 a, .int .i64 b] 37)) (.cells #[.int .i64 c, .int .i64 d] 37)
    unfold StAt
    simpa using this
theorem Two.drew {n : Nat} {w u : World} {a b c d : Int} (h : Two n w a b c d u) : Two n w a b c d u.drew := ⟨h.1.drew, h.2.1, h.2.2⟩
theorem Two.c {n : Nat} {w u : World} {a b c d : Int} (h : Two n w a b c d u) : u.cell? ⟨n, 0, none⟩ = some (.int .i64 a) ∧ u.cell? ⟨n, 1, none⟩ = some (.int .i64 b) ∧ u.cell? ⟨n + 1, 0, none⟩ = some (.int .i64 c) ∧ u.cell? ⟨n + 1, 1, none⟩ = some (.int .i64 d) :=
  ⟨h.2.1.c0, h.2.1.c1, h.2.2.c0, h.2.2.c1⟩

set_option maxRecDepth 100000 in
set_option maxHeartbeats 1000000 in
theorem lawNumbers (n a b c d : Int) (w : World) (n0 : -9223372036854775808 ≤ n) (n1 : n ≤ 9223372036854775807) :
    Calls Try.prog 6 #[.int .i64 n, StV a b, StV c d] w fun e w' => e = .returned (.bool true) ∧ Below w.heap.size w w' := by
  have wb1 := (wd_bd n).1
  have wb2 := (wd_bd n).2
  have tb1 := (tmod_bd n).1
  have tb2 := (tmod_bd n).2
  have WR : (wdI n != (n.tmod 7 + 11) % 7) = false := by
    have := wd_ref n
    rw [Int.tmod_eq_emod_of_nonneg (by omega)] at this
    rw [← this]; simp
  have R1 := Lib.hid (show refNum 1 1 1 = -719162 by decide)
  have R2 := Lib.hid (show refNum 9999 12 31 = 2932896 by decide)
  have HC : ∀ v : World, Calls Try.prog 17 #[.agg #[.int .i64 a, .int .i64 b], .agg #[.int .i64 c, .int .i64 d]] v fun e w' => e = .returned (.bool (decide (0 ≤ cmpI a b c d))) ∧ Below v.heap.size v w' := fun v => newer_any a b c d v
  have HR : ∀ v : World, Calls Try.prog 18 #[.int .i64 a, .int .i64 b, .int .i64 c, .int .i64 d] v fun e w' => e = .returned (.int .i64 (cmpI a b c d)) ∧ v = w' := fun v => rcmp_any a b c d v
  generalize cmpI a b c d = z at HC HR
  have HC' := Lib.hid HC
  have HR' := Lib.hid HR
  clear HC HR
  have hT := Two.new w a b c d
  by_cases h : n < -719162 ∨ 2932896 < n
  · have N1 := fun w => day_no n w h n0 n1
    unfold StV
    go_enter Try.func6, Try.ntmps6
    go_wp2_with fail
    refine (N1 _).mono ?_
    rintro e w' ⟨rfl, rfl⟩
    unfold DayV
    clear N1
    go_wp2_with fail
    refine (weekday_any _ _ (by omega) (by omega)).mono ?_
    rintro e w' ⟨rfl, rfl⟩
    go_wp2_with fail
    generalize ((w.alloc (.cells #[.int .i64 a, .int .i64 b] 37)).alloc (.cells #[.int .i64 c, .int .i64 d] 37)) = wx at hT ⊢
    obtain ⟨hB, hc0, hc1, hc2, hc3⟩ := And.intro hT hT.c
    go_region_held3 (fun w' => w'.cell? ⟨w.heap.size, 0, none⟩ = some (.int .i64 a) ∧ w'.cell? ⟨w.heap.size, 1, none⟩ = some (.int .i64 b) ∧ w'.cell? ⟨w.heap.size + 1, 0, none⟩ = some (.int .i64 c) ∧ w'.cell? ⟨w.heap.size + 1, 1, none⟩ = some (.int .i64 d) ∧ Two w.heap.size w a b c d w') (first | exact ⟨hT.c.1, hT.c.2.1, hT.c.2.2.1, hT.c.2.2.2, hT⟩ | exact ⟨hT.drew.c.1, hT.drew.c.2.1, hT.drew.c.2.2.1, hT.drew.c.2.2.2, hT.drew⟩ | exact ⟨hU.c.1, hU.c.2.1, hU.c.2.2.1, hU.c.2.2.2, hU⟩) (first
      | (go_at_call 17; refine (HC'.out _).mono ?_; rintro e v1 ⟨rfl, hc1⟩; have hU := Two.keep (by first | exact hT | exact hT.drew) hc1)
      | (go_at_call 18; refine (HR'.out _).mono ?_; rintro e v2 ⟨rfl, rfl⟩))
    have hB2 := hU.1
    rcases h with h | h
    · go_wp2_with fail
      refine (rnum_any 1 1 1 _ (by decide) (by decide) (by decide) (by decide) (by decide) (by decide)).mono ?_
      rintro e w' ⟨rfl, rfl⟩
      rw [R1.out]
      go_wp2_with fail
      refine (awake29 _).mono ?_
      rintro e w3 ⟨rfl, hb3⟩
      go_wp2_with fail
      go_ret
      exact ⟨rfl, chain hB2 hb3⟩
    · go_wp2_with fail
      refine (rnum_any 1 1 1 _ (by decide) (by decide) (by decide) (by decide) (by decide) (by decide)).mono ?_
      rintro e w' ⟨rfl, rfl⟩
      rw [R1.out]
      go_wp2_with fail
      refine (rnum_any 9999 12 31 _ (by decide) (by decide) (by decide) (by decide) (by decide) (by decide)).mono ?_
      rintro e w' ⟨rfl, rfl⟩
      rw [R2.out]
      go_wp2_with fail
      refine (awake29 _).mono ?_
      rintro e w3 ⟨rfl, hb3⟩
      go_wp2_with fail
      go_ret
      exact ⟨rfl, chain hB2 hb3⟩
  · have lo : -719162 ≤ n := by omega
    have hi : n ≤ 2932896 := by omega
    clear h
    unfold StV
    go_enter Try.func6, Try.ntmps6
    go_wp2_with fail
    refine (day_yes n _ lo hi).mono ?_
    rintro e wd ⟨⟨y, m, dd, q1, q2, rfl⟩, hbd⟩
    have Q1 := Lib.hid q1
    have Q2 := Lib.hid q2
    obtain ⟨p1, p2, p3, p4, p5, p6⟩ := (may_iff y m dd).1 q1
    have p31 : dd ≤ 31 := by
      have := len_mon y m p3 p4
      have := mon_bd (febI y) (m.toNat - 1) (feb_bd y) (by omega)
      omega
    have Q3 := Lib.hid ((num_ref y m dd p1 p3 p4).symm.trans q2)
    clear q1 q2 p6
    replace hT := hT.keep hbd
    clear hbd
    unfold DayV
    go_wp2_with fail
    refine (weekday_any _ _ (by omega) (by omega)).mono ?_
    rintro e w' ⟨rfl, rfl⟩
    go_wp2_with fail
    obtain ⟨hB, hc0, hc1, hc2, hc3⟩ := And.intro hT hT.c
    go_region_held3 (fun w' => w'.cell? ⟨w.heap.size, 0, none⟩ = some (.int .i64 a) ∧ w'.cell? ⟨w.heap.size, 1, none⟩ = some (.int .i64 b) ∧ w'.cell? ⟨w.heap.size + 1, 0, none⟩ = some (.int .i64 c) ∧ w'.cell? ⟨w.heap.size + 1, 1, none⟩ = some (.int .i64 d) ∧ Two w.heap.size w a b c d w') (first | exact ⟨hT.c.1, hT.c.2.1, hT.c.2.2.1, hT.c.2.2.2, hT⟩ | exact ⟨hT.drew.c.1, hT.drew.c.2.1, hT.drew.c.2.2.1, hT.drew.c.2.2.2, hT.drew⟩ | exact ⟨hU.c.1, hU.c.2.1, hU.c.2.2.1, hU.c.2.2.2, hU⟩) (first
      | (go_at_call 17; refine (HC'.out _).mono ?_; rintro e v1 ⟨rfl, hc1⟩; have hU := Two.keep (by first | exact hT | exact hT.drew) hc1)
      | (go_at_call 18; refine (HR'.out _).mono ?_; rintro e v2 ⟨rfl, rfl⟩))
    have hB2 := hU.1
    go_wp2_with fail
    refine (rnum_any 1 1 1 _ (by decide) (by decide) (by decide) (by decide) (by decide) (by decide)).mono ?_
    rintro e w' ⟨rfl, rfl⟩
    rw [R1.out]
    go_wp2_with fail
    refine (rnum_any 9999 12 31 _ (by decide) (by decide) (by decide) (by decide) (by decide) (by decide)).mono ?_
    rintro e w' ⟨rfl, rfl⟩
    rw [R2.out]
    go_wp2_with fail
    refine (rmay_any y m dd _).mono ?_
    rintro e w' ⟨rfl, rfl⟩
    rw [Q1.out]
    go_wp2_with fail
    refine (rnum_any y m dd _ p1 p2 p3 p4 p5 p31).mono ?_
    rintro e w' ⟨rfl, rfl⟩
    rw [Q3.out]
    go_wp2_with fail
    refine (awake29 _).mono ?_
    rintro e w3 ⟨rfl, hb3⟩
    go_wp2_with fail
    go_ret
    exact ⟨rfl, chain hB2 hb3⟩
end Go.Proofs.Ytpfblnegaipgdaa
