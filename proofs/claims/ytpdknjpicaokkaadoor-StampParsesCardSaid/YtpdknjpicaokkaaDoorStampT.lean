/- The law StampParses: for every input the call returns true. -/
import Derived.Test.YtpdknjpicaokkaaDoorStampR
namespace Go.Proofs.YtpdknjpicaokkaaDoor
open Go.RowKit Go.Lib

theorem stampF_right (l : List UInt8) (h : (stampF l).2.2 = 0) : rightB (stampF l).1 (stampF l).2.1 = true := by
  unfold stampF at h ⊢
  by_cases h1 : okF (restS l) = true
  · rw [if_pos h1] at h ⊢
    by_cases h2 : rightB (valF l).1 (valF l).2 = true
    · rw [if_pos h2]; exact h2
    · rw [if_neg h2] at h; cases h
  · rw [if_neg h1] at h; cases h
theorem stampF_code (l : List UInt8) : (stampF l).2.2 = 0 ∨ (stampF l).2.2 = 2 ∨ (stampF l).2.2 = 6 := by
  unfold stampF
  split
  · split
    · exact .inl rfl
    · exact .inr (.inr rfl)
  · exact .inr (.inl rfl)
set_option maxRecDepth 100000 in
set_option maxHeartbeats 4000000 in
theorem parses_long (s : ByteArray) (w : World) (hs : s.size ≤ maxLen) (hl : 100 < s.size) (hT : TB w.heap.size w) :
    Calls Tryd.prog 10 #[.string s] w fun e w' => e = .returned (.bool true) ∧ Below w.heap.size w w' := by
  unfold maxLen at hs
  obtain ⟨l, rfl⟩ : ∃ l : List UInt8, s = S l := ⟨s.data.toList, S_eta s⟩
  rw [S_size] at hs hl
  have h1 := fun w => Parse_any l hs w
  rw [stamp_long l hl] at h1
  have H1 := Lib.hid h1
  clear h1
  go_enter Tryd.func10, Tryd.ntmps10
  go_wp2_with fail
  refine (H1.out _).mono ?_
  rintro e w1 ⟨rfl, hb1⟩
  unfold StV Stp
  go_wp2_with fail
  refine (awake_any04 _ (tbOn hT (hb1.alloc hb1.size _))).mono ?_
  rintro e w2 ⟨rfl, hb2⟩
  have hx2 := chainB0 (hb1.alloc hb1.size _) hb2
  go_wp2_with fail
  go_ret
  exact ⟨rfl, hx2⟩
set_option maxRecDepth 100000 in
set_option maxHeartbeats 4000000 in
theorem lawParses (s : ByteArray) (w : World) (hs : s.size ≤ maxLen) (hT : TB w.heap.size w) :
    Calls Tryd.prog 10 #[.string s] w fun e w' => e = .returned (.bool true) ∧ Below w.heap.size w w' := by
  by_cases hl : 100 < s.size
  · exact parses_long s w hs hl hT
  obtain ⟨l, rfl⟩ : ∃ l : List UInt8, s = S l := ⟨s.data.toList, S_eta s⟩
  have hl : ¬ 100 < l.length := hl
  have h1 := fun w => Parse_any l (by omega) w
  have h2 := fun w => rParse_any (S l) (by rw [S_size]; omega) w
  rw [S_data] at h2
  have hright := stampF_right l
  have hcode := stampF_code l
  generalize stampF l = t at *
  obtain ⟨a, b, c⟩ := t
  have H1 := Lib.hid h1
  have H2 := Lib.hid h2
  clear h1 h2 hs
  have hcode : c = 0 ∨ c = 2 ∨ c = 6 := hcode
  have hright : c = 0 → rightB a b = true := hright
  by_cases hc : c = 0
  · subst hc
    have hr := hright rfl
    have h3 := fun w hT => Text_agg a b w hT
    rw [show TxV a b = .tuple #[.string (S (textF a b)), .int .i64 0] by unfold TxV; rw [if_pos hr]] at h3
    have hlen := textF_len a b hr
    have h4 := fun w => Parse_any (textF a b) (by omega) w
    rw [stamp_back a b hr] at h4
    have H3 := Lib.hid h3
    have H4 := Lib.hid h4
    clear h3 h4 hr hright hcode
    generalize textF a b = T at *
    go_enter Tryd.func10, Tryd.ntmps10
    go_wp2_with fail
    refine (H1.out _).mono ?_
    rintro e w1 ⟨rfl, hb1⟩
    unfold StV Stp
    have hA1 := StAt.new w1 a b
    have hx1 : Below w.heap.size w (w1.alloc (.cells #[.int .i64 a, .int .i64 b] 67)) := hb1.alloc hb1.size _
    have HX1 := Lib.hid hx1
    clear hb1 hx1
    go_wp2_with fail
    refine (H2.out _).mono ?_
    rintro e w2 ⟨rfl, hw2⟩
    subst hw2
    unfold r3V
    go_wp2_with fail
    refine (H3.out _ (tbOn hT HX1.out)).mono ?_
    rintro e w3 ⟨rfl, hb3⟩
    have hA3 := hA1.below hb3
    have hx3 := chainB0 HX1.out hb3
    have d0 := hA3.c0
    have d1 := hA3.c1
    have hlt := hA3.lt
    have HX3 := Lib.hid hx3
    clear hb3 hx3
    go_wp2_with fail
    refine (H4.out _).mono ?_
    rintro e w4 ⟨rfl, hb4⟩
    have hA4 := hA3.below hb4
    have hx4 := chainB0 HX3.out hb4
    have e0 := hA4.c0
    have e1 := hA4.c1
    have hlt4 := hA4.lt
    have HX4 := Lib.hid hx4
    clear hb4 hx4 d0 d1
    unfold StV Stp
    go_wp2_with fail
    refine (awake_any04 _ (tbOn hT (HX4.out.alloc HX4.out.size _))).mono ?_
    rintro e w5 ⟨rfl, hb5⟩
    have hx5 := chainB0 (HX4.out.alloc HX4.out.size _) hb5
    go_wp2_with fail
    go_ret
    exact ⟨rfl, hx5⟩
  · have hcode2 : c = 2 ∨ c = 6 := by omega
    clear hright hcode hc
    rcases hcode2 with rfl | rfl
    all_goals
      go_enter Tryd.func10, Tryd.ntmps10
      go_wp2_with fail
      refine (H1.out _).mono ?_
      rintro e w1 ⟨rfl, hb1⟩
      unfold StV Stp
      have hx1 : Below w.heap.size w (w1.alloc (.cells #[.int .i64 a, .int .i64 b] 67)) := hb1.alloc hb1.size _
      have HX1 := Lib.hid hx1
      clear hb1 hx1
      go_wp2_with fail
      refine (H2.out _).mono ?_
      rintro e w2 ⟨rfl, hw2⟩
      subst hw2
      unfold r3V
      go_wp2_with fail
      refine (awake_any04 _ (tbOn hT HX1.out)).mono ?_
      rintro e w5 ⟨rfl, hb5⟩
      have hx5 := chainB0 HX1.out hb5
      go_wp2_with fail
      go_ret
      exact ⟨rfl, hx5⟩
end Go.Proofs.YtpdknjpicaokkaaDoor
