/- The law StampTexts: for every input the call returns true. -/
import Derived.Test.YtpdknjpicaokkaaDoorStampO
namespace Go.Proofs.YtpdknjpicaokkaaDoor
open Go.RowKit Go.Lib

theorem Text_agg (s n : Int) (w : World) (hT : TB w.heap.size w) :
    Calls Tryd.prog 49 #[.agg #[.int .i64 s, .int .i64 n]] w fun e w' => e = .returned (TxV s n) ∧ Below w.heap.size w w' := Text_any s n w hT
theorem textF_len (s n : Int) (h : rightB s n = true) : (textF s n).length ≤ 100 := by
  obtain ⟨sg, a, b, ha, hb, htx, hcase⟩ := text_parts s n h
  have hda := digs_len 15 a ha
  have hsg : sg.length ≤ 1 := by rcases hcase with ⟨_, rfl, _⟩ | ⟨_, rfl, _⟩ <;> simp
  have hf : (fracT b).length ≤ 9 := by
    have h1 := (trim_eq0 (frac9 b) 48).2
    rw [(digs_big b hb).2.1] at h1
    exact h1
  rw [htx, List.length_append]
  unfold bodyT
  rw [List.length_append]
  split
  · simp; omega
  · simp; omega
set_option maxRecDepth 100000 in
set_option maxHeartbeats 8000000 in
theorem lawTexts (s n : Int) (w : World) (hT : TB w.heap.size w) :
    Calls Tryd.prog 11 #[.agg #[.int .i64 s, .int .i64 n]] w fun e w' => e = .returned (.bool true) ∧ Below w.heap.size w w' := by
  have HR1 := Lib.hid (fun w => sRight_agg s n w)
  have HR2 := Lib.hid (fun w => rRight_any s n w)
  have h1 := fun w hT => Text_agg s n w hT
  cases h : rightB s n with
  | false =>
    rw [h] at HR1 HR2
    have e1 : TxV s n = .tuple #[.string (S []), .int .i64 1] := by unfold TxV; rw [h]; rfl
    rw [e1] at h1
    have H1 := Lib.hid h1
    clear h h1 e1
    go_enter Tryd.func11, Tryd.ntmps11
    go_wp2_with fail
    refine (H1.out _ (tbOn hT ((Below.refl _ _).alloc (Nat.le_refl _) _))).mono ?_
    rintro e w1 ⟨rfl, hb1⟩
    have hA1 := (StAt.new w s n).below hb1
    have hx1 : Below w.heap.size w w1 := ((Below.refl _ _).alloc (Nat.le_refl _) _).trans (hb1.mono (by simp))
    have HX1 := Lib.hid hx1
    have c0 := hA1.c0
    have c1 := hA1.c1
    have hlt := hA1.lt
    clear hb1 hx1
    go_wp2_with fail
    have hAd : StAt w1.drew w.heap.size s n := hA1
    have hxd : Below w.heap.size w w1.drew := belowDrewN (n := 1) HX1.out
    go_region_held3 (fun W => W.cell? ⟨w.heap.size, 0, none⟩ = some (.int .i64 s) ∧ W.cell? ⟨w.heap.size, 1, none⟩ = some (.int .i64 n)) (first | assumption | exact ⟨c0, c1⟩) (first
      | (go_at_call 50; (with_reducible refine (HR1.out _).mono ?_); rintro e w2 ⟨rfl, hb2⟩; have hA2 := StAt.below (g := w.heap.size) (a := s) (b := n) (by assumption) hb2; have hx2 := chainB0 (w := w) (by assumption) hb2; have hS := And.intro hA2.c0 hA2.c1)
      | (go_at_call 51; (with_reducible refine (HR2.out _).mono ?_); rintro e w3 ⟨rfl, hw3⟩; subst hw3))
    have b0 := hA2.c0
    have b1 := hA2.c1
    have hlt2 := hA2.lt
    go_wp2_with fail
    refine (HR2.out _).mono ?_
    rintro e w4 ⟨rfl, hw4⟩
    subst hw4
    go_wp2_with fail
    refine (awake_any04 _ (tbOn hT (by assumption))).mono ?_
    rintro e w5 ⟨rfl, hb5⟩
    have hx5 := chainB0 (w := w) (by assumption) hb5
    go_wp2_with fail
    go_ret
    exact ⟨rfl, hx5⟩
  | true =>
    rw [h] at HR1 HR2
    have e1 : TxV s n = .tuple #[.string (S (textF s n)), .int .i64 0] := by unfold TxV; rw [if_pos h]
    rw [e1] at h1
    have H1 := Lib.hid h1
    have hlen := textF_len s n h
    have h2 := fun w => Parse_any (textF s n) (by omega) w
    rw [stamp_back s n h] at h2
    have H2 := Lib.hid h2
    have H3 := Lib.hid (fun w => rText_any s n h w)
    clear h h1 h2 e1
    generalize textF s n = T at *
    go_enter Tryd.func11, Tryd.ntmps11
    go_wp2_with fail
    refine (H1.out _ (tbOn hT ((Below.refl _ _).alloc (Nat.le_refl _) _))).mono ?_
    rintro e w1 ⟨rfl, hb1⟩
    have hA1 := (StAt.new w s n).below hb1
    have hx1 : Below w.heap.size w w1 := ((Below.refl _ _).alloc (Nat.le_refl _) _).trans (hb1.mono (by simp))
    have HX1 := Lib.hid hx1
    have c0 := hA1.c0
    have c1 := hA1.c1
    have hlt := hA1.lt
    clear hb1 hx1
    go_wp2_with fail
    have hAd : StAt w1.drew w.heap.size s n := hA1
    have hxd : Below w.heap.size w w1.drew := belowDrewN (n := 1) HX1.out
    go_region_held3 (fun W => W.cell? ⟨w.heap.size, 0, none⟩ = some (.int .i64 s) ∧ W.cell? ⟨w.heap.size, 1, none⟩ = some (.int .i64 n)) (first | assumption | exact ⟨c0, c1⟩) (first
      | (go_at_call 50; (with_reducible refine (HR1.out _).mono ?_); rintro e w2 ⟨rfl, hb2⟩; have hA2 := StAt.below (g := w.heap.size) (a := s) (b := n) (by assumption) hb2; have hx2 := chainB0 (w := w) (by assumption) hb2; have hS := And.intro hA2.c0 hA2.c1)
      | (go_at_call 51; (with_reducible refine (HR2.out _).mono ?_); rintro e w3 ⟨rfl, hw3⟩; subst hw3))
    have b0 := hA2.c0
    have b1 := hA2.c1
    have hlt2 := hA2.lt
    go_wp2_with fail
    refine (HR2.out _).mono ?_
    rintro e w4 ⟨rfl, hw4⟩
    subst hw4
    go_wp2_with fail
    refine (H2.out _).mono ?_
    rintro e w5 ⟨rfl, hb5⟩
    have hA5 := StAt.below hA2 hb5
    have hx5 := chainB0 (w := w) hx2 hb5
    have HX5 := Lib.hid hx5
    have d0 := hA5.c0
    have d1 := hA5.c1
    have hlt5 := hA5.lt
    clear hx5 hb5 b0 b1
    unfold StV Stp
    go_wp2_with fail
    refine (H3.out _).mono ?_
    rintro e w6 ⟨rfl, m, rfl⟩
    go_wp2_with fail
    refine (awake_any04 _ (tbOn hT (belowDrewN (HX5.out.alloc HX5.out.size _)))).mono ?_
    rintro e w7 ⟨rfl, hb7⟩
    have hx7 := chainB0 (w := w) (belowDrewN (HX5.out.alloc HX5.out.size _)) hb7
    go_wp2_with fail
    go_ret
    exact ⟨rfl, hx7⟩
end Go.Proofs.YtpdknjpicaokkaaDoor
