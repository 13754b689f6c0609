/- when.Text. -/
import Derived.Test.YtjldphpdfckjnaaDoorWhenI0
import Derived.Test.YtjldphpdfckjnaaDoorWhenC
import Derived.Test.YtjldphpdfckjnaaDoorWhenSt
import Derived.Test.YtjldphpdfckjnaaDoorRightS
namespace Go.Proofs.YtjldphpdfckjnaaDoor
open Go.RowKit Go.Lib

def secI (r : Int) : Nat := (r % 60).toNat
theorem frac_len9 (n : Nat) (h : n < 1000000000) : (fracT n).length ≤ 9 := by
  obtain ⟨_, hl, _, _⟩ := digs_big n h
  obtain ⟨_, hle⟩ := trim_eq0 (frac9 n) 48
  have hf : trimRightB (frac9 n) 48 = fracT n := rfl
  rw [hf, hl] at hle
  exact hle
set_option maxRecDepth 100000 in
theorem wText_arg (s n : Int) (h : rightB s n = false) (w : World) :
    Calls Tryd.prog 84 #[.agg #[.int .i64 s, .int .i64 n]] w fun e w' => e = .returned (.tuple #[.string (S []), .int .i64 1]) ∧ Below w.heap.size w w' := by
  have hB1 := (Below.refl w.heap.size w).alloc (Nat.le_refl _) (.cells #[.int .i64 s, .int .i64 n] 52)
  have HR := Lib.hid (show ∀ W : World, Calls Tryd.prog 112 #[.agg #[.int .i64 s, .int .i64 n]] W fun e w' => e = .returned (.bool false) ∧ Below W.heap.size W w' from fun W => by rw [← h]; exact sRight_any s n W)
  clear h
  go_enter Tryd.func84, Tryd.ntmps84
  go_wp2_with fail
  refine (HR.out _).mono ?_
  rintro e w1 ⟨rfl, hb1⟩
  go_wp2_with fail
  go_ret2
  exact ⟨rfl, chain hB1 hb1⟩
theorem StAt.new (w : World) (a b : Int) : StAt (w.alloc (.cells #[.int .i64 a, .int .i64 b] 52)) w.heap.size a b := heap_alloc_new _ _
theorem StAt.lt {w : World} {b : Nat} {s n : Int} (h : StAt w b s n) : b < w.heap.size := (Array.getElem?_eq_some_iff.1 h).1
/-- of a day's seconds: how the code parts them -/
theorem tm_parts (s : Int) : (s.tmod 86400 = s % 86400 ∨ (s.tmod 86400 < 0 ∧ s.tmod 86400 + 86400 = s % 86400)) ∧ (s - s % 86400).tdiv 86400 = s / 86400 := by
  have h1 : s - s % 86400 = 86400 * (s / 86400) := by omega
  refine ⟨?_, by rw [h1, Int.mul_tdiv_cancel_left _ (by decide)]⟩
  by_cases h : 0 ≤ s
  · exact .inl (Int.tmod_eq_emod_of_nonneg h)
  · have h2 := Int.neg_tmod (-s) 86400
    rw [Int.neg_neg, Int.tmod_eq_emod_of_nonneg (show (0 : Int) ≤ -s by omega)] at h2
    omega
/-- what stands behind the day: told by the number of the day and the seconds of it -/
def afterV (s n : Int) (V : Value) : Prop := ∀ (w : World), TB w.heap.size w → Calls Tryd.prog 84 #[.agg #[.int .i64 s, .int .i64 n]] w fun e w' => e = .returned V ∧ Below w.heap.size w w'
set_option maxRecDepth 100000 in
set_option maxHeartbeats 400000 in
theorem wText_out (s n : Int) (h : rightB s n = true) (hq : s / 86400 < -719162 ∨ 2932896 < s / 86400) (w : World) :
    Calls Tryd.prog 84 #[.agg #[.int .i64 s, .int .i64 n]] w fun e w' => e = .returned (.tuple #[.string (S []), .int .i64 6]) ∧ Below w.heap.size w w' := by
  obtain ⟨g1, g2, g3, g4⟩ := (right_iff s n).1 h
  have hB1 := (Below.refl w.heap.size w).alloc (Nat.le_refl _) (.cells #[.int .i64 s, .int .i64 n] 52)
  have HR := Lib.hid (show ∀ W : World, Calls Tryd.prog 112 #[.agg #[.int .i64 s, .int .i64 n]] W fun e w' => e = .returned (.bool true) ∧ Below W.heap.size W w' from fun W => by rw [← h]; exact sRight_any s n W)
  have HA := Lib.hid (StAt.new w s n)
  have HN := Lib.hid (fun W => day_no (s / 86400) W hq (by omega) (by omega))
  obtain ⟨hm, hd⟩ := tm_parts s
  have hr0 : 0 ≤ s % 86400 := by omega
  have hr1 : s % 86400 < 86400 := by omega
  have hq0 : -9000000000000 ≤ s / 86400 := by omega
  have hq1 : s / 86400 ≤ 9000000000000 := by omega
  clear h hq
  generalize s / 86400 = q at *
  have hwq : wrap64 q = q := IntWalk.wrap64_in q (by omega)
  go_enter Tryd.func84, Tryd.ntmps84
  go_wp2_with fail
  refine (HR.out _).mono ?_
  rintro e w1 ⟨rfl, hb1⟩
  have hB2 := chain hB1 hb1
  have hA1 := HA.out.below hb1 (by simp)
  have c0 := hA1.c0
  have c1 := hA1.c1
  clear HA hA1 hb1
  rcases hm with hm | ⟨hm1, hm2⟩
  all_goals
    generalize hr : s % 86400 = r at *
    go_wp2_with fail
    refine (HN.out _).mono ?_
    rintro e w2 ⟨rfl, rfl⟩
    unfold DayV
    go_wp2_with fail
    go_ret2
    exact ⟨rfl, hB2⟩
end Go.Proofs.YtjldphpdfckjnaaDoor
