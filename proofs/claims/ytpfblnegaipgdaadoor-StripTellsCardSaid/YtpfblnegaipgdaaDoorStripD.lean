/- The law StripTells: for every input the call returns true. -/
import Derived.Test.YtpfblnegaipgdaaDoorStripC
namespace Go.Proofs.YtpfblnegaipgdaaDoor
open Go.RowKit

theorem rest_lt (l : List UInt8) (h : l ≠ []) : (restL l).length < l.length := by
  cases l with
  | nil => exact absurd rfl h
  | cons b l =>
    rw [rest_def]
    by_cases hb : b = 47
    · have e : leadL (b :: l) = leadL l := by rw [leadL, Lib.trimLeftB, List.dropWhile_cons, if_pos (by simp [hb])]; rfl
      rw [e]
      have h1 := lead_le (skipL (leadL l))
      have h2 := dropWhile_le (· != 47) (leadL l)
      have h3 := lead_le l
      have : (skipL (leadL l)).length ≤ (leadL l).length := h2
      simp only [List.length_cons]
      omega
    · have e : leadL (b :: l) = b :: l := by rw [leadL, Lib.trimLeftB, List.dropWhile_cons, if_neg (by simp [hb])]
      have e2 : skipL (b :: l) = skipL l := by rw [skipL, List.dropWhile_cons, if_pos (by simp [hb])]; rfl
      rw [e, e2]
      have h1 := lead_le (skipL l)
      have h2 : (skipL l).length ≤ l.length := dropWhile_le _ l
      simp only [List.length_cons]
      omega
theorem strip_end : ∀ (n : Nat) (l : List UInt8), l.length ≤ n → stripL n l = []
  | 0, l, h => by rw [stripL]; exact List.length_eq_zero_iff.1 (by omega)
  | n + 1, l, h => by
    rw [stripL]
    by_cases hl : l = []
    · rw [hl, rest_nil]; exact strip_nil n
    · have := rest_lt l hl
      exact strip_end n _ (by omega)
theorem strip_min (l : List UInt8) (n : Int) (h : l.length ≤ 300) : stripV l (min n 400) = stripV l n := by
  by_cases hn : n ≤ 400
  · rw [show min n 400 = n by omega]
  · rw [show min n 400 = 400 by omega]
    unfold stripV
    rw [if_neg (by omega), if_neg (by omega), strip_end _ _ (by omega), strip_end _ _ (by omega)]

set_option maxRecDepth 100000 in
set_option maxHeartbeats 1000000 in
theorem lawTells (s : ByteArray) (n : Int) (w : World) (_ : -9223372036854775808 ≤ n) (hn : n ≤ 9223372036854775807) :
    Calls Tryd.prog 8 #[.string s, .int .i64 n] w fun e w' => e = .returned (.bool true) ∧ Below w.heap.size w w' := by
  by_cases hs : 300 < s.size
  · clear hn
    go_enter Tryd.func8, Tryd.ntmps8
    go_wp2_with fail
    refine (awake_any26 _).mono ?_
    rintro e w1 ⟨rfl, hb⟩
    go_wp2_with fail
    go_ret
    exact ⟨rfl, hb⟩
  obtain ⟨l, rfl⟩ : ∃ l : List UInt8, s = S l := ⟨s.data.toList, S_eta s⟩
  have hs : ¬ 300 < l.length := hs
  have h1 := fun w => Strip_any l n (by omega) w
  have h2 := fun w => rStrip_any (S l) (min n 400) (by show l.length ≤ _; omega) (by omega) w
  rw [S_data, strip_min l n (by omega)] at h2
  rw [strip_val] at h1 h2
  have H1 := Lib.hid h1
  have H2 := Lib.hid h2
  clear h1 h2 hn
  generalize stripS l n = p at *
  generalize stripOk l n = q at *
  go_enter Tryd.func8, Tryd.ntmps8
  go_wp2_with fail
  refine (H1.out _).mono ?_
  rintro e w1 ⟨rfl, rfl⟩
  go_wp2_with fail
  refine (H2.out _).mono ?_
  rintro e w1 ⟨rfl, rfl⟩
  go_wp2_with fail
  refine (awake_any26 _).mono ?_
  rintro e w1 ⟨rfl, hb⟩
  go_wp2_with fail
  go_ret
  exact ⟨rfl, hb⟩
end Go.Proofs.YtpfblnegaipgdaaDoor
