/- The law ListingQuotes: for every text, every bytes and every flag the law's call returns true and changes nothing that was there. No condition. -/
import Derived.Test.YtebgchjffopicaaRrights
import Derived.Test.YtebgchjffopicaaLquotes2
import Derived.Test.YtebgchjffopicaaRquote
namespace Go.Proofs.Ytebgchjffopicaa
open Go.RowKit

theorem awake36 (w : World) : Calls Try.prog 11 #[] w fun e w' => e = .returned (.bool true) ∧ Below w.heap.size w w' := by
  have f1 : (rightsL 493 53 == [100, 114, 119, 120, 114, 45, 120, 114, 45, 120]) = true := by decide +kernel
  have f2 : (rightsL 2541 48 == [45, 114, 119, 115, 114, 45, 120, 114, 45, 120]) = true := by decide +kernel
  have f3 : (quoteF true [97, 32, 98] == [97, 92, 48, 52, 48, 98]) = true := by decide +kernel
  go_enter Try.func11, Try.ntmps11
  go_wp2_with fail
  refine (rights_any 493 53 _).mono ?_
  rintro e w1 ⟨rfl, hb1⟩
  go_wp2_with fail
  refine (rights_any 2541 48 _).mono ?_
  rintro e w2 ⟨rfl, hb2⟩
  go_wp2_with fail
  refine (quote_any _ _ _ (by decide)).mono ?_
  rintro e w3 ⟨rfl, hb3⟩
  have f3' : (quoteF true (ByteArray.mk #[97, 32, 98]).data.toList == [97, 92, 48, 52, 48, 98]) = true := f3
  go_wp2_with fail
  go_ret
  exact ⟨rfl, (hb1.trans (hb2.mono hb1.size)).trans (hb3.mono (Nat.le_trans hb1.size hb2.size))⟩

set_option maxHeartbeats 1000000 in
theorem lawQuotes (s t : ByteArray) (name : Bool) (w : World) :
    Calls Try.prog 3 #[.string s, .string t, .bool name] w fun e w' => e = .returned (.bool true) ∧ Below w.heap.size w w' := by
  by_cases hl : s.size ≤ 200 ∧ t.size ≤ 200
  · obtain ⟨h1, h2⟩ := hl
    have hq := quoteF_len name s.data.toList
    rw [size_len] at hq
    have hp := plainR_len name t.data.toList
    rw [size_len] at hp
    have hpq := plain_quote name s.data.toList
    have hst : (s.data.toList == s.toList) = true := by rw [ByteArray.toList_eq]; simp
    have hqq : (S (quoteF name s.data.toList)).data.toList = quoteF name s.data.toList := rfl
    rcases plain_sound name t.data.toList with ⟨g1, g2⟩ | ⟨g1, g2⟩
    · have g3 : (quoteF name (plainR name t.data.toList).1 == t.toList) = true := by rw [ByteArray.toList_eq, g2]; simp
      clear g2
      go_enter Try.func3, Try.ntmps3
      go_wp2_with fail
      refine (quote_any _ _ _ (by omega)).mono ?_
      rintro e w1 ⟨rfl, hb1⟩
      go_wp2_with fail
      refine (plainq_any _ _ _ (by simp; omega)).mono ?_
      rintro e w2 ⟨rfl, hb2⟩
      go_wp2_with fail
      refine (rquote_any _ _ _ (by omega)).mono ?_
      rintro e w3 ⟨rfl, hb3⟩
      go_wp2_with fail
      refine (plainq_any _ _ _ (by omega)).mono ?_
      rintro e w4 ⟨rfl, hb4⟩
      go_wp2_with fail
      refine (rquote_any _ _ _ (by simp; omega)).mono ?_
      rintro e w5 ⟨rfl, hb5⟩
      go_wp2_with fail
      refine (awake36 _).mono ?_
      rintro e w6 ⟨rfl, hb6⟩
      go_wp2_with fail
      go_ret
      have z1 := hb1.size
      have z2 := hb2.size
      have z3 := hb3.size
      have z4 := hb4.size
      have z5 := hb5.size
      exact ⟨rfl, ((((hb1.trans (hb2.mono (by omega))).trans (hb3.mono (by omega))).trans (hb4.mono (by omega))).trans (hb5.mono (by omega))).trans (hb6.mono (by omega))⟩
    · go_enter Try.func3, Try.ntmps3
      go_wp2_with fail
      refine (quote_any _ _ _ (by omega)).mono ?_
      rintro e w1 ⟨rfl, hb1⟩
      go_wp2_with fail
      refine (plainq_any _ _ _ (by simp; omega)).mono ?_
      rintro e w2 ⟨rfl, hb2⟩
      go_wp2_with fail
      refine (rquote_any _ _ _ (by omega)).mono ?_
      rintro e w3 ⟨rfl, hb3⟩
      go_wp2_with fail
      refine (plainq_any _ _ _ (by omega)).mono ?_
      rintro e w4 ⟨rfl, hb4⟩
      go_wp2_with fail
      refine (awake36 _).mono ?_
      rintro e w6 ⟨rfl, hb6⟩
      go_wp2_with fail
      go_ret
      have z1 := hb1.size
      have z2 := hb2.size
      have z3 := hb3.size
      have z4 := hb4.size
      exact ⟨rfl, (((hb1.trans (hb2.mono (by omega))).trans (hb3.mono (by omega))).trans (hb4.mono (by omega))).trans (hb6.mono (by omega))⟩
  · have hl2 : 200 < s.size ∨ 200 < t.size := by omega
    clear hl
    go_enter Try.func3, Try.ntmps3
    rcases hl2 with hl2 | hl2 <;> by_cases hl3 : 200 < s.size
    all_goals
      go_wp2_with (go_at_call 11; refine (awake36 _).mono ?_; rintro e w1 ⟨rfl, hb1⟩)
    all_goals (first | (exfalso; omega) | (go_ret; exact ⟨rfl, hb1⟩))
end Go.Proofs.Ytebgchjffopicaa
