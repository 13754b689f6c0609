/- The law SpanCounts: for every two numbers the law's call returns true and changes nothing that was there. No condition. -/
import Derived.Test.YtebgchjffopicaaKit
import Derived.Test.YtebgchjffopicaaShelf
namespace Go.Proofs.Ytebgchjffopicaa
open Go.RowKit

theorem right_yes (n : Int) (w : World) (h0 : 0 ≤ n) (h1 : n ≤ 1099511627776) :
    Calls Try.prog 51 #[.int .i64 n] w fun e w' => e = .returned (.bool true) ∧ w = w' := by
  go_enter Try.func51, Try.ntmps51
  go_wp2
  go_ret
  exact ⟨by first | rfl | (simp; done) | (simp; omega), rfl⟩
theorem right_no (n : Int) (w : World) (h : n < 0 ∨ 1099511627776 < n) :
    Calls Try.prog 51 #[.int .i64 n] w fun e w' => e = .returned (.bool false) ∧ w = w' := by
  rcases h with h | h
  · go_enter Try.func51, Try.ntmps51
    go_wp2
    go_ret
    exact ⟨by first | rfl | (simp; done) | (simp; omega), rfl⟩
  · have h2 : 0 ≤ n := by omega
    go_enter Try.func51, Try.ntmps51
    go_wp2
    go_ret
    exact ⟨by first | rfl | (simp; done) | (simp; omega), rfl⟩
def restI (n : Int) : Int := (512 - n % 512) % 512
theorem rest_any (n : Int) (w : World) (h0 : 0 ≤ n) (h1 : n ≤ 1099511627776) :
    Calls Try.prog 52 #[.int .i64 n] w fun e w' => e = .returned (.int .i64 (restI n)) ∧ w = w' := by
  go_enter Try.func52, Try.ntmps52
  go_wp2
  go_ret
  exact ⟨rfl, rfl⟩
theorem restI_bd (n : Int) : 0 ≤ restI n ∧ restI n < 512 := by unfold restI; omega
theorem blocks_yes (n : Int) (w : World) (h0 : 0 ≤ n) (h1 : n ≤ 1099511627776) :
    Calls Try.prog 38 #[.int .i64 n] w fun e w' => e = .returned (.tuple #[.int .i64 ((n + restI n) / 512), .int .i64 0]) ∧ w = w' := by
  obtain ⟨b0, b1⟩ := restI_bd n
  go_enter Try.func38, Try.ntmps38
  go_wp2_with fail
  refine (right_yes _ _ h0 h1).mono ?_
  rintro e w' ⟨rfl, rfl⟩
  go_wp2_with fail
  refine (rest_any _ _ h0 h1).mono ?_
  rintro e w' ⟨rfl, rfl⟩
  go_wp2_with fail
  go_ret2
  exact ⟨rfl, rfl⟩
theorem blocks_no (n : Int) (w : World) (h : n < 0 ∨ 1099511627776 < n) :
    Calls Try.prog 38 #[.int .i64 n] w fun e w' => e = .returned (.tuple #[.int .i64 0, .int .i64 6]) ∧ w = w' := by
  have H := Lib.hid h
  clear h
  go_enter Try.func38, Try.ntmps38
  go_wp2_with fail
  refine (right_no _ _ H.out).mono ?_
  rintro e w' ⟨rfl, rfl⟩
  go_wp2_with fail
  go_ret2
  exact ⟨rfl, rfl⟩
theorem padding_yes (n : Int) (w : World) (h0 : 0 ≤ n) (h1 : n ≤ 1099511627776) :
    Calls Try.prog 39 #[.int .i64 n] w fun e w' => e = .returned (.tuple #[.int .i64 (restI n), .int .i64 0]) ∧ w = w' := by
  go_enter Try.func39, Try.ntmps39
  go_wp2_with fail
  refine (right_yes _ _ h0 h1).mono ?_
  rintro e w' ⟨rfl, rfl⟩
  go_wp2_with fail
  refine (rest_any _ _ h0 h1).mono ?_
  rintro e w' ⟨rfl, rfl⟩
  go_wp2_with fail
  go_ret2
  exact ⟨rfl, rfl⟩
theorem padding_no (n : Int) (w : World) (h : n < 0 ∨ 1099511627776 < n) :
    Calls Try.prog 39 #[.int .i64 n] w fun e w' => e = .returned (.tuple #[.int .i64 0, .int .i64 6]) ∧ w = w' := by
  have H := Lib.hid h
  clear h
  go_enter Try.func39, Try.ntmps39
  go_wp2_with fail
  refine (right_no _ _ H.out).mono ?_
  rintro e w' ⟨rfl, rfl⟩
  go_wp2_with fail
  go_ret2
  exact ⟨rfl, rfl⟩
def endL : List UInt8 := Lib.repeatL [0] 1024
theorem endL_len : endL.length = 1024 := by unfold endL; rw [Lib.repeatL_length]; rfl
theorem end_any (w : World) : Calls Try.prog 53 #[] w fun e w' => e = .returned (.string (S endL)) ∧ Below w.heap.size w w' := by
  go_enter Try.func53, Try.ntmps53
  go_wp2_with fail
  refine (Go.Proofs.Try.strings_Repeat _ 1024 _ (by decide) (by decide)).mono ?_
  rintro e w1 ⟨rfl, hb1⟩
  change Below w.heap.size w w1 at hb1
  obtain ⟨x, hx⟩ : ∃ x : ByteArray, x = S endL := ⟨_, rfl⟩
  have hx2 : x = ⟨(Lib.repeatL (ByteArray.mk #[0]).data.toList 1024).toArray⟩ := hx
  rw [← hx2]
  have Hx := Lib.hid hx
  clear hx hx2
  go_wp2_with fail
  go_ret
  exact ⟨by rw [← Hx.out]; rfl, hb1⟩
theorem rblocks_any (n : Int) (w : World) (h0 : 0 ≤ n) (h1 : n ≤ 1099511627776) :
    Calls Try.prog 42 #[.int .i64 n] w fun e w' => e = .returned (.int .i64 ((n + restI n) / 512)) ∧ w = w' := by
  have e : (n + restI n) / 512 = if 0 < n % 512 then n / 512 + 1 else n / 512 := by unfold restI; split <;> omega
  have E := Lib.hid e
  clear e
  go_enter Try.func42, Try.ntmps42
  go_wp2
  all_goals (go_ret; refine ⟨?_, rfl⟩; rw [E.out]; first | (rw [if_pos (by omega)]; rfl) | (rw [if_neg (by omega)]; rfl))
theorem awake09 (w : World) : Calls Try.prog 41 #[] w fun e w' => e = .returned (.bool true) ∧ Below w.heap.size w w' := by
  have e1 : (513 + restI 513) / 512 = 2 := by decide
  have e2 : restI 513 = 511 := by decide
  have e3 := endL_len
  have hx0 : Below w.heap.size w w := Below.refl _ _
  go_enter Try.func41, Try.ntmps41
  go_wp2_with fail
  refine (blocks_yes 513 _ (by decide) (by decide)).mono ?_
  rintro e w' ⟨rfl, rfl⟩
  go_wp2_with fail
  refine (padding_yes 513 _ (by decide) (by decide)).mono ?_
  rintro e w' ⟨rfl, rfl⟩
  go_wp2_with fail
  refine (end_any _).mono ?_
  rintro e w1 ⟨rfl, hb1⟩
  have hx1 : Below w.heap.size w w1 := hx0.trans ((show Below w.heap.size _ _ by first | exact Below.refl _ _ | (have := hx0.size; go_grown)).trans (hb1.mono (by have := hx0.size; first | omega | (simp; done) | (simp; omega))))
  go_wp2_with fail
  go_ret
  exact ⟨rfl, hx1⟩
theorem index_any (n : Int) (w : World) (h : n ≤ 9223372036854775807) : Calls Try.prog 40 #[.int .i64 n] w fun e w' => e = .returned (.int .i64 (max n 0 / 512)) ∧ w = w' := by
  go_enter Try.func40, Try.ntmps40
  go_wp2
  go_ret
  exact ⟨rfl, rfl⟩
theorem lawCounts (n a : Int) (w : World) (h1 : -9223372036854775808 ≤ n) (h2 : n ≤ 9223372036854775807) (h3 : -9223372036854775808 ≤ a) (h4 : a ≤ 9223372036854775807) :
    Calls Try.prog 10 #[.int .i64 n, .int .i64 a] w fun e w' => e = .returned (.bool true) ∧ Below w.heap.size w w' := by
  have hx0 : Below w.heap.size w w := Below.refl _ _
  obtain ⟨r0, r1⟩ := restI_bd n
  by_cases h : 0 ≤ n ∧ n ≤ 1099511627776
  · obtain ⟨g0, g1⟩ := h
    have e : (512 * ((n + restI n) / 512) - restI n == n) = true := by unfold restI; rw [beq_iff_eq]; omega
    have b1 : 0 ≤ (n + restI n) / 512 := by omega
    have b2 : (n + restI n) / 512 ≤ 2147483648 := by omega
    generalize hB : (n + restI n) / 512 = B at e b1 b2
    have c1 := blocks_yes n
    have c2 := rblocks_any n
    rw [hB] at c1 c2
    have C1 := Lib.hid c1
    have C2 := Lib.hid c2
    clear c1 c2 hB
    go_enter Try.func10, Try.ntmps10
    go_wp2_with fail
    refine (C1.out _ g0 g1).mono ?_
    rintro e w' ⟨rfl, rfl⟩
    go_wp2_with fail
    refine (padding_yes _ _ g0 g1).mono ?_
    rintro e w' ⟨rfl, rfl⟩
    go_wp2_with fail
    refine (index_any _ _ h4).mono ?_
    rintro e w' ⟨rfl, rfl⟩
    go_wp2_with fail
    refine (C2.out _ g0 g1).mono ?_
    rintro e w' ⟨rfl, rfl⟩
    go_wp2_with fail
    refine (awake09 _).mono ?_
    rintro e w1 ⟨rfl, hb1⟩
    have hx1 : Below w.heap.size w w1 := hx0.trans ((show Below w.heap.size _ _ by first | exact Below.refl _ _ | (have := hx0.size; go_grown)).trans (hb1.mono (by have := hx0.size; first | omega | (simp; done) | (simp; omega))))
    go_wp2_with fail
    go_ret
    exact ⟨rfl, hx1⟩
  · have hn : n < 0 ∨ 1099511627776 < n := by omega
    clear h
    rcases hn with hn | hn
    all_goals
      go_enter Try.func10, Try.ntmps10
      go_wp2_with fail
      refine (blocks_no _ _ (by omega)).mono ?_
      rintro e w' ⟨rfl, rfl⟩
      go_wp2_with fail
      refine (padding_no _ _ (by omega)).mono ?_
      rintro e w' ⟨rfl, rfl⟩
      go_wp2_with fail
      refine (index_any _ _ h4).mono ?_
      rintro e w' ⟨rfl, rfl⟩
      go_wp2_with fail
      refine (awake09 _).mono ?_
      rintro e w1 ⟨rfl, hb1⟩
      have hx1 : Below w.heap.size w w1 := hx0.trans ((show Below w.heap.size _ _ by first | exact Below.refl _ _ | (have := hx0.size; go_grown)).trans (hb1.mono (by have := hx0.size; first | omega | (simp; done) | (simp; omega))))
      go_wp2_with fail
      go_ret
      exact ⟨rfl, hx1⟩
end Go.Proofs.Ytebgchjffopicaa
