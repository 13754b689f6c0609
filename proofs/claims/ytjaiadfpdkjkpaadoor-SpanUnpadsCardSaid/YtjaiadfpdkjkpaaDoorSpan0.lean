/- span's numbers, its end, the chapter's example. -/
import Derived.Test.YtjaiadfpdkjkpaaDoorKit
import Derived.Test.YtjaiadfpdkjkpaaDoorShelf
namespace Go.Proofs.YtjaiadfpdkjkpaaDoor
open Go.RowKit

theorem right_yes (n : Int) (w : World) (h0 : 0 ≤ n) (h1 : n ≤ 1099511627776) :
    Calls Tryd.prog 31 #[.int .i64 n] w fun e w' => e = .returned (.bool true) ∧ w = w' := by
  go_enter Tryd.func31, Tryd.ntmps31
  go_wp2
  go_ret
  exact ⟨by first | rfl | (simp; done) | (simp; omega), rfl⟩
theorem right_no (n : Int) (w : World) (h : n < 0 ∨ 1099511627776 < n) :
    Calls Tryd.prog 31 #[.int .i64 n] w fun e w' => e = .returned (.bool false) ∧ w = w' := by
  rcases h with h | h
  · go_enter Tryd.func31, Tryd.ntmps31
    go_wp2
    go_ret
    exact ⟨by first | rfl | (simp; done) | (simp; omega), rfl⟩
  · have h2 : 0 ≤ n := by omega
    go_enter Tryd.func31, Tryd.ntmps31
    go_wp2
    go_ret
    exact ⟨by first | rfl | (simp; done) | (simp; omega), rfl⟩
def restI (n : Int) : Int := (512 - n % 512) % 512
theorem rest_any (n : Int) (w : World) (h0 : 0 ≤ n) (h1 : n ≤ 1099511627776) :
    Calls Tryd.prog 32 #[.int .i64 n] w fun e w' => e = .returned (.int .i64 (restI n)) ∧ w = w' := by
  go_enter Tryd.func32, Tryd.ntmps32
  go_wp2
  go_ret
  exact ⟨rfl, rfl⟩
theorem restI_bd (n : Int) : 0 ≤ restI n ∧ restI n < 512 := by unfold restI; omega
theorem blocks_yes (n : Int) (w : World) (h0 : 0 ≤ n) (h1 : n ≤ 1099511627776) :
    Calls Tryd.prog 15 #[.int .i64 n] w fun e w' => e = .returned (.tuple #[.int .i64 ((n + restI n) / 512), .int .i64 0]) ∧ w = w' := by
  obtain ⟨b0, b1⟩ := restI_bd n
  go_enter Tryd.func15, Tryd.ntmps15
  go_wp2_with fail
  refine (right_yes _ _ h0 h1).mono ?_
  rintro e w' ⟨rfl, rfl⟩
  go_wp2_with fail
  refine (rest_any _ _ h0 h1).mono ?_
  rintro e w' ⟨rfl, rfl⟩
  go_wp2_with fail
  go_ret2
  exact ⟨rfl, rfl⟩
theorem blocks_no (n : Int) (w : World) (h : n < 0 ∨ 1099511627776 < n) :
    Calls Tryd.prog 15 #[.int .i64 n] w fun e w' => e = .returned (.tuple #[.int .i64 0, .int .i64 6]) ∧ w = w' := by
  have H := Lib.hid h
  clear h
  go_enter Tryd.func15, Tryd.ntmps15
  go_wp2_with fail
  refine (right_no _ _ H.out).mono ?_
  rintro e w' ⟨rfl, rfl⟩
  go_wp2_with fail
  go_ret2
  exact ⟨rfl, rfl⟩
theorem padding_yes (n : Int) (w : World) (h0 : 0 ≤ n) (h1 : n ≤ 1099511627776) :
    Calls Tryd.prog 30 #[.int .i64 n] w fun e w' => e = .returned (.tuple #[.int .i64 (restI n), .int .i64 0]) ∧ w = w' := by
  go_enter Tryd.func30, Tryd.ntmps30
  go_wp2_with fail
  refine (right_yes _ _ h0 h1).mono ?_
  rintro e w' ⟨rfl, rfl⟩
  go_wp2_with fail
  refine (rest_any _ _ h0 h1).mono ?_
  rintro e w' ⟨rfl, rfl⟩
  go_wp2_with fail
  go_ret2
  exact ⟨rfl, rfl⟩
theorem padding_no (n : Int) (w : World) (h : n < 0 ∨ 1099511627776 < n) :
    Calls Tryd.prog 30 #[.int .i64 n] w fun e w' => e = .returned (.tuple #[.int .i64 0, .int .i64 6]) ∧ w = w' := by
  have H := Lib.hid h
  clear h
  go_enter Tryd.func30, Tryd.ntmps30
  go_wp2_with fail
  refine (right_no _ _ H.out).mono ?_
  rintro e w' ⟨rfl, rfl⟩
  go_wp2_with fail
  go_ret2
  exact ⟨rfl, rfl⟩
def endL : List UInt8 := Lib.repeatL [0] 1024
theorem endL_len : endL.length = 1024 := by unfold endL; rw [Lib.repeatL_length]; rfl
theorem end_any (w : World) : Calls Tryd.prog 13 #[] w fun e w' => e = .returned (.string (S endL)) ∧ Below w.heap.size w w' := by
  go_enter Tryd.func13, Tryd.ntmps13
  go_wp2_with fail
  refine (Go.Proofs.Tryd.strings_Repeat _ 1024 _ (by decide) (by decide)).mono ?_
  rintro e w1 ⟨rfl, hb1⟩
  change Below w.heap.size w w1 at hb1
  obtain ⟨x, hx⟩ : ∃ x : ByteArray, x = S endL := ⟨_, rfl⟩
  have hx2 : x = ⟨(Lib.repeatL (ByteArray.mk #[0]).data.toList 1024).toArray⟩ := hx
  rw [← hx2]
  have Hx := Lib.hid hx
  clear hx hx2
  go_wp2_with fail
  go_ret
  exact ⟨by rw [← Hx.out]; rfl, hb1⟩
theorem rblocks_any (n : Int) (w : World) (h0 : 0 ≤ n) (h1 : n ≤ 1099511627776) :
    Calls Tryd.prog 34 #[.int .i64 n] w fun e w' => e = .returned (.int .i64 ((n + restI n) / 512)) ∧ w = w' := by
  have e : (n + restI n) / 512 = if 0 < n % 512 then n / 512 + 1 else n / 512 := by unfold restI; split <;> omega
  have E := Lib.hid e
  clear e
  go_enter Tryd.func34, Tryd.ntmps34
  go_wp2
  all_goals (go_ret; refine ⟨?_, rfl⟩; rw [E.out]; first | (rw [if_pos (by omega)]; rfl) | (rw [if_neg (by omega)]; rfl))
theorem awake09 (w : World) : Calls Tryd.prog 9 #[] w fun e w' => e = .returned (.bool true) ∧ Below w.heap.size w w' := by
  have e1 : (513 + restI 513) / 512 = 2 := by decide
  have e2 : restI 513 = 511 := by decide
  have e3 := endL_len
  have hx0 : Below w.heap.size w w := Below.refl _ _
  go_enter Tryd.func9, Tryd.ntmps9
  go_wp2_with fail
  refine (blocks_yes 513 _ (by decide) (by decide)).mono ?_
  rintro e w' ⟨rfl, rfl⟩
  go_wp2_with fail
  refine (padding_yes 513 _ (by decide) (by decide)).mono ?_
  rintro e w' ⟨rfl, rfl⟩
  go_wp2_with fail
  refine (end_any _).mono ?_
  rintro e w1 ⟨rfl, hb1⟩
  have hx1 : Below w.heap.size w w1 := hx0.trans ((show Below w.heap.size _ _ by first | exact Below.refl _ _ | (have := hx0.size; go_grown)).trans (hb1.mono (by have := hx0.size; first | omega | (simp; done) | (simp; omega))))
  go_wp2_with fail
  go_ret
  exact ⟨rfl, hx1⟩
end Go.Proofs.YtjaiadfpdkjkpaaDoor
