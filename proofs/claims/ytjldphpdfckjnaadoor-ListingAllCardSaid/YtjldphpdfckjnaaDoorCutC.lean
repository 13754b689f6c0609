/- strings.Cut at one byte. -/
import Derived.Test.YtjldphpdfckjnaaDoorKit
import Derived.Test.YtjldphpdfckjnaaDoorShelf
namespace Go.Proofs.YtjldphpdfckjnaaDoor
open Go.RowKit

def twC (c : UInt8) (l : List UInt8) : List UInt8 := l.takeWhile (· != c)
def dwC (c : UInt8) (l : List UInt8) : List UInt8 := l.dropWhile (· != c)

theorem idxC (c : UInt8) : ∀ l : List UInt8, (Lib.indexByte l c = -1 ∧ dwC c l = [] ∧ twC c l = l) ∨ ∃ k : Nat, k < l.length ∧ Lib.indexByte l c = k ∧ l.drop k = dwC c l ∧ l.take k = twC c l
  | [] => .inl ⟨rfl, rfl, rfl⟩
  | b :: l => by
    by_cases hb : b = c
    · subst hb
      exact .inr ⟨0, by simp, by simp [Lib.indexByte], by simp [dwC], by simp [twC]⟩
    · have hb1 : (b == c) = false := by simpa using hb
      have hb2 : (b != c) = true := by simp [hb]
      have e1 : dwC c (b :: l) = dwC c l := by unfold dwC; rw [List.dropWhile_cons, if_pos hb2]
      have e2 : twC c (b :: l) = b :: twC c l := by unfold twC; rw [List.takeWhile_cons, if_pos hb2]
      rcases idxC c l with ⟨h1, h2, h3⟩ | ⟨k, hk, h1, h2, h3⟩
      · left
        exact ⟨by simp [Lib.indexByte, hb1, h1], by rw [e1, h2], by rw [e2, h3]⟩
      · right
        refine ⟨k + 1, by simp; omega, ?_, by rw [e1]; exact h2, by rw [e2, ← h3]; rfl⟩
        have : ¬ ((k : Int) = -1) := by omega
        simp [Lib.indexByte, hb1, h1, this]
theorem partC_drop (c : UInt8) (l : List UInt8) (k : Nat) (h : l.drop k = dwC c l) : l.drop (k + 1) = (dwC c l).drop 1 := by
  rw [← h, List.drop_drop]
def cutCV (c : UInt8) (r : List UInt8) : Value := .tuple #[.string (S (twC c r)), .string (S ((dwC c r).drop 1)), .bool (!(dwC c r).isEmpty)]
theorem takeS1 (s : List UInt8) (k : Nat) : (S s).extract 0 k = S (s.take k) := by rw [S_extract, List.drop_zero, Nat.sub_zero]
theorem dropS1 (s : List UInt8) (k : Nat) : (S s).extract k s.length = S (s.drop k) := by rw [S_extract, List.take_of_length_le (by rw [List.length_drop]; exact Nat.le_refl _)]
set_option maxRecDepth 100000 in
set_option maxHeartbeats 1000000 in
theorem slcut_c (c : UInt8) (r : List UInt8) (hr : r.length ≤ 9223372036854775807) (w : World) :
    Calls Tryd.prog 88 #[.string (S r), .string ⟨#[c]⟩] w fun e w' => e = .returned (cutCV c r) ∧ ∃ n, w' = w.drewN n := by
  have hd1 : (⟨#[c]⟩ : ByteArray).size = 1 := rfl
  rcases idxC c r with ⟨h1, h2, h3⟩ | ⟨k, hk, h1, h2, h3⟩
  · have H := Lib.hid (show cutCV c r = .tuple #[.string (S r), .string (S []), .bool false] by unfold cutCV; rw [h2, h3]; rfl)
    have H1 := Lib.hid h1
    clear h1 h2 h3
    go_enter Tryd.func88, Tryd.ntmps88
    go_wp2_with fail
    refine (Go.Proofs.Tryd.stringslite_Index_one _ c _).mono ?_
    rintro e w1 ⟨rfl, hw1⟩
    subst hw1
    rw [S_data, H1.out]
    go_wp2
    go_ret3
    exact ⟨by rw [H.out]; rfl, 0, rfl⟩
  · have hne : (dwC c r).isEmpty = false := by
      cases h : dwC c r with
      | nil => rw [h] at h2; have := congrArg List.length h2; rw [List.length_drop] at this; simp at this; omega
      | cons => rfl
    have H := Lib.hid (show cutCV c r = .tuple #[.string (S (r.take k)), .string (S (r.drop (k + 1))), .bool true] by unfold cutCV; rw [← h3, partC_drop c r k h2, hne]; rfl)
    have H1 := Lib.hid h1
    have e1 := takeS1 r k
    have e2 := dropS1 r (k + 1)
    clear h1 h2 h3 hne
    generalize r.take k = a at *
    generalize r.drop (k + 1) = b at *
    have hk0 : (0 : Int) ≤ (k : Int) := by omega
    have hk1 : (k : Int) ≤ (r.length : Int) := by omega
    have hk2 : (k : Int) + 1 ≤ (r.length : Int) := by omega
    go_enter Tryd.func88, Tryd.ntmps88
    go_wp2_with fail
    refine (Go.Proofs.Tryd.stringslite_Index_one _ c _).mono ?_
    rintro e w1 ⟨rfl, hw1⟩
    subst hw1
    rw [S_data, H1.out]
    go_wp2
    go_quiet (fail)
    go_wp2
    go_ret3
    exact ⟨by rw [H.out]; rfl, _, rfl⟩
set_option maxRecDepth 100000 in
set_option maxHeartbeats 1000000 in
theorem cut_c (c : UInt8) (r : List UInt8) (hr : r.length ≤ 9223372036854775807) (w : World) :
    Calls Tryd.prog 49 #[.string (S r), .string ⟨#[c]⟩] w fun e w' => e = .returned (cutCV c r) ∧ ∃ n, w' = w.drewN n := by
  have H := Lib.hid (show cutCV c r = .tuple #[.string (S (twC c r)), .string (S ((dwC c r).drop 1)), .bool (!(dwC c r).isEmpty)] from rfl)
  have HC := Lib.hid (fun w => slcut_c c r hr w)
  generalize cutCV c r = V at *
  generalize (dwC c r).drop 1 = b at *
  generalize twC c r = a at *
  generalize (dwC c r).isEmpty = z at *
  go_enter Tryd.func49, Tryd.ntmps49
  go_wp2_with fail
  refine (HC.out _).mono ?_
  rintro e w1 ⟨rfl, n, rfl⟩
  rw [H.out]
  go_wp2
  go_ret3
  exact ⟨by rw [H.out]; rfl, _, rfl⟩
end Go.Proofs.YtjldphpdfckjnaaDoor
