/- Plain laws for the document's reading of a stamp. -/
import Derived.Test.YtpdknjpicaokkaaDoorStampP
namespace Go.Proofs.YtpdknjpicaokkaaDoor
open Go.RowKit Go.Lib

theorem whole_get (r : List UInt8) (k : Nat) (_ : k < r.length) (hd : AllDg (r.take k)) : wholeL r = r.take k ++ wholeL (r.drop k) ∧ partL r = partL (r.drop k) := by
  have e : r = r.take k ++ r.drop k := (List.take_append_drop k r).symm
  have key : ∀ (d p : List UInt8), AllDg d → wholeL (d ++ p) = d ++ wholeL p ∧ partL (d ++ p) = partL p := by
    intro d
    induction d with
    | nil => intro p _; exact ⟨rfl, rfl⟩
    | cons c d ih =>
      intro p hd
      have hc := (dg_not46 (hd c (List.mem_cons_self ..))).1
      have ih := ih p (fun x hx => hd x (List.mem_cons_of_mem _ hx))
      unfold wholeL partL at ih ⊢
      rw [List.cons_append, List.takeWhile_cons, List.dropWhile_cons, if_pos hc, if_pos hc, ih.1, ih.2]
      exact ⟨rfl, rfl⟩
  have := key (r.take k) (r.drop k) hd
  rw [← e] at this
  exact this
theorem ok_false_whole (r : List UInt8) (h : digB (wholeL r) 16 = false) : okF r = false := by unfold okF; rw [h]; rfl
/-- a sign that is no digit and no point stands behind the digits -/
theorem ok_stop (r : List UInt8) (k : Nat) (h : k < r.length) (hd : AllDg (r.take k)) (c : UInt8) (hc : r[k] = c) (h1 : dg c = false) (h2 : c ≠ 46) : okF r = false := by
  apply ok_false_whole
  have e := (whole_get r k h hd).1
  have hm : c ∈ wholeL r := by
    rw [e]
    apply List.mem_append_right
    rw [List.drop_eq_getElem_cons h, hc]
    unfold wholeL
    rw [List.takeWhile_cons, if_pos (by simpa using h2)]
    exact List.mem_cons_self ..
  cases hb : digB (wholeL r) 16 with
  | false => rfl
  | true =>
    have := ((digB_iff _ _).1 hb).2.2 c hm
    rw [h1] at this
    cases this
theorem ok_point0 (r : List UInt8) (h : 0 < r.length) (hc : r[0] = 46) : okF r = false := by
  apply ok_false_whole
  cases r with
  | nil => cases h
  | cons c r =>
    have hc : c = 46 := hc
    subst hc
    rfl
theorem ok_long (r : List UInt8) (k : Nat) (hk : 16 < k) (h : k ≤ r.length) (hd : AllDg (r.take k)) : okF r = false := by
  apply ok_false_whole
  have hl : k ≤ (wholeL r).length := by
    by_cases he : k = r.length
    · rw [he, List.take_length] at hd
      have := (whole_part r [] hd (.inl rfl)).1
      rw [List.append_nil] at this
      rw [this, he]
      exact Nat.le_refl _
    · have e := (whole_get r k (by omega) hd).1
      have := congrArg List.length e
      rw [List.length_append, List.length_take, Nat.min_eq_left h] at this
      omega
  cases hb : digB (wholeL r) 16 with
  | false => rfl
  | true => have := ((digB_iff _ _).1 hb).2.1; omega
theorem ok_end (r : List UInt8) (h1 : r ≠ []) (h2 : r.length ≤ 16) (hd : AllDg r) : okF r = true ∧ partL r = [] ∧ wholeL r = r := by
  have hw := whole_part r [] hd (.inl rfl)
  rw [List.append_nil] at hw
  refine ⟨?_, hw.2, hw.1⟩
  unfold okF
  rw [hw.1, hw.2, (digB_iff r 16).2 ⟨h1, h2, hd⟩]
  rfl
theorem ok_dot (r : List UInt8) (k : Nat) (h : k < r.length) (h1 : 1 ≤ k) (h2 : k ≤ 16) (hd : AllDg (r.take k)) (hc : r[k] = 46) : okF r = digB (r.drop (k + 1)) 40 ∧ wholeL r = r.take k ∧ partL r = 46 :: r.drop (k + 1) := by
  have e : r = r.take k ++ 46 :: r.drop (k + 1) := by
    rw [← hc, ← List.drop_eq_getElem_cons h, List.take_append_drop]
  have hw := whole_part (r.take k) (46 :: r.drop (k + 1)) hd (.inr ⟨_, rfl⟩)
  rw [← e] at hw
  refine ⟨?_, hw.1, hw.2⟩
  have hl : (r.take k).length = k := by rw [List.length_take]; omega
  unfold okF
  rw [hw.1, hw.2, (digB_iff (r.take k) 16).2 ⟨fun e => by rw [e] at hl; simp at hl; omega, by omega, hd⟩]
  rfl
theorem decN_app0 (l : List UInt8) : ∀ m, decN (l ++ List.replicate m 48) = decN l * 10 ^ m
  | 0 => by simp
  | m + 1 => by
    rw [List.replicate_succ', ← List.append_assoc, decN_snoc, decN_app0 l m, Nat.pow_succ]
    rw [show (48 : UInt8).toNat - 48 = 0 from rfl, Nat.add_zero, Nat.mul_comm 10, Nat.mul_assoc]
/-- nine digits of what stands behind the point -/
theorem nsec_of (p : List UInt8) (h1 : p ≠ []) (h9 : p.length ≤ 9) : nsecF (46 :: p) = decN p * 10 ^ (9 - p.length) := by
  unfold nsecF
  rw [if_neg (by simp), List.drop_one, List.tail_cons, List.take_append, List.take_of_length_le h9, List.take_replicate]
  have : 1 ≤ p.length := List.length_pos_iff.2 h1
  rw [show min (9 - p.length) 8 = 9 - p.length by omega, decN_app0]
theorem nsec_long (p : List UInt8) (h9 : 9 ≤ p.length) : nsecF (46 :: p) = decN (p.take 9) := by
  unfold nsecF
  rw [if_neg (by simp), List.drop_one, List.tail_cons, List.take_append, show 9 - p.length = 0 by omega, List.take_zero, List.append_nil]
def r3V (a b : Int) (c : Nat) : Value := .tuple #[.int .i64 a, .int .i64 b, .int .i64 c]
set_option maxRecDepth 100000 in
theorem digit_any (c : UInt8) (w : World) : Calls Tryd.prog 80 #[.int .u8 c.toNat] w fun e w' => e = .returned (.bool (dg c)) ∧ w' = w := by
  have hby := c.toNat_lt
  cases h : dg c with
  | true =>
    obtain ⟨h1, h2⟩ := dgI c h
    clear h
    go_enter Tryd.func80, Tryd.ntmps80
    go_wp2
    go_ret
    exact ⟨by first | rfl | exact ret_bool (decide_eq_true (by omega)), rfl⟩
  | false =>
    have h1 := dgN c h
    clear h
    by_cases h48 : (c.toNat : Int) < 48
    · clear h1
      go_enter Tryd.func80, Tryd.ntmps80
      go_wp2
      go_ret
      exact ⟨by first | rfl | exact ret_bool (decide_eq_false (by omega)), rfl⟩
    · have h57 : 57 < (c.toNat : Int) := by omega
      clear h1
      go_enter Tryd.func80, Tryd.ntmps80
      go_wp2
      go_ret
      exact ⟨by first | rfl | exact ret_bool (decide_eq_false (by omega)), rfl⟩
end Go.Proofs.YtpdknjpicaokkaaDoor
