/- Plain laws of a name's components: cut at a slash, joined with slashes, the last one. -/
import Derived.Test.YtjaiadfpdkjkpaaDoorSkip
import Derived.Lib.Join
namespace Go.Proofs.YtjaiadfpdkjkpaaDoor
open Go.RowKit

def wordL (l : List UInt8) : List UInt8 := l.takeWhile (· != 47)
theorem split_head : ∀ l : List UInt8, splitL 47 l = wordL l :: (match skipL l with | [] => [] | _ :: r => splitL 47 r)
  | [] => rfl
  | b :: l => by
    have ih := split_head l
    by_cases hb : b = 47
    · subst hb; simp [splitL, wordL, skipL]
    · have hb2 : (b != 47) = true := by simpa using hb
      rw [splitL, if_neg hb, ih]
      simp only [wordL, skipL, List.takeWhile_cons, List.dropWhile_cons, hb2, if_true]
theorem parts_nil : partsL [] = [] := by decide
theorem parts_step (l : List UInt8) : partsL l = (if (wordL l).isEmpty then [] else [wordL l]) ++ partsL ((skipL l).drop 1) := by
  have e : partsL l = fullL (splitL 47 l) := rfl
  rw [e, split_head]
  cases h : skipL l with
  | nil =>
    simp only [List.drop_nil, parts_nil, List.append_nil]
    unfold fullL
    cases h2 : (wordL l).isEmpty <;> simp [h2]
  | cons c r =>
    simp only [List.drop_one, List.tail_cons]
    show fullL (wordL l :: splitL 47 r) = _ ++ fullL (splitL 47 r)
    unfold fullL
    cases h2 : (wordL l).isEmpty <;> simp [h2]
theorem split_app (b : List UInt8) : ∀ a : List UInt8, splitL 47 (a ++ 47 :: b) = splitL 47 a ++ splitL 47 b
  | [] => by simp [splitL]
  | x :: a => by
    have ih := split_app b a
    by_cases hx : x = 47
    · subst hx
      rw [List.cons_append, splitL, if_pos rfl, ih, splitL, if_pos rfl]
      rfl
    · rw [List.cons_append, splitL, if_neg hx, ih, splitL, if_neg hx]
      cases h : splitL 47 a with
      | nil => rw [split_head] at h; cases h
      | cons p ps => rfl
theorem parts_app (a b : List UInt8) : partsL (a ++ 47 :: b) = partsL a ++ partsL b := by
  unfold partsL
  rw [split_app, List.filter_append]
theorem word_all : ∀ q : List UInt8, (∀ x ∈ q, x ≠ 47) → wordL q = q ∧ skipL q = []
  | [], _ => ⟨rfl, rfl⟩
  | b :: q, h => by
    have ih := word_all q (fun x hx => h x (List.mem_cons_of_mem _ hx))
    have hb : (b != 47) = true := by simpa using h b (List.mem_cons_self ..)
    simp only [wordL, skipL, List.takeWhile_cons, List.dropWhile_cons, hb, if_true] at ih ⊢
    exact ⟨by rw [ih.1], ih.2⟩
theorem parts_word (q : List UInt8) (h : ∀ x ∈ q, x ≠ 47) (h0 : q ≠ []) : partsL q = [q] := by
  have hw := word_all q h
  rw [parts_step, hw.1, hw.2, List.drop_nil, parts_nil, List.append_nil]
  have : q.isEmpty = false := by cases q with | nil => exact absurd rfl h0 | cons => rfl
  rw [this]
  rfl
theorem parts_len (l : List UInt8) : (partsL l).length ≤ l.length + 1 := Nat.le_trans (List.length_filter_le _ _) (split_len 47 l)
/-- each component holds something, and no slash -/
theorem split_mem : ∀ (l q : List UInt8), q ∈ splitL 47 l → ∀ x ∈ q, x ≠ 47 := by
  intro l
  induction l with
  | nil => intro q hq x hx; simp [splitL] at hq; subst hq; cases hx
  | cons b l ih =>
    intro q hq x hx
    rw [splitL] at hq
    by_cases hb : b = 47
    · rw [if_pos hb] at hq
      rcases List.mem_cons.1 hq with rfl | hq
      · cases hx
      · exact ih q hq x hx
    · rw [if_neg hb] at hq
      cases h : splitL 47 l with
      | nil => rw [split_head] at h; cases h
      | cons p ps =>
        rw [h] at hq ih
        rcases List.mem_cons.1 hq with rfl | hq
        · rcases List.mem_cons.1 hx with rfl | hx
          · exact hb
          · exact ih p (List.mem_cons_self ..) x hx
        · exact ih q (List.mem_cons_of_mem _ hq) x hx
theorem parts_mem (l q : List UInt8) (h : q ∈ partsL l) : q ≠ [] ∧ ∀ x ∈ q, x ≠ 47 := by
  unfold partsL at h
  rw [List.mem_filter] at h
  exact ⟨by rintro rfl; simp at h, split_mem l q h.1⟩

/-- with a slash between two -/
def joinL (l : List (List UInt8)) : List UInt8 := Lib.join (fullL l) [47]
theorem join_snoc (x : List UInt8) : ∀ l : List (List UInt8), Lib.join (l ++ [x]) [47] = if l.isEmpty then x else Lib.join l [47] ++ 47 :: x
  | [] => by simp [Lib.join_one]
  | a :: r => by
    rw [List.cons_append, Lib.join_cons, Lib.join_cons]
    simp [Lib.joinTail]
theorem full_mem {l : List (List UInt8)} {q : List UInt8} (h : q ∈ fullL l) : q ≠ [] := by
  unfold fullL at h
  rw [List.mem_filter] at h
  rintro rfl
  simp at h
theorem join_empty (l : List (List UInt8)) : (joinL l).isEmpty = (fullL l).isEmpty := by
  unfold joinL
  have hm := fun q => full_mem (l := l) (q := q)
  cases h : fullL l with
  | nil => rfl
  | cons a r =>
    rw [h] at hm
    have ha := hm a (List.mem_cons_self ..)
    cases a with
    | nil => exact absurd rfl ha
    | cons c a =>
      rw [Lib.join_cons]
      rfl
theorem joinL_snoc (l : List (List UInt8)) (x : List UInt8) : joinL (l ++ [x]) = if x.isEmpty then joinL l else if (joinL l).isEmpty then x else joinL l ++ 47 :: x := by
  rw [join_empty]
  unfold joinL
  rw [full_snoc]
  cases h : x.isEmpty with
  | true => simp
  | false =>
    simp only [Bool.false_eq_true, if_false]
    exact join_snoc x (fullL l)
theorem parts_join (l : List (List UInt8)) : partsL (joinL l) = l.flatMap partsL := by
  suffices h : ∀ (r l : List (List UInt8)), l = r.reverse → partsL (joinL l) = l.flatMap partsL from h l.reverse l (by simp)
  intro r
  induction r with
  | nil => rintro l rfl; rfl
  | cons x r ih =>
    rintro l rfl
    rw [List.reverse_cons, joinL_snoc, List.flatMap_append, ← ih _ rfl]
    generalize r.reverse = m
    cases hx : x.isEmpty with
    | true =>
      have : x = [] := by simpa using hx
      subst this
      simp [parts_nil]
    | false =>
      cases hj : (joinL m).isEmpty with
      | true =>
        have : joinL m = [] := by simpa using hj
        simp [this, parts_nil]
      | false => simp [parts_app]
/-- the components joined are told again -/
theorem parts_flat (l : List (List UInt8)) (h : ∀ q ∈ l, q ≠ [] ∧ ∀ x ∈ q, x ≠ 47) : l.flatMap partsL = l := by
  induction l with
  | nil => rfl
  | cons q l ih =>
    rw [List.flatMap_cons, parts_word q (h q (List.mem_cons_self ..)).2 (h q (List.mem_cons_self ..)).1, ih (fun q hq => h q (List.mem_cons_of_mem _ hq))]
    rfl
theorem joinL_len (l : List (List UInt8)) : (joinL l).length ≤ (l.map fun q => q.length + 1).sum := by
  suffices h : ∀ (r l : List (List UInt8)), l = r.reverse → (joinL l).length ≤ (l.map fun q => q.length + 1).sum from h l.reverse l (by simp)
  intro r
  induction r with
  | nil => rintro l rfl; exact Nat.le_refl _
  | cons x r ih =>
    rintro l rfl
    have := ih _ rfl
    rw [List.reverse_cons, joinL_snoc, List.map_append, List.sum_append]
    simp only [List.map_cons, List.map_nil, List.sum_cons, List.sum_nil]
    generalize r.reverse = m at *
    split
    · omega
    · split
      · omega
      · simp; omega
theorem sum_le (m : Nat) : ∀ l : List (List UInt8), (∀ q ∈ l, q.length ≤ m) → (l.map fun q => q.length + 1).sum ≤ l.length * (m + 1)
  | [], _ => by simp
  | q :: l, h => by
    have ih := sum_le m l (fun q hq => h q (List.mem_cons_of_mem _ hq))
    have := h q (List.mem_cons_self ..)
    rw [List.map_cons, List.sum_cons, List.length_cons, Nat.succ_mul]
    omega
theorem joinL_le (m : Nat) (l : List (List UInt8)) (h : ∀ q ∈ l, q.length ≤ m) : (joinL l).length ≤ l.length * (m + 1) := Nat.le_trans (joinL_len l) (sum_le m l h)
theorem parts_sum (l : List UInt8) : ((partsL l).map fun q => q.length + 1).sum ≤ l.length + 1 := by
  suffices h : ∀ l : List UInt8, ((splitL 47 l).map fun q => q.length + 1).sum = l.length + 1 by
    rw [← h l]
    unfold partsL
    generalize splitL 47 l = m
    induction m with
    | nil => exact Nat.le_refl _
    | cons q m ih =>
      rw [List.filter_cons]
      split
      · simpa using ih
      · simp; omega
  intro l
  induction l with
  | nil => rfl
  | cons b l ih =>
    rw [splitL]
    split
    · simp [ih]; omega
    · cases h : splitL 47 l with
      | nil => rw [split_head] at h; cases h
      | cons p ps => rw [h] at ih; simp at ih ⊢; omega
end Go.Proofs.YtjaiadfpdkjkpaaDoor
