/- Stamps in plain Lean: what is read of a text, what is written, and that both fit. -/
import Derived.Test.YtjldphpdfckjnaaDoorNetP
import Derived.Lib.TrimByte
namespace Go.Proofs.YtjldphpdfckjnaaDoor
open Go.Lib

def digB (l : List UInt8) (most : Nat) : Bool := !l.isEmpty && decide (l.length ≤ most) && l.all dg
theorem digB_iff (l : List UInt8) (most : Nat) : digB l most = true ↔ l ≠ [] ∧ l.length ≤ most ∧ AllDg l := by
  unfold digB AllDg
  cases l with
  | nil => simp
  | cons b l => simp
def rightB (s n : Int) : Bool := decide (-9007199254740991 ≤ s ∧ s ≤ 9007199254740991 ∧ 0 ≤ n ∧ n < 1000000000)
theorem right_iff (s n : Int) : rightB s n = true ↔ (-9007199254740991 ≤ s ∧ s ≤ 9007199254740991 ∧ 0 ≤ n ∧ n < 1000000000) := by unfold rightB; exact decide_eq_true_iff
def turnF (s n : Int) : Int × Int := if n = 0 then (-s, 0) else (-s - 1, 1000000000 - n)
def wholeL (l : List UInt8) : List UInt8 := l.takeWhile (· != 46)
def partL (l : List UInt8) : List UInt8 := l.dropWhile (· != 46)
def restS (l : List UInt8) : List UInt8 := if l.head? = some 45 then l.tail else l
def nsecF (p : List UInt8) : Nat := if p = [] then 0 else decN ((p.drop 1 ++ List.replicate 8 48).take 9)
def okF (r : List UInt8) : Bool := digB (wholeL r) 16 && (partL r == [] || digB ((partL r).drop 1) 40)
def valF (l : List UInt8) : Int × Int := if l.head? = some 45 then turnF (decN (wholeL (restS l))) (nsecF (partL (restS l))) else ((decN (wholeL (restS l)) : Int), (nsecF (partL (restS l)) : Int))
def stampF (l : List UInt8) : Int × Int × Nat :=
  if okF (restS l) = true then (if rightB (valF l).1 (valF l).2 = true then ((valF l).1, (valF l).2, 0) else (0, 0, 6)) else (0, 0, 2)

/-- nine digits behind the point -/
def frac9 (n : Nat) : List UInt8 := (decDigits (1000000000 + n)).tail
def fracT (n : Nat) : List UInt8 := trimRightB (frac9 n) 48
def bodyT (a n : Nat) : List UInt8 := decDigits a ++ (if n = 0 then [] else 46 :: fracT n)
def textF (s n : Int) : List UInt8 := if s < 0 then 45 :: bodyT (turnF s n).1.toNat (turnF s n).2.toNat else bodyT s.toNat n.toNat

theorem decN_cons (c : UInt8) : ∀ (n : Nat) (l : List UInt8), l.length = n → decN (c :: l) = (c.toNat - 48) * 10 ^ n + decN l
  | 0, l, h => by
    have : l = [] := List.eq_nil_of_length_eq_zero h
    subst this
    simp [decN]
  | n + 1, l, h => by
    have hne : l ≠ [] := by intro e; subst e; cases h
    have e := List.dropLast_concat_getLast hne
    have ih := decN_cons c n l.dropLast (by simp; omega)
    rw [← e, ← List.cons_append, decN_snoc, decN_snoc, ih, Nat.pow_succ]
    rw [Nat.mul_add, ← Nat.mul_assoc, Nat.add_assoc]
    congr 1
    rw [Nat.mul_comm 10, Nat.mul_assoc, Nat.mul_comm (10 ^ n)]
theorem digs_len_eq : ∀ (k u : Nat), 10 ^ k ≤ u → u < 10 ^ (k + 1) → (decDigits u).length = k + 1
  | 0, u, _, h => by rw [decDigits, dif_pos (by simpa using h)]; rfl
  | k + 1, u, h0, h => by
    have hp : 1 ≤ 10 ^ k := Nat.one_le_pow _ _ (by decide)
    rw [Nat.pow_succ] at h h0
    rw [decDigits, dif_neg (by omega), List.length_append, digs_len_eq k (u / 10) (by omega) (by omega)]
    rfl
theorem digs_big (n : Nat) (h : n < 1000000000) : decDigits (1000000000 + n) = 49 :: frac9 n ∧ (frac9 n).length = 9 ∧ AllDg (frac9 n) ∧ decN (frac9 n) = n := by
  have hl := digs_len_eq 9 (1000000000 + n) (by simp) (by simp; omega)
  have hd := digs_dg (1000000000 + n)
  have hv := digs_val (1000000000 + n)
  unfold frac9
  cases hc : decDigits (1000000000 + n) with
  | nil => rw [hc] at hl; cases hl
  | cons c l =>
    rw [hc] at hl hd hv
    have hll : l.length = 9 := by simpa using hl
    have hdl : AllDg l := fun x hx => hd x (List.mem_cons_of_mem _ hx)
    have hcd := of_decide_eq_true (hd c (List.mem_cons_self ..))
    have hlt := decN_lt 9 l hdl hll
    rw [decN_cons c 9 l hll] at hv
    have e9 : (10 : Nat) ^ 9 = 1000000000 := by decide
    rw [e9] at hv hlt
    have hc1 : c.toNat - 48 = 1 := by
      have h1 : (c.toNat - 48) * 1000000000 ≤ 1000000000 + n := by omega
      have h2 : 1000000000 < (c.toNat - 48) * 1000000000 + 1000000000 := by omega
      omega
    have hc2 : c = 49 := UInt8.toNat_inj.1 (by show c.toNat = 49; omega)
    rw [hc1] at hv
    exact ⟨by rw [hc2]; rfl, hll, hdl, by show decN l = n; omega⟩
theorem tw_mem0 (p : UInt8 → Bool) : ∀ (l : List UInt8) (b : UInt8), b ∈ l.takeWhile p → p b = true
  | [], b, h => by cases h
  | c :: l, b, h => by
    rw [List.takeWhile_cons] at h
    split at h
    · rename_i hc
      rcases List.mem_cons.1 h with rfl | h
      · exact hc
      · exact tw_mem0 p l b h
    · cases h
theorem trim_eq0 (l : List UInt8) (c : UInt8) : l = trimRightB l c ++ List.replicate (l.length - (trimRightB l c).length) c ∧ (trimRightB l c).length ≤ l.length := by
  have h := List.takeWhile_append_dropWhile (p := (· == c)) (l := l.reverse)
  have h2 : l.reverse.takeWhile (· == c) = List.replicate (l.reverse.takeWhile (· == c)).length c := by
    rw [List.eq_replicate_iff]
    exact ⟨rfl, fun b hb => by have := tw_mem0 _ _ _ hb; simpa using this⟩
  have h3 := congrArg List.reverse h
  rw [List.reverse_append, List.reverse_reverse] at h3
  have h4 : trimRightB l c ++ List.replicate (l.reverse.takeWhile (· == c)).length c = l := by
    conv => rhs; rw [← h3]
    unfold trimRightB
    congr 1
    conv => rhs; rw [h2]
    simp
  have h5 := congrArg List.length h4
  rw [List.length_append, List.length_replicate] at h5
  refine ⟨?_, by omega⟩
  rw [show l.length - (trimRightB l c).length = (l.reverse.takeWhile (· == c)).length by omega]
  exact h4.symm
theorem decN_zeros : ∀ m, decN (List.replicate m 48) = 0
  | 0 => rfl
  | m + 1 => by rw [List.replicate_succ', decN_snoc, decN_zeros m]; rfl
theorem fracT_ok (n : Nat) (h : n < 1000000000) (h0 : n ≠ 0) : digB (fracT n) 40 = true ∧ decN ((fracT n ++ List.replicate 8 48).take 9) = n := by
  obtain ⟨_, hl, hd, hv⟩ := digs_big n h
  obtain ⟨he, hle⟩ := trim_eq0 (frac9 n) 48
  have hf : trimRightB (frac9 n) 48 = fracT n := rfl
  rw [hf, hl] at he hle
  have hne : fracT n ≠ [] := by
    intro e
    rw [e, List.nil_append] at he
    rw [he, decN_zeros] at hv
    exact h0 hv.symm
  have h1 : 1 ≤ (fracT n).length := by
    rcases Nat.eq_zero_or_pos (fracT n).length with z | z
    · exact absurd (List.eq_nil_of_length_eq_zero z) hne
    · exact z
  refine ⟨(digB_iff _ _).2 ⟨hne, by omega, fun c hc => hd c (by rw [he]; exact List.mem_append_left _ hc)⟩, ?_⟩
  rw [List.take_append, List.take_of_length_le hle, List.take_replicate, show min (9 - (fracT n).length) 8 = 9 - (fracT n).length by omega, ← he]
  exact hv
theorem dg_not46 {c : UInt8} (h : dg c = true) : (c != 46) = true ∧ c ≠ 45 := by
  have := of_decide_eq_true h
  refine ⟨?_, ?_⟩
  · rw [bne_iff_ne]; rintro rfl; exact absurd this (by decide)
  · rintro rfl; exact absurd this (by decide)
theorem whole_part (d p : List UInt8) (hd : AllDg d) (hp : p = [] ∨ ∃ q, p = 46 :: q) : wholeL (d ++ p) = d ∧ partL (d ++ p) = p := by
  unfold wholeL partL
  induction d with
  | nil =>
    rcases hp with rfl | ⟨q, rfl⟩
    · exact ⟨rfl, rfl⟩
    · exact ⟨rfl, rfl⟩
  | cons c d ih =>
    have hc := (dg_not46 (hd c (List.mem_cons_self ..))).1
    have ih := ih (fun x hx => hd x (List.mem_cons_of_mem _ hx))
    rw [List.cons_append, List.takeWhile_cons, List.dropWhile_cons, if_pos hc, if_pos hc, ih.1, ih.2]
    exact ⟨rfl, rfl⟩
theorem body_ok (a n : Nat) (ha : a < 10 ^ 16) (hn : n < 1000000000) : okF (bodyT a n) = true ∧ decN (wholeL (bodyT a n)) = a ∧ nsecF (partL (bodyT a n)) = n ∧ (bodyT a n).head? ≠ some 45 := by
  have hd := digs_dg a
  have hw := whole_part (decDigits a) (if n = 0 then [] else 46 :: fracT n) hd (by split; exact .inl rfl; exact .inr ⟨_, rfl⟩)
  have hb : digB (decDigits a) 16 = true := (digB_iff _ _).2 ⟨digs_ne a, digs_len 15 a ha, hd⟩
  unfold okF bodyT
  rw [hw.1, hw.2, hb]
  refine ⟨?_, digs_val a, ?_, ?_⟩
  · by_cases h0 : n = 0
    · rw [if_pos h0]; rfl
    · rw [if_neg h0, List.drop_one, List.tail_cons, (fracT_ok n hn h0).1]; simp
  · unfold nsecF
    by_cases h0 : n = 0
    · rw [if_pos h0, if_pos rfl, h0]
    · rw [if_neg h0, if_neg (by simp), List.drop_one, List.tail_cons, (fracT_ok n hn h0).2]
  · rw [head_app _ _ (digs_ne a)]
    intro h
    cases hc : decDigits a with
    | nil => exact digs_ne a hc
    | cons c l =>
      rw [hc] at h hd
      exact (dg_not46 (hd c (List.mem_cons_self ..))).2 (by simpa using h)
/-- what is written is read as it was -/
theorem stamp_back (s n : Int) (h : rightB s n = true) : stampF (textF s n) = (s, n, 0) := by
  obtain ⟨h1, h2, h3, h4⟩ := (right_iff s n).1 h
  have e16 : (10 : Nat) ^ 16 = 10000000000000000 := by decide
  unfold textF
  by_cases hs : s < 0
  · rw [if_pos hs]
    have key : ∃ a b : Nat, turnF s n = ((a : Int), (b : Int)) ∧ a < 10 ^ 16 ∧ b < 1000000000 ∧ turnF a b = (s, n) := by
      unfold turnF
      by_cases h0 : n = 0
      · refine ⟨(-s).toNat, 0, ?_, by omega, by omega, ?_⟩
        · rw [if_pos h0]; congr 1; omega
        · rw [if_pos (by rfl)]; simp only [Prod.mk.injEq]; omega
      · refine ⟨(-s - 1).toNat, (1000000000 - n).toNat, ?_, by omega, by omega, ?_⟩
        · rw [if_neg h0]; simp only [Prod.mk.injEq]; omega
        · rw [if_neg (by omega)]; simp only [Prod.mk.injEq]; omega
    obtain ⟨a, b, e1, ha, hb, e2⟩ := key
    rw [e1]
    simp only [Int.toNat_natCast]
    obtain ⟨k1, k2, k3, k4⟩ := body_ok a b ha hb
    have hr : restS (45 :: bodyT a b) = bodyT a b := by unfold restS; rw [if_pos (by rfl)]; rfl
    have hv : valF (45 :: bodyT a b) = (s, n) := by unfold valF; rw [if_pos (by rfl), hr, k2, k3, e2]
    unfold stampF
    rw [hr, k1, if_pos rfl, hv]
    simp only [h, if_true]
  · rw [if_neg hs]
    obtain ⟨k1, k2, k3, k4⟩ := body_ok s.toNat n.toNat (by omega) (by omega)
    have hr : restS (bodyT s.toNat n.toNat) = bodyT s.toNat n.toNat := by unfold restS; rw [if_neg k4]
    have hv : valF (bodyT s.toNat n.toNat) = (s, n) := by
      unfold valF
      rw [if_neg k4, hr, k2, k3]
      simp only [Prod.mk.injEq]; omega
    unfold stampF
    rw [hr, k1, if_pos rfl, hv]
    simp only [h, if_true]
theorem ok_len (r : List UInt8) (h : okF r = true) : r.length ≤ 57 := by
  unfold okF at h
  have e : r = wholeL r ++ partL r := (List.takeWhile_append_dropWhile (p := (· != 46))).symm
  rw [Bool.and_eq_true] at h
  have h1 := ((digB_iff _ _).1 h.1).2.1
  have h2 : (partL r).length ≤ 41 := by
    have h2 := h.2
    rw [Bool.or_eq_true] at h2
    rcases h2 with h2 | h2
    · have : partL r = [] := by simpa using h2
      rw [this]; decide
    · have := ((digB_iff _ _).1 h2).2.1
      rw [List.length_drop] at this
      omega
  rw [e, List.length_append]
  omega
theorem stamp_long (l : List UInt8) (h : 100 < l.length) : stampF l = (0, 0, 2) := by
  unfold stampF
  rw [if_neg]
  intro g
  have := ok_len _ g
  unfold restS at this
  split at this
  · simp at this; omega
  · omega
end Go.Proofs.YtjldphpdfckjnaaDoor
