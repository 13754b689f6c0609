/- Maps with holes: what a text says, in plain words. -/
import Derived.Test.YtnemjfojlgjkfaaDoorParP
namespace Go.Proofs.YtnemjfojlgjkfaaDoor
open Go.RowKit
open Go.Lib (decDigits itoa)

/-- the first line as a number: it, all behind it; an error's number -/
def numL (r : List UInt8) : Nat × List UInt8 × Nat :=
  if dwC 10 r = [] then (0, [], 3)
  else if (twC 10 r).length = 0 ∨ 13 < (twC 10 r).length ∨ ((twC 10 r).head? = some 48 ∧ 1 < (twC 10 r).length) then (0, [], 2)
  else if (twC 10 r).all dg = true then (decN (twC 10 r), (dwC 10 r).drop 1, 0) else (0, [], 2)
theorem tw_dw (r : List UInt8) : twC 10 r ++ dwC 10 r = r := List.takeWhile_append_dropWhile
theorem numL_err (r : List UInt8) (h : (numL r).2.2 ≠ 0) : numL r = (0, [], (numL r).2.2) := by
  unfold numL at h ⊢
  split
  · rfl
  · split
    · rfl
    · split
      · rename_i h1 h2 h3
        rw [if_neg h1, if_neg h2, if_pos h3] at h
        exact absurd rfl h
      · rfl
theorem numL_lt (r : List UInt8) : (numL r).1 < 10000000000000 ∧ (numL r).2.1.length ≤ r.length := by
  unfold numL
  split
  · exact ⟨by decide, Nat.zero_le _⟩
  · split
    · exact ⟨by decide, Nat.zero_le _⟩
    · split
      · rename_i h1 h2 h3
        have hl : (twC 10 r).length ≤ 13 := by omega
        have := decN_lt _ (twC 10 r) (fun c hc => by rw [List.all_eq_true] at h3; exact h3 c hc) rfl
        have h10 : 10 ^ (twC 10 r).length ≤ 10 ^ 13 := Nat.pow_le_pow_right (by decide) hl
        refine ⟨Nat.lt_of_lt_of_le this h10, ?_⟩
        have := congrArg List.length (tw_dw r)
        rw [List.length_append] at this
        show ((dwC 10 r).drop 1).length ≤ _
        rw [List.length_drop]; omega
      · exact ⟨by decide, Nat.zero_le _⟩
/-- so many pieces: they, what stands behind them; an error's number -/
def pcsL : Nat → List UInt8 → Pcs → Pcs × List UInt8 × Nat
  | 0, r, out => (out, r, 0)
  | n + 1, r, out =>
    if (numL r).2.2 ≠ 0 then ([], [], (numL r).2.2)
    else if (numL (numL r).2.1).2.2 ≠ 0 then ([], [], (numL (numL r).2.1).2.2)
    else pcsL n (numL (numL r).2.1).2.1 (out ++ [(((numL r).1 : Int), ((numL (numL r).2.1).1 : Int))])
/-- a text's map: size, pieces, what stands behind; an error's number -/
def parL (s : List UInt8) : Int × Pcs × List UInt8 × Nat :=
  if (numL s).2.2 ≠ 0 then (0, [], [], (numL s).2.2)
  else if 4096 < (numL s).1 then (0, [], [], 8)
  else if (numL (numL s).2.1).2.2 ≠ 0 then (0, [], [], (numL (numL s).2.1).2.2)
  else if (pcsL (numL s).1 (numL (numL s).2.1).2.1 []).2.2 ≠ 0 then (0, [], [], (pcsL (numL s).1 (numL (numL s).2.1).2.1 []).2.2)
  else if mapB (numL (numL s).2.1).1 (pcsL (numL s).1 (numL (numL s).2.1).2.1 []).1 = true then (((numL (numL s).2.1).1 : Int), (pcsL (numL s).1 (numL (numL s).2.1).2.1 []).1, (pcsL (numL s).1 (numL (numL s).2.1).2.1 []).2.1, 0)
  else (0, [], [], 6)
theorem tw_line (d r : List UInt8) (h : ∀ c ∈ d, dg c = true) : twC 10 (d ++ 10 :: r) = d ∧ dwC 10 (d ++ 10 :: r) = 10 :: r := by
  induction d with
  | nil => exact ⟨by simp [twC], by simp [dwC]⟩
  | cons c d ih =>
    have hc := h c (List.mem_cons_self ..)
    have hc2 : (c != 10) = true := by
      unfold dg at hc
      have := of_decide_eq_true hc
      rw [bne_iff_ne]
      intro e
      subst e
      exact absurd this (by decide)
    obtain ⟨h1, h2⟩ := ih (fun x hx => h x (List.mem_cons_of_mem _ hx))
    unfold twC dwC at *
    rw [List.cons_append, List.takeWhile_cons, if_pos hc2, h1, List.dropWhile_cons, if_pos hc2, h2]
    exact ⟨rfl, rfl⟩
/-- a number's line is read as the number -/
theorem numL_line (x : Int) (h0 : 0 ≤ x) (h1 : x ≤ 1099511627776) (r : List UInt8) : numL (lineI x ++ r) = (x.toNat, r, 0) := by
  have hd := digs_dg x.toNat
  obtain ⟨e1, e2⟩ := tw_line (decDigits x.toNat) r hd
  have hl := digs_len 12 x.toNat (by omega)
  unfold lineI
  rw [List.append_assoc, show [10] ++ r = 10 :: r from rfl]
  unfold numL
  rw [e1, e2, if_neg (by simp), if_neg, if_pos (by rw [List.all_eq_true]; exact hd), digs_val]
  · rfl
  · rintro (h | h | ⟨h, g⟩)
    · exact digs_ne x.toNat (List.eq_nil_of_length_eq_zero h)
    · omega
    · by_cases hz : 0 < x.toNat
      · exact digs_head _ hz h
      · rw [show x.toNat = 0 by omega, decDigits, dif_pos (by decide)] at g
        exact absurd g (by decide)
theorem pcsL_text (l : Pcs) (h : ∀ p ∈ l, 0 ≤ p.1 ∧ p.1 ≤ 1099511627776 ∧ 0 ≤ p.2 ∧ p.2 ≤ 1099511627776) (r : List UInt8) : ∀ out, pcsL l.length (l.flatMap (fun p => lineI p.1 ++ lineI p.2) ++ r) out = (out ++ l, r, 0) := by
  induction l with
  | nil => intro out; simp [pcsL]
  | cons p l ih =>
    intro out
    obtain ⟨a, b, c, d⟩ := h p (List.mem_cons_self ..)
    rw [List.flatMap_cons, List.length_cons, pcsL]
    simp only [List.append_assoc]
    rw [numL_line p.1 a b, if_neg (by simp)]
    dsimp only
    rw [numL_line p.2 c d, if_neg (by simp)]
    dsimp only
    rw [ih (fun q hq => h q (List.mem_cons_of_mem _ hq)), List.append_assoc]
    rw [show ((p.1.toNat : Nat) : Int) = p.1 by omega, show ((p.2.toNat : Nat) : Int) = p.2 by omega]
    rfl
/-- a right map's text is read as the map, and what stands behind it -/
theorem parL_text (size : Int) (l : Pcs) (hr : mapB size l = true) (r : List UInt8) : parL (txM size l ++ r) = (size, l, r, 0) := by
  obtain ⟨g1, g2, g3⟩ := mapB_size hr
  have hm := mapB_mem hr
  have e : txM size l ++ r = lineI (l.length : Int) ++ (lineI size ++ (l.flatMap (fun p => lineI p.1 ++ lineI p.2) ++ r)) := by
    unfold txM; simp only [List.append_assoc]
  rw [e]
  unfold parL
  rw [numL_line _ (by omega) (by omega)]
  dsimp only
  rw [numL_line _ g1 g2]
  dsimp only
  rw [Int.toNat_natCast, pcsL_text l (fun p hp => by have := hm p hp; omega)]
  dsimp only
  rw [if_neg (by simp), if_neg (by omega), if_neg (by simp), if_neg (by simp), List.nil_append, show ((size.toNat : Nat) : Int) = size by omega, if_pos hr]
end Go.Proofs.YtnemjfojlgjkfaaDoor
