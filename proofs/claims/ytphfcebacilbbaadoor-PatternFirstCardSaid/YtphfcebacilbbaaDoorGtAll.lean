/- Tables of globs: sets of places as bits in bytes: the plain law. Tables of globs: what sets of places the code makes: those that the tokens reach. The plain law. Tables of globs: maker.one. All blocks but one are as they were. Plain helpers. Tables of globs: maker.close. Tables of globs: maker.step. Maps from texts to integers that a call makes and only adds new texts to: what they hold, in plain words; made, asked, written, counted. Slices of one-cell elements that the call itself made, as lists of values; slices of two element types are apart. Plain helpers. Tables of globs: what a maker and its table hold; maker.state where nothing is made. Tables of globs: maker.state where the set is told already. append of one value on a slice of the call's own, as one step of a region that draws its order. Tables of globs: maker.state where the set is new. Tables of globs: maker.state, its four ways in one. Tables of globs: the signs of a byte, and the classes that maker.split makes. The plain law. Tables of globs: maker.split. A list without doubles of things that have different numbers below n has at most n of them; rows of bits. Plain helpers. Tables of globs: the sets that texts reach, and how many there may be. The plain law. Tables of globs: what Compile has told so far, what it leaves, and what a walk through the table finds. The plain law. Tables of globs: gtable.Compile. Tables of globs: a walk through a table, whatever is told. Tables of globs: Longest, Match, States, Ends. Tables of globs: the chapter's example. -/
import Derived.Test.YtphfcebacilbbaaDoorGlobP
import Derived.Test.YtphfcebacilbbaaDoorGlobC
import Derived.Test.YtphfcebacilbbaaDoorRowAt
import Derived.Deep.RegionHeld3
import Derived.Test.YtphfcebacilbbaaDoorAtB
import Derived.Test.YtphfcebacilbbaaDoorMakeB
import Derived.Test.YtphfcebacilbbaaDoorKit
import Derived.Maps.OwnOps
import Derived.Maps.OwnSet
import Derived.Maps.Views
import Derived.Laws.OwnMore
import Derived.Test.YtphfcebacilbbaaDoorStrs
import Derived.Lib.TrimByte
import Derived.Deep.RegionLaw
import Derived.Test.YtphfcebacilbbaaDoorGlobE
import Derived.Test.YtphfcebacilbbaaDoorGlobT
namespace Go.Proofs.YtphfcebacilbbaaDoor
open Go.RowKit

/-- bit i of a row of bytes -/
def bitL (l : List UInt8) (i : Nat) : Bool := (l.getD (i / 8) 0).toNat.testBit (i % 8)
def setL (l : List UInt8) (i : Nat) : List UInt8 := l.set (i / 8) (UInt8.ofNat ((l.getD (i / 8) 0).toNat ||| 2 ^ (i % 8)))
theorem setL_len (l : List UInt8) (i : Nat) : (setL l i).length = l.length := by unfold setL; rw [List.length_set]
theorem or_lt (a i : Nat) (ha : a < 256) (hi : i < 8) : a ||| 2 ^ i < 256 := by
  have h2 : 2 ^ i < 2 ^ 8 := Nat.pow_lt_pow_right (by decide) hi
  exact Nat.or_lt_two_pow (n := 8) ha h2
theorem bit_set (l : List UInt8) (i j : Nat) (hi : i / 8 < l.length) : bitL (setL l i) j = (decide (i = j) || bitL l j) := by
  have hb := (l.getD (i / 8) 0).toNat_lt
  have hlt := or_lt (l.getD (i / 8) 0).toNat (i % 8) hb (Nat.mod_lt _ (by decide))
  unfold bitL setL
  by_cases h : i / 8 = j / 8
  · have e : (l.set (i / 8) (UInt8.ofNat ((l.getD (i / 8) 0).toNat ||| 2 ^ (i % 8)))).getD (j / 8) 0 = UInt8.ofNat ((l.getD (i / 8) 0).toNat ||| 2 ^ (i % 8)) := by
      rw [← h, List.getD_eq_getElem?_getD, List.getElem?_set_self hi]; rfl
    rw [e, UInt8.toNat_ofNat', Nat.mod_eq_of_lt hlt, Nat.testBit_or, Nat.testBit_two_pow, h, Bool.or_comm]
    congr 1
    rw [decide_eq_decide]
    omega
  · have e : (l.set (i / 8) (UInt8.ofNat ((l.getD (i / 8) 0).toNat ||| 2 ^ (i % 8)))).getD (j / 8) 0 = l.getD (j / 8) 0 := by
      rw [List.getD_eq_getElem?_getD, List.getElem?_set_ne h, ← List.getD_eq_getElem?_getD]
    have hne : decide (i = j) = false := decide_eq_false (fun e => h (by rw [e]))
    rw [e, hne, Bool.false_or]
theorem bit_zero (m i : Nat) : bitL (List.replicate m 0) i = false := by
  unfold bitL
  have e : (List.replicate m (0 : UInt8)).getD (i / 8) 0 = 0 := by
    rw [List.getD_eq_getElem?_getD, List.getElem?_replicate]
    split <;> rfl
  rw [e]
  exact Nat.zero_testBit _
/-- rows of bytes with the same bits are the same -/
theorem bits_ext (a b : List UInt8) (hl : a.length = b.length) (h : ∀ i, i < 8 * a.length → bitL a i = bitL b i) : a = b := by
  apply List.ext_getElem hl
  intro k h1 h2
  apply UInt8.toNat_inj.1
  apply Nat.eq_of_testBit_eq
  intro t
  by_cases ht : t < 8
  · have e := h (8 * k + t) (by omega)
    unfold bitL at e
    rw [show (8 * k + t) / 8 = k by omega, show (8 * k + t) % 8 = t by omega] at e
    rw [List.getD_eq_getElem?_getD, List.getD_eq_getElem?_getD, List.getElem?_eq_getElem h1, List.getElem?_eq_getElem h2] at e
    exact e
  · have p : 2 ^ 8 ≤ 2 ^ t := Nat.pow_le_pow_right (by decide) (by omega)
    rw [Nat.testBit_lt_two_pow (Nat.lt_of_lt_of_le a[k].toNat_lt p), Nat.testBit_lt_two_pow (Nat.lt_of_lt_of_le b[k].toNat_lt p)]
/-- what a byte's bit is in numbers -/
theorem bit_num (b : UInt8) (i : Nat) : b.toNat.testBit i = decide (b.toNat / 2 ^ i % 2 = 1) := by
  rw [Nat.testBit, Nat.shiftRight_eq_div_pow, Nat.and_comm, Nat.and_one_is_mod]
  rcases Nat.mod_two_eq_zero_or_one (b.toNat / 2 ^ i) with h | h <;> simp [h]
def starAt (L : List GT) (i : Nat) : Bool := match L[i]? with
  | some t => t.isStar
  | none => false
def tellsAt (L : List GT) (i : Nat) (b : UInt8) : Bool := match L[i]? with
  | some t => t.tells b
  | none => false
/-- the places behind stars, too: the first k tokens looked at -/
def closeK (L : List GT) (l : List UInt8) : Nat → List UInt8
  | 0 => l
  | k + 1 => if starAt L k && bitL (closeK L l k) k then setL (closeK L l k) (k + 1) else closeK L l k
theorem closeK_len (L : List GT) (l : List UInt8) : ∀ k, (closeK L l k).length = l.length
  | 0 => rfl
  | k + 1 => by
    unfold closeK
    split
    · rw [setL_len, closeK_len L l k]
    · exact closeK_len L l k
def closeL (L : List GT) (l : List UInt8) : List UInt8 := closeK L l L.length
/-- where a byte leads from a set, ahead of stars: the first k tokens looked at -/
def outK (fr : UInt8 → Bool) (L : List GT) (b : UInt8) (l : List UInt8) : Nat → List UInt8
  | 0 => List.replicate l.length 0
  | k + 1 => if bitL l k then (if starAt L k then (if fr b then setL (outK fr L b l k) k else outK fr L b l k) else (if tellsAt L k b then setL (outK fr L b l k) (k + 1) else outK fr L b l k)) else outK fr L b l k
theorem outK_len (fr : UInt8 → Bool) (L : List GT) (b : UInt8) (l : List UInt8) : ∀ k, (outK fr L b l k).length = l.length
  | 0 => by simp [outK]
  | k + 1 => by
    unfold outK
    repeat' split
    all_goals first | exact outK_len fr L b l k | (rw [setL_len]; exact outK_len fr L b l k)
def stepL (fr : UInt8 → Bool) (L : List GT) (b : UInt8) (l : List UInt8) : List UInt8 := closeL L (outK fr L b l L.length)
theorem stepL_len (fr : UInt8 → Bool) (L : List GT) (b : UInt8) (l : List UInt8) : (stepL fr L b l).length = l.length := by
  unfold stepL closeL
  rw [closeK_len, outK_len]
def firstL (L : List GT) : List UInt8 := closeL L (setL (List.replicate (L.length / 8 + 1) 0) 0)
/-- the places that tokens reach by a text: a place before a star is also reached while the star goes on -/
def reachQ (fr : UInt8 → Bool) (L : List GT) (s : List UInt8) (i : Nat) : Bool := if starAt L i then matchG fr (L.take (i + 1)) s else matchG fr (L.take i) s
/-- a row of bytes that stands for a set of places -/
structure IsSet (L : List GT) (l : List UInt8) (q : Nat → Bool) : Prop where
  len : l.length = L.length / 8 + 1
  bit : ∀ i, i ≤ L.length → bitL l i = q i
  rest : ∀ i, L.length < i → bitL l i = false
theorem IsSet.uniq {L : List GT} {a b : List UInt8} {q r : Nat → Bool} (ha : IsSet L a q) (hb : IsSet L b r) (h : ∀ i, i ≤ L.length → q i = r i) : a = b := by
  apply bits_ext a b (ha.len.trans hb.len.symm)
  intro i _
  rcases Nat.lt_or_ge L.length i with hi | hi
  · rw [ha.rest i hi, hb.rest i hi]
  · rw [ha.bit i hi, hb.bit i hi, h i hi]
/-- the bits behind stars -/
theorem closeK_bit (L : List GT) (l : List UInt8) (hl : L.length / 8 < l.length) (c : Nat → Bool) (h0 : c 0 = bitL l 0) (hc : ∀ i, c (i + 1) = (bitL l (i + 1) || (starAt L i && c i))) :
    ∀ k, k ≤ L.length → ∀ i, bitL (closeK L l k) i = if i ≤ k then c i else bitL l i
  | 0, _, i => by
    unfold closeK
    split
    · have : i = 0 := by omega
      subst this; exact h0.symm
    · rfl
  | k + 1, hk, i => by
    have ih := closeK_bit L l hl c h0 hc k (by omega)
    have hkk := ih k
    rw [if_pos (Nat.le_refl _)] at hkk
    unfold closeK
    rw [hkk]
    have hlen : (k + 1) / 8 < (closeK L l k).length := by rw [closeK_len]; omega
    by_cases hs : (starAt L k && c k) = true
    · rw [if_pos hs, bit_set _ _ _ hlen, ih i]
      by_cases h1 : i ≤ k
      · rw [if_pos h1, if_pos (by omega), decide_eq_false (by omega)]; rfl
      · by_cases h2 : i = k + 1
        · subst h2
          rw [if_pos (Nat.le_refl _), hc k, hs]; simp
        · rw [if_neg h1, if_neg (by omega), decide_eq_false (by omega)]; rfl
    · rw [if_neg hs, ih i]
      by_cases h1 : i ≤ k
      · rw [if_pos h1, if_pos (by omega)]
      · by_cases h2 : i = k + 1
        · subst h2
          have hs : (starAt L k && c k) = false := by simpa using hs
          rw [if_neg h1, if_pos (Nat.le_refl _), hc k, hs, Bool.or_false]
        · rw [if_neg h1, if_neg (by omega)]
/-- the bits behind a byte, ahead of stars -/
theorem outK_bit (fr : UInt8 → Bool) (L : List GT) (b : UInt8) (l : List UInt8) (hl : L.length / 8 < l.length) :
    ∀ k, k ≤ L.length → ∀ i, bitL (outK fr L b l k) i = ((decide (i < k) && bitL l i && starAt L i && fr b) || (decide (0 < i ∧ i ≤ k) && bitL l (i - 1) && !starAt L (i - 1) && tellsAt L (i - 1) b))
  | 0, _, i => by
    unfold outK
    rw [bit_zero]
    have h2 : decide (0 < i ∧ i ≤ 0) = false := decide_eq_false (by omega)
    rw [h2]
    simp
  | k + 1, hk, i => by
    have ih := outK_bit fr L b l hl k (by omega) i
    have hlen : ∀ j, j ≤ L.length → j / 8 < (outK fr L b l k).length := by intro j hj; rw [outK_len]; omega
    have key : bitL (outK fr L b l (k + 1)) i = (bitL (outK fr L b l k) i || (decide (i = k) && bitL l k && starAt L k && fr b) || (decide (i = k + 1) && bitL l k && !starAt L k && tellsAt L k b)) := by
      rw [outK]
      cases h1 : bitL l k
      · simp
      · cases h2 : starAt L k
        · cases h3 : tellsAt L k b
          · simp
          · simp only [if_true, Bool.false_eq_true, if_false]
            rw [bit_set _ _ _ (hlen _ hk), Bool.or_comm, show decide (k + 1 = i) = decide (i = k + 1) from decide_eq_decide.2 ⟨Eq.symm, Eq.symm⟩]
            simp
        · cases h3 : fr b
          · simp
          · simp only [if_true]
            rw [bit_set _ _ _ (hlen _ (by omega)), Bool.or_comm, show decide (k = i) = decide (i = k) from decide_eq_decide.2 ⟨Eq.symm, Eq.symm⟩]
            simp
    rw [key, ih]
    by_cases h1 : i = k
    · subst h1
      have e1 : decide (i < i) = false := by simp
      have e2 : decide (i < i + 1) = true := by simp
      have e3 : decide (i = i + 1) = false := by simp
      have e4 : decide (0 < i ∧ i ≤ i + 1) = decide (0 < i ∧ i ≤ i) := decide_eq_decide.2 (by omega)
      rw [e1, e2, e3, e4]
      simp
      generalize (decide (0 < i) && bitL l (i - 1) && !starAt L (i - 1) && tellsAt L (i - 1) b) = x
      generalize (bitL l i && starAt L i && fr b) = y
      cases x <;> cases y <;> rfl
    · by_cases h2 : i = k + 1
      · subst h2
        have e1 : decide (k + 1 < k) = false := by simp
        have e2 : decide (k + 1 < k + 1) = false := by simp
        have e3 : decide (0 < k + 1 ∧ k + 1 ≤ k) = false := decide_eq_false (by omega)
        have e4 : decide (0 < k + 1 ∧ k + 1 ≤ k + 1) = true := decide_eq_true (by omega)
        have e5 : decide (k + 1 = k) = false := by simp
        rw [e1, e2, e3, e4, e5]
        simp
      · have e1 : decide (i < k + 1) = decide (i < k) := decide_eq_decide.2 (by omega)
        have e2 : decide (0 < i ∧ i ≤ k + 1) = decide (0 < i ∧ i ≤ k) := decide_eq_decide.2 (by omega)
        have e3 : decide (i = k) = false := decide_eq_false h1
        have e4 : decide (i = k + 1) = false := decide_eq_false h2
        rw [e1, e2, e3, e4]
        simp
end Go.Proofs.YtphfcebacilbbaaDoor
namespace Go.Proofs.YtphfcebacilbbaaDoor
open Go.RowKit

theorem star_at {L : List GT} {i : Nat} (h : starAt L i = true) : ∃ hi : i < L.length, L[i] = .star := by
  unfold starAt at h
  cases e : L[i]? with
  | none => rw [e] at h; cases h
  | some t =>
    rw [e] at h
    obtain ⟨hi, rfl⟩ := List.getElem?_eq_some_iff.1 e
    refine ⟨hi, ?_⟩
    cases ht : L[i] with
    | star => rfl
    | one f => rw [ht] at h; cases h
theorem star_no {L : List GT} {i : Nat} (hi : i < L.length) (h : starAt L i = false) : ∃ f, L[i] = .one f ∧ ∀ b, tellsAt L i b = f b := by
  unfold starAt at h
  unfold tellsAt
  rw [List.getElem?_eq_getElem hi] at h ⊢
  cases ht : L[i] with
  | star => rw [ht] at h; cases h
  | one f => exact ⟨f, rfl, fun _ => rfl⟩
theorem star_out {L : List GT} {i : Nat} (hi : L.length ≤ i) : starAt L i = false := by
  unfold starAt
  rw [List.getElem?_eq_none hi]
variable (fr : UInt8 → Bool)
def reachP (L : List GT) (s : List UInt8) (i : Nat) : Bool := matchG fr (L.take i) s
theorem reachP_nil0 (L : List GT) : reachP fr L [] 0 = true := by unfold reachP; rw [List.take_zero, none_iff]; rfl
theorem reachP_snoc0 (L : List GT) (s : List UInt8) (b : UInt8) : reachP fr L (s ++ [b]) 0 = false := by unfold reachP; rw [List.take_zero, none_iff]; simp
theorem reachP_nil (L : List GT) (i : Nat) (hi : i < L.length) : reachP fr L [] (i + 1) = (starAt L i && reachP fr L [] i) := by
  unfold reachP
  rw [take_snocL L i hi]
  cases h : starAt L i
  · obtain ⟨f, hf, _⟩ := star_no hi h
    rw [hf, ends_one_nil]; rfl
  · obtain ⟨_, hf⟩ := star_at h
    rw [hf, ends_star_nil]; rfl
theorem reachP_star (L : List GT) (s : List UInt8) (b : UInt8) (i : Nat) (h : starAt L i = true) : reachP fr L (s ++ [b]) (i + 1) = (reachP fr L (s ++ [b]) i || (fr b && reachP fr L s (i + 1))) := by
  obtain ⟨hi, hf⟩ := star_at h
  unfold reachP
  rw [take_snocL L i hi, hf, ends_star]
theorem reachP_one (L : List GT) (s : List UInt8) (b : UInt8) (i : Nat) (hi : i < L.length) (h : starAt L i = false) : reachP fr L (s ++ [b]) (i + 1) = (reachP fr L s i && tellsAt L i b) := by
  obtain ⟨f, hf, ht⟩ := star_no hi h
  unfold reachP
  rw [take_snocL L i hi, hf, ends_one, ht]
theorem reachQ_eq (L : List GT) (s : List UInt8) (i : Nat) : reachQ fr L s i = if starAt L i then reachP fr L s (i + 1) else reachP fr L s i := rfl
def clF (L : List GT) (l : List UInt8) : Nat → Bool
  | 0 => bitL l 0
  | i + 1 => bitL l (i + 1) || (starAt L i && clF L l i)
theorem closeL_bit (L : List GT) (l : List UInt8) (hl : L.length / 8 < l.length) (i : Nat) : bitL (closeL L l) i = if i ≤ L.length then clF L l i else bitL l i :=
  closeK_bit L l hl (clF L l) rfl (fun _ => rfl) L.length (Nat.le_refl _) i
theorem first_set (L : List GT) : IsSet L (firstL L) (reachQ fr L []) := by
  have hz : ∀ i, bitL (setL (List.replicate (L.length / 8 + 1) 0) 0) i = decide (0 = i) := by
    intro i
    rw [bit_set _ _ _ (by simp), bit_zero, Bool.or_false]
  have hlen : L.length / 8 < (setL (List.replicate (L.length / 8 + 1) 0) 0).length := by rw [setL_len, List.length_replicate]; omega
  have hc : ∀ i, i ≤ L.length → clF L (setL (List.replicate (L.length / 8 + 1) 0) 0) i = reachP fr L [] i := by
    intro i
    induction i with
    | zero => intro _; rw [reachP_nil0]; unfold clF; rw [hz]; rfl
    | succ i ih =>
      intro hi
      unfold clF
      rw [hz, ih (by omega), reachP_nil fr L i (by omega), decide_eq_false (by omega)]
      rfl
  refine ⟨?_, fun i hi => ?_, fun i hi => ?_⟩
  · unfold firstL closeL
    rw [closeK_len, setL_len, List.length_replicate]
  · unfold firstL
    rw [closeL_bit L _ hlen, if_pos hi, hc i hi, reachQ_eq]
    cases h : starAt L i
    · rfl
    · obtain ⟨h1, _⟩ := star_at h
      rw [if_pos rfl, reachP_nil fr L i h1, h]; rfl
  · unfold firstL
    rw [closeL_bit L _ hlen, if_neg (by omega), hz, decide_eq_false (by omega)]
theorem step_set (L : List GT) (s : List UInt8) (b : UInt8) (l : List UInt8) (h : IsSet L l (reachQ fr L s)) : IsSet L (stepL fr L b l) (reachQ fr L (s ++ [b])) := by
  have hl : L.length / 8 < l.length := by rw [h.len]; omega
  have hlo : L.length / 8 < (outK fr L b l L.length).length := by rw [outK_len]; exact hl
  have ho := outK_bit fr L b l hl L.length (Nat.le_refl _)
  have hc : ∀ i, i ≤ L.length → clF L (outK fr L b l L.length) i = (reachP fr L (s ++ [b]) i || (starAt L i && fr b && reachP fr L s (i + 1))) := by
    intro i
    induction i with
    | zero =>
      intro _
      unfold clF
      rw [ho, reachP_snoc0]
      have e : decide (0 < 0 ∧ 0 ≤ L.length) = false := by simp
      rw [e]
      cases hs : starAt L 0
      · simp
      · obtain ⟨h1, _⟩ := star_at hs
        rw [decide_eq_true h1, h.bit 0 (by omega), reachQ_eq, hs]
        simp [Bool.and_comm]
    | succ i ih =>
      intro hi
      unfold clF
      rw [ho, ih (by omega)]
      have e1 : decide (0 < i + 1 ∧ i + 1 ≤ L.length) = true := decide_eq_true (by omega)
      rw [e1, Nat.add_sub_cancel]
      have first : (decide (i + 1 < L.length) && bitL l (i + 1) && starAt L (i + 1) && fr b) = (starAt L (i + 1) && fr b && reachP fr L s (i + 1 + 1)) := by
        cases hs : starAt L (i + 1)
        · simp
        · obtain ⟨h1, _⟩ := star_at hs
          rw [decide_eq_true h1, h.bit (i + 1) hi, reachQ_eq, hs]
          simp [Bool.and_comm]
      rw [first]
      cases hs : starAt L i
      · rw [reachP_one fr L s b i (by omega) hs, h.bit i (by omega), reachQ_eq, hs]
        simp [Bool.or_comm]
      · rw [reachP_star fr L s b i hs]
        simp [Bool.or_comm]
  refine ⟨?_, fun i hi => ?_, fun i hi => ?_⟩
  · rw [stepL_len, h.len]
  · unfold stepL
    rw [closeL_bit L _ hlo, if_pos hi, hc i hi, reachQ_eq]
    cases hs : starAt L i
    · simp
    · rw [if_pos rfl, reachP_star fr L s b i hs]
      simp
  · unfold stepL
    rw [closeL_bit L _ hlo, if_neg (by omega), ho, star_out (i := i) (by omega)]
    have e : decide (0 < i ∧ i ≤ L.length) = false := decide_eq_false (by omega)
    rw [e]
    simp
/-- the last place is reached just if all is matched -/
theorem reach_end (L : List GT) (s : List UInt8) : reachQ fr L s L.length = matchG fr L s := by
  rw [reachQ_eq, star_out (Nat.le_refl _), if_neg (by decide)]
  unfold reachP
  rw [List.take_length]
/-- two bytes that tokens don't tell apart lead to one set -/
theorem out_same (L : List GT) (b c : UInt8) (l : List UInt8) (hf : fr b = fr c) (ht : ∀ i, i < L.length → starAt L i = false → tellsAt L i b = tellsAt L i c) : ∀ k, k ≤ L.length → outK fr L b l k = outK fr L c l k
  | 0, _ => rfl
  | k + 1, hk => by
    rw [outK, outK, out_same L b c l hf ht k (by omega), hf]
    cases hs : starAt L k
    · rw [ht k (by omega) hs]
    · rfl
theorem step_same (L : List GT) (b c : UInt8) (l : List UInt8) (hf : fr b = fr c) (ht : ∀ i, i < L.length → starAt L i = false → tellsAt L i b = tellsAt L i c) : stepL fr L b l = stepL fr L c l := by
  unfold stepL
  rw [out_same fr L b c l hf ht L.length (Nat.le_refl _)]
/-- a set that no place is in, and where it leads -/
theorem bits_none (l : List UInt8) : (∀ c ∈ l, c = 0) ↔ ∀ i, bitL l i = false := by
  constructor
  · intro h i
    have : l = List.replicate l.length 0 := List.eq_replicate_of_mem h
    rw [this]
    exact bit_zero _ i
  · intro h c hc
    obtain ⟨k, hk, rfl⟩ := List.getElem_of_mem hc
    apply UInt8.toNat_inj.1
    apply Nat.eq_of_testBit_eq
    intro t
    by_cases ht : t < 8
    · have e := h (8 * k + t)
      unfold bitL at e
      rw [show (8 * k + t) / 8 = k by omega, show (8 * k + t) % 8 = t by omega, List.getD_eq_getElem?_getD, List.getElem?_eq_getElem hk] at e
      rw [show (0 : UInt8).toNat = 0 from rfl, Nat.zero_testBit]
      exact e
    · have p : 2 ^ 8 ≤ 2 ^ t := Nat.pow_le_pow_right (by decide) (by omega)
      rw [Nat.testBit_lt_two_pow (Nat.lt_of_lt_of_le l[k].toNat_lt p), show (0 : UInt8).toNat = 0 from rfl, Nat.zero_testBit]
theorem match_dead (L : List GT) (s : List UInt8) (h : ∀ i, i ≤ L.length → reachQ fr L s i = false) (t : List UInt8) : ∀ i, i ≤ L.length → reachQ fr L (s ++ t) i = false := by
  induction t generalizing s with
  | nil => rw [List.append_nil]; exact h
  | cons b t ih =>
    have e : s ++ b :: t = (s ++ [b]) ++ t := by simp
    rw [e]
    apply ih
    intro i hi
    have hp : ∀ j, j ≤ L.length → reachP fr L s j = false := by
      intro j
      induction j with
      | zero =>
        intro _
        have h0 := h 0 (Nat.zero_le _)
        rw [reachQ_eq] at h0
        cases hs : starAt L 0
        · rw [hs] at h0; exact h0
        · rw [hs, if_pos rfl] at h0
          cases s with
          | nil =>
            obtain ⟨h1, _⟩ := star_at hs
            rw [reachP_nil fr L 0 h1, hs, reachP_nil0] at h0
            cases h0
          | cons a r => unfold reachP; rw [List.take_zero, none_iff]; rfl
      | succ j ihj =>
        intro hj
        have h1 := h j (by omega)
        have h2 := h (j + 1) hj
        rw [reachQ_eq] at h1 h2
        cases hs : starAt L j
        · cases hs2 : starAt L (j + 1)
          · rw [hs2] at h2; exact h2
          · obtain ⟨h3, _⟩ := star_at hs2
            rw [hs2, if_pos rfl] at h2
            rcases List.eq_nil_or_concat s with rfl | ⟨r, a, rfl⟩
            · rw [reachP_nil fr L j (by omega), hs]; rfl
            · rw [List.concat_eq_append] at h2 ⊢
              rw [reachP_star fr L r a (j + 1) hs2, Bool.or_eq_false_iff] at h2
              exact h2.1
        · rw [hs, if_pos rfl] at h1; exact h1
    have hn : ∀ j, j ≤ L.length → reachP fr L (s ++ [b]) j = false := by
      intro j
      induction j with
      | zero => intro _; exact reachP_snoc0 fr L s b
      | succ j ihj =>
        intro hj
        cases hs : starAt L j
        · rw [reachP_one fr L s b j (by omega) hs, hp j (by omega)]; rfl
        · rw [reachP_star fr L s b j hs, ihj (by omega), hp (j + 1) hj]; simp
    rw [reachQ_eq]
    cases hs : starAt L i
    · exact hn i hi
    · obtain ⟨h1, _⟩ := star_at hs
      exact hn (i + 1) (by omega)
end Go.Proofs.YtphfcebacilbbaaDoor
namespace Go.Proofs.YtphfcebacilbbaaDoor
open Go.RowKit
attribute [local irreducible] wordP

theorem rows_lit (w : World) (t : Tk) : RowsV Tk.cells 6 (w.alloc (.cells #[.int .i64 t.kind, .int .u8 t.b.toNat, .int .u64 (wordP t.p 0), .int .u64 (wordP t.p 1), .int .u64 (wordP t.p 2), .int .u64 (wordP t.p 3)] 31)) (.slice (some ⟨w.heap.size, 0, none⟩) 1 1) [t] := by
  refine ⟨some ⟨w.heap.size, 0, none⟩, 1, rfl, fun _ => ⟨w.heap.size, 0, rfl, by simp, fun j hj i u hu => ?_⟩⟩
  have hj0 : j = 0 := by simpa using hj
  subst hj0
  have := (AtB.new w 31 t.cells).cell i
  rw [show 0 + 0 * 6 + i = i by omega]
  exact this.trans hu
theorem rows_l0 (t : Tk) (W : World) (g : Nat) (hg : g = W.heap.size) : RowsV Tk.cells 6 (W.alloc (.cells #[.int .i64 t.kind, .int .u8 t.b.toNat, .int .u64 (wordP t.p 0), .int .u64 (wordP t.p 1), .int .u64 (wordP t.p 2), .int .u64 (wordP t.p 3)] 31)).drew (.slice (some ⟨g, 0, none⟩) 1 1) [t] := by
  subst hg
  exact rows_lit W t
theorem rows_l1 (t : Tk) (W : World) (o : Obj) (g : Nat) (hg : g = W.heap.size) : RowsV Tk.cells 6 ((W.alloc (.cells #[.int .i64 t.kind, .int .u8 t.b.toNat, .int .u64 (wordP t.p 0), .int .u64 (wordP t.p 1), .int .u64 (wordP t.p 2), .int .u64 (wordP t.p 3)] 31)).alloc o).drew (.slice (some ⟨g, 0, none⟩) 1 1) [t] := by
  subst hg
  have h : RowsV Tk.cells 6 ((W.alloc (.cells #[.int .i64 t.kind, .int .u8 t.b.toNat, .int .u64 (wordP t.p 0), .int .u64 (wordP t.p 1), .int .u64 (wordP t.p 2), .int .u64 (wordP t.p 3)] 31)).alloc o) (.slice (some ⟨W.heap.size, 0, none⟩) 1 1) [t] := RowsV.below (rows_lit W t) ((Below.refl _ _).alloc (Nat.le_refl _) _) (Nat.le_refl _)
  exact h
theorem match_one (fold slash : Bool) (t : Tk) (b : UInt8) : (matchG (freeG slash) [t.gt fold slash] [b] && ((t.kind : Int) != 4)) = oneG fold slash t b := by
  cases t with
  | star => simp [Tk.kind, oneG]
  | byte c => show (matchG _ [.one _] [b] && true) = _; rw [one_cons, none_iff]; simp
  | any => show (matchG _ [.one _] [b] && true) = _; rw [one_cons, none_iff]; simp
  | set p => show (matchG _ [.one _] [b] && true) = _; rw [one_cons, none_iff]; simp
theorem conv_b0 (b : UInt8) (W : World) (g : Nat) (hg : g = W.heap.size) : (convert 69 9 (.slice (some ⟨g, 0, none⟩) 1 1)).run Tryd.prog (W.alloc (.cells #[.int .u8 b.toNat] 5)).drew = .ok (.string (S [b])) (W.alloc (.cells #[.int .u8 b.toNat] 5)).drew := by
  subst hg
  have h : OwnB (W.alloc (.cells #[.int .u8 b.toNat] 5)) 0 (.slice (some ⟨W.heap.size, 0, none⟩) 1 1) [b] := World.ownsRow_lit (base := 0) (e := 5) (size := 1) W #[.int .u8 b.toNat] 1 (Nat.zero_le _) (by decide) rfl
  exact run_string_own _ 0 _ [b] h
theorem conv_b1 (b : UInt8) (W : World) (o : Obj) (g : Nat) (hg : g = W.heap.size) : (convert 69 9 (.slice (some ⟨g, 0, none⟩) 1 1)).run Tryd.prog ((W.alloc (.cells #[.int .u8 b.toNat] 5)).alloc o).drew = .ok (.string (S [b])) ((W.alloc (.cells #[.int .u8 b.toNat] 5)).alloc o).drew := by
  subst hg
  have h : OwnB (W.alloc (.cells #[.int .u8 b.toNat] 5)) 0 (.slice (some ⟨W.heap.size, 0, none⟩) 1 1) [b] := World.ownsRow_lit (base := 0) (e := 5) (size := 1) W #[.int .u8 b.toNat] 1 (Nat.zero_le _) (by decide) rfl
  exact run_string_own _ 0 _ [b] (h.alloc o)
theorem ret_b {a b : Bool} (h : a = b) : Ending.returned (.bool a) = .returned (.bool b) := by rw [h]
theorem cellB {W W' : World} (hb : Below W.heap.size W W') {a : Addr} {u : Value} (h : W.cell? a = some u) : W'.cell? a = some u := (hb.cell (World.block_lt_of_cell? _ _ h)).trans h
/-- what the region of maker.one reads -/
def SM (g gb : Nat) (fold slash : Bool) (tk tb : Int) (w0 w1 w2 w3 : Int) (W : World) : Prop :=
  W.cell? ⟨g, 1, none⟩ = some (.bool fold) ∧ W.cell? ⟨g, 2, none⟩ = some (.bool slash) ∧ W.cell? ⟨gb, 0, none⟩ = some (.int .i64 tk) ∧ W.cell? ⟨gb, 1, none⟩ = some (.int .u8 tb) ∧ W.cell? ⟨gb, 2, none⟩ = some (.int .u64 w0) ∧ W.cell? ⟨gb, 3, none⟩ = some (.int .u64 w1) ∧ W.cell? ⟨gb, 4, none⟩ = some (.int .u64 w2) ∧ W.cell? ⟨gb, 5, none⟩ = some (.int .u64 w3)
theorem SM.below {g gb : Nat} {fold slash : Bool} {tk tb w0 w1 w2 w3 : Int} {W W' : World} (h : SM g gb fold slash tk tb w0 w1 w2 w3 W) (hb : Below W.heap.size W W') : SM g gb fold slash tk tb w0 w1 w2 w3 W' := by
  obtain ⟨h1, h2, h3, h4, h5, h6, h7, h8⟩ := h
  exact ⟨cellB hb h1, cellB hb h2, cellB hb h3, cellB hb h4, cellB hb h5, cellB hb h6, cellB hb h7, cellB hb h8⟩
set_option maxRecDepth 100000 in
set_option maxHeartbeats 8000000 in
theorem mOne_any (g : Nat) (fold slash : Bool) (t : Tk) (b : UInt8) (w : World) (h1 : w.cell? ⟨g, 1, none⟩ = some (.bool fold)) (h2 : w.cell? ⟨g, 2, none⟩ = some (.bool slash)) :
    Calls Tryd.prog 39 #[.pointer (some ⟨g, 0, none⟩), .agg #[.int .i64 t.kind, .int .u8 t.b.toNat, .int .u64 (wordP t.p 0), .int .u64 (wordP t.p 1), .int .u64 (wordP t.p 2), .int .u64 (wordP t.p 3)], .int .u8 b.toNat] w fun e w' => e = .returned (.bool (oneG fold slash t b)) ∧ Below w.heap.size w w' := by
  have HM := Lib.hid (fun w v (hl : RowsV Tk.cells 6 w v [t]) => Match_any [t] [b] fold slash v w hl (by show 1 ≤ 2000; decide) (by show 1 ≤ 100000; decide))
  have HE := match_one fold slash t b
  have c0 := fun W g hg => conv_b0 b W g hg
  have c1 := fun W o g hg => conv_b1 b W o g hg
  have RL0 := Lib.hid (fun W g hg => rows_l0 t W g hg)
  have RL1 := Lib.hid (fun W o g hg => rows_l1 t W o g hg)
  simp only [List.map_cons, List.map_nil] at HM
  generalize matchG (freeG slash) [t.gt fold slash] [b] = m at *
  generalize t.kind = tk at *
  generalize (t.b.toNat : Int) = tb at *
  generalize (wordP t.p 0 : Int) = w0 at *
  generalize (wordP t.p 1 : Int) = w1 at *
  generalize (wordP t.p 2 : Int) = w2 at *
  generalize (wordP t.p 3 : Int) = w3 at *
  have HB := Lib.hid ((Below.refl w.heap.size w).alloc (Nat.le_refl _) (.cells #[.int .i64 tk, .int .u8 tb, .int .u64 w0, .int .u64 w1, .int .u64 w2, .int .u64 w3] 31))
  have HS : SM g w.heap.size fold slash tk tb w0 w1 w2 w3 (w.alloc (.cells #[.int .i64 tk, .int .u8 tb, .int .u64 w0, .int .u64 w1, .int .u64 w2, .int .u64 w3] 31)) :=
    ⟨cellB HB.out h1, cellB HB.out h2, by simp, by simp, by simp, by simp, by simp, by simp⟩
  have HK := Lib.hid (fun W hb => HS.below (W' := W) hb)
  clear h1 h2 HS
  cases m
  · have HE := Lib.hid HE
    go_enter Tryd.func39, Tryd.ntmps39
    go_upto_region 1 with (fail)
    generalize w.alloc (.cells #[.int .i64 tk, .int .u8 tb, .int .u64 w0, .int .u64 w1, .int .u64 w2, .int .u64 w3] 31) = wb at *
    refine wp_region_noPanic ?_
    refine wp_region_held_drew (S := SM g w.heap.size fold slash tk tb w0 w1 w2 w3) (by kernel_rfl) (HK.out _ (Below.refl _ _).drew) (fun hHeld => ?_)
    refine wpAnyH_take (i := 0) (v := ?_) rfl (by kernel_rfl) (by kernel_rfl) (by kernel_rfl) (fun _ _ _ h => h) (Or.inl ⟨by rfl, ?_⟩) (by assumption) ?_
    rotate_left
    focus (intro w' hSw; (try dsimp only [SM] at hSw); go_simp; first | done | with_reducible rfl)
    try simp only [Act.put, List.getElem_toArray, List.getElem_cons_zero, List.setIfInBounds_toArray, List.set_cons_zero, List.set_cons_succ]
    refine wpAnyH_take (i := 2) (v := ?_) rfl (by kernel_rfl) (by kernel_rfl) (by kernel_rfl) (fun _ _ _ h => h) (Or.inl ⟨by rfl, ?_⟩) (by assumption) ?_
    rotate_left
    focus (intro w' hSw; (try dsimp only [SM] at hSw); go_simp; first | done | with_reducible rfl)
    try simp only [Act.put, List.getElem_toArray, List.getElem_cons_succ, List.getElem_cons_zero, List.setIfInBounds_toArray, List.set_cons_zero, List.set_cons_succ]
    refine wpAnyH_take (i := 3) (v := ?_) rfl (by kernel_rfl) (by kernel_rfl) (by kernel_rfl) (fun _ _ _ h => h) (Or.inl ⟨by rfl, ?_⟩) (by assumption) ?_
    rotate_left
    focus (intro w' hSw; (try dsimp only [SM] at hSw); go_simp; first | done | with_reducible rfl)
    try simp only [Act.put, List.getElem_toArray, List.getElem_cons_succ, List.getElem_cons_zero, List.setIfInBounds_toArray, List.set_cons_zero, List.set_cons_succ]
    refine wpAnyH_take (i := 4) (v := ?_) rfl (by kernel_rfl) (by kernel_rfl) (by kernel_rfl) (fun _ _ _ h => h) (Or.inl ⟨by rfl, ?_⟩) (by assumption) ?_
    rotate_left
    focus (intro w' hSw; (try dsimp only [SM] at hSw); go_simp; first | done | with_reducible rfl)
    try simp only [Act.put, List.getElem_toArray, List.getElem_cons_succ, List.getElem_cons_zero, List.setIfInBounds_toArray, List.set_cons_zero, List.set_cons_succ]
    refine wpAnyH_take (i := 5) (v := ?_) rfl (by kernel_rfl) (by kernel_rfl) (by kernel_rfl) (fun _ _ _ h => h) (Or.inl ⟨by rfl, ?_⟩) (by assumption) ?_
    rotate_left
    focus (intro w' hSw; (try dsimp only [SM] at hSw); go_simp; first | done | with_reducible rfl)
    try simp only [Act.put, List.getElem_toArray, List.getElem_cons_succ, List.getElem_cons_zero, List.setIfInBounds_toArray, List.set_cons_zero, List.set_cons_succ]
    refine wpAnyH_take (i := 6) (v := ?_) rfl (by kernel_rfl) (by kernel_rfl) (by kernel_rfl) (fun _ _ _ h => h) (Or.inl ⟨by rfl, ?_⟩) (by assumption) ?_
    rotate_left
    focus (intro w' hSw; (try dsimp only [SM] at hSw); go_simp; first | done | with_reducible rfl)
    try simp only [Act.put, List.getElem_toArray, List.getElem_cons_succ, List.getElem_cons_zero, List.setIfInBounds_toArray, List.set_cons_zero, List.set_cons_succ]
    refine wpAnyH_ready (rs := [1, 7]) (by kernel_rfl) (by simp) ?_
    refine AllReadyH.cons rfl (fun K1 hK1 => ?_) (AllReadyH.cons rfl (fun K1 hK1 => ?_) AllReadyH.nil)
    · go_simp
      refine hK1.out _ _ (HK.out _ (show Below wb.heap.size wb _ by go_grown)) (fun hHeld1 => ?_)
      clear hK1
      try simp only [Act.put, List.getElem_toArray, List.getElem_cons_succ, List.getElem_cons_zero, List.setIfInBounds_toArray, List.set_cons_zero, List.set_cons_succ]
      refine wpAnyH_ready (rs := [7]) (by kernel_rfl) (by simp) ?_
      refine AllReadyH.cons rfl (fun K2 hK2 => ?_) AllReadyH.nil
      · go_simp
        refine hK2.out _ _ (HK.out _ (show Below wb.heap.size wb _ by go_grown)) (fun hHeld2 => ?_)
        clear hK2
        try simp only [Act.put, List.getElem_toArray, List.getElem_cons_succ, List.getElem_cons_zero, List.setIfInBounds_toArray, List.set_cons_zero, List.set_cons_succ]
        refine wpAnyH_ready (rs := [8]) (by kernel_rfl) (by simp) ?_
        refine AllReadyH.cons rfl (fun K3 hK3 => ?_) AllReadyH.nil
        · go_simp
          refine hK3.out _ _ (HK.out _ (show Below wb.heap.size wb _ by go_grown)) (fun hHeld3 => ?_)
          clear hK3
          try simp only [Act.put, List.getElem_toArray, List.getElem_cons_succ, List.getElem_cons_zero, List.setIfInBounds_toArray, List.set_cons_zero, List.set_cons_succ]
          refine wpAnyH_ready (rs := [9]) (by kernel_rfl) (by simp) ?_
          refine AllReadyH.cons rfl (fun K4 hK4 => ?_) AllReadyH.nil
          go_simp
          refine (HM.out _ _ (by first | exact RL1.out _ _ _ (by simp) | exact RL0.out _ _ (by simp))).mono ?_
          rintro e w9 ⟨rfl, hb9⟩
          have hx9 : Below wb.heap.size wb w9 := (show Below wb.heap.size wb _ by go_grown).trans (hb9.mono (by simp; omega))
          refine hK4.out _ _ (HK.out _ hx9) (fun hHeld9 => ?_)
          clear hK4
          try simp only [Act.put, List.getElem_toArray, List.getElem_cons_succ, List.getElem_cons_zero, List.setIfInBounds_toArray, List.set_cons_zero, List.set_cons_succ]
          refine wpAnyH_take (i := 10) (v := ?_) rfl (by kernel_rfl) (by kernel_rfl) (by kernel_rfl) (fun _ _ _ h => h) (Or.inl ⟨by rfl, ?_⟩) (by assumption) ?_
          rotate_left
          focus (intro w' hSw; (try dsimp only [SM] at hSw); go_simp; first | done | with_reducible rfl)
          try simp only [Act.put, List.getElem_toArray, List.getElem_cons_succ, List.getElem_cons_zero, List.setIfInBounds_toArray, List.set_cons_zero, List.set_cons_succ]
          refine wpAnyH_take (i := 11) (v := undef) rfl (by kernel_rfl) (by kernel_rfl) (by kernel_rfl) (fun _ _ _ h => h) (Or.inr ⟨by rfl, rfl⟩) (by assumption) ?_
          try simp only [Act.put, List.getElem_toArray, List.getElem_cons_succ, List.getElem_cons_zero, List.setIfInBounds_toArray, List.set_cons_zero, List.set_cons_succ]
          refine wpAnyH_take (i := 12) (v := undef) rfl (by kernel_rfl) (by kernel_rfl) (by kernel_rfl) (fun _ _ _ h => h) (Or.inr ⟨by rfl, rfl⟩) (by assumption) ?_
          try simp only [Act.put, List.getElem_toArray, List.getElem_cons_succ, List.getElem_cons_zero, List.setIfInBounds_toArray, List.set_cons_zero, List.set_cons_succ]
          refine wpAnyH_take (i := 13) (v := undef) rfl (by kernel_rfl) (by kernel_rfl) (by kernel_rfl) (fun _ _ _ h => h) (Or.inr ⟨by rfl, rfl⟩) (by assumption) ?_
          try simp only [Act.put, List.getElem_toArray, List.getElem_cons_succ, List.getElem_cons_zero, List.setIfInBounds_toArray, List.set_cons_zero, List.set_cons_succ]
          refine wpAnyH_take (i := 14) (v := ?_) rfl (by kernel_rfl) (by kernel_rfl) (by kernel_rfl) (fun _ _ _ h => h) (Or.inl ⟨by rfl, ?_⟩) (by assumption) ?_
          rotate_left
          focus (intro w' hSw; (try dsimp only [SM] at hSw); go_simp; first | done | with_reducible rfl)
          try simp only [Act.put, List.getElem_toArray, List.getElem_cons_succ, List.getElem_cons_zero, List.setIfInBounds_toArray, List.set_cons_zero, List.set_cons_succ]
          refine wpAnyH_take (i := 15) (v := ?_) rfl (by kernel_rfl) (by kernel_rfl) (by kernel_rfl) (fun _ _ _ h => h) (Or.inl ⟨by rfl, ?_⟩) (by assumption) ?_
          rotate_left
          focus (intro w' hSw; (try dsimp only [SM] at hSw); go_simp; first | done | with_reducible rfl)
          try simp only [Act.put, List.getElem_toArray, List.getElem_cons_succ, List.getElem_cons_zero, List.setIfInBounds_toArray, List.set_cons_zero, List.set_cons_succ]
          refine wpAnyH_done (by kernel_rfl) ?_ _
          refine NoPanic.normal ?_
          go_wp2_with fail
          go_ret
          exact ⟨by rw [← HE.out]; rfl, HB.out.trans (hx9.mono HB.out.size)⟩
    · go_simp
      refine hK1.out _ _ (HK.out _ (show Below wb.heap.size wb _ by go_grown)) (fun hHeld1 => ?_)
      clear hK1
      try simp only [Act.put, List.getElem_toArray, List.getElem_cons_succ, List.getElem_cons_zero, List.setIfInBounds_toArray, List.set_cons_zero, List.set_cons_succ]
      refine wpAnyH_ready (rs := [1, 8]) (by kernel_rfl) (by simp) ?_
      refine AllReadyH.cons rfl (fun K5 hK5 => ?_) (AllReadyH.cons rfl (fun K5 hK5 => ?_) AllReadyH.nil)
      · go_simp
        refine hK5.out _ _ (HK.out _ (show Below wb.heap.size wb _ by go_grown)) (fun hHeld5 => ?_)
        clear hK5
        try simp only [Act.put, List.getElem_toArray, List.getElem_cons_succ, List.getElem_cons_zero, List.setIfInBounds_toArray, List.set_cons_zero, List.set_cons_succ]
        refine wpAnyH_ready (rs := [8]) (by kernel_rfl) (by simp) ?_
        refine AllReadyH.cons rfl (fun K6 hK6 => ?_) AllReadyH.nil
        · go_simp
          refine hK6.out _ _ (HK.out _ (show Below wb.heap.size wb _ by go_grown)) (fun hHeld6 => ?_)
          clear hK6
          try simp only [Act.put, List.getElem_toArray, List.getElem_cons_succ, List.getElem_cons_zero, List.setIfInBounds_toArray, List.set_cons_zero, List.set_cons_succ]
          refine wpAnyH_ready (rs := [9]) (by kernel_rfl) (by simp) ?_
          refine AllReadyH.cons rfl (fun K7 hK7 => ?_) AllReadyH.nil
          go_simp
          refine (HM.out _ _ (by first | exact RL1.out _ _ _ (by simp) | exact RL0.out _ _ (by simp))).mono ?_
          rintro e w9 ⟨rfl, hb9⟩
          have hx9 : Below wb.heap.size wb w9 := (show Below wb.heap.size wb _ by go_grown).trans (hb9.mono (by simp; omega))
          refine hK7.out _ _ (HK.out _ hx9) (fun hHeld9 => ?_)
          clear hK7
          try simp only [Act.put, List.getElem_toArray, List.getElem_cons_succ, List.getElem_cons_zero, List.setIfInBounds_toArray, List.set_cons_zero, List.set_cons_succ]
          refine wpAnyH_take (i := 10) (v := ?_) rfl (by kernel_rfl) (by kernel_rfl) (by kernel_rfl) (fun _ _ _ h => h) (Or.inl ⟨by rfl, ?_⟩) (by assumption) ?_
          rotate_left
          focus (intro w' hSw; (try dsimp only [SM] at hSw); go_simp; first | done | with_reducible rfl)
          try simp only [Act.put, List.getElem_toArray, List.getElem_cons_succ, List.getElem_cons_zero, List.setIfInBounds_toArray, List.set_cons_zero, List.set_cons_succ]
          refine wpAnyH_take (i := 11) (v := undef) rfl (by kernel_rfl) (by kernel_rfl) (by kernel_rfl) (fun _ _ _ h => h) (Or.inr ⟨by rfl, rfl⟩) (by assumption) ?_
          try simp only [Act.put, List.getElem_toArray, List.getElem_cons_succ, List.getElem_cons_zero, List.setIfInBounds_toArray, List.set_cons_zero, List.set_cons_succ]
          refine wpAnyH_take (i := 12) (v := undef) rfl (by kernel_rfl) (by kernel_rfl) (by kernel_rfl) (fun _ _ _ h => h) (Or.inr ⟨by rfl, rfl⟩) (by assumption) ?_
          try simp only [Act.put, List.getElem_toArray, List.getElem_cons_succ, List.getElem_cons_zero, List.setIfInBounds_toArray, List.set_cons_zero, List.set_cons_succ]
          refine wpAnyH_take (i := 13) (v := undef) rfl (by kernel_rfl) (by kernel_rfl) (by kernel_rfl) (fun _ _ _ h => h) (Or.inr ⟨by rfl, rfl⟩) (by assumption) ?_
          try simp only [Act.put, List.getElem_toArray, List.getElem_cons_succ, List.getElem_cons_zero, List.setIfInBounds_toArray, List.set_cons_zero, List.set_cons_succ]
          refine wpAnyH_take (i := 14) (v := ?_) rfl (by kernel_rfl) (by kernel_rfl) (by kernel_rfl) (fun _ _ _ h => h) (Or.inl ⟨by rfl, ?_⟩) (by assumption) ?_
          rotate_left
          focus (intro w' hSw; (try dsimp only [SM] at hSw); go_simp; first | done | with_reducible rfl)
          try simp only [Act.put, List.getElem_toArray, List.getElem_cons_succ, List.getElem_cons_zero, List.setIfInBounds_toArray, List.set_cons_zero, List.set_cons_succ]
          refine wpAnyH_take (i := 15) (v := ?_) rfl (by kernel_rfl) (by kernel_rfl) (by kernel_rfl) (fun _ _ _ h => h) (Or.inl ⟨by rfl, ?_⟩) (by assumption) ?_
          rotate_left
          focus (intro w' hSw; (try dsimp only [SM] at hSw); go_simp; first | done | with_reducible rfl)
          try simp only [Act.put, List.getElem_toArray, List.getElem_cons_succ, List.getElem_cons_zero, List.setIfInBounds_toArray, List.set_cons_zero, List.set_cons_succ]
          refine wpAnyH_done (by kernel_rfl) ?_ _
          refine NoPanic.normal ?_
          go_wp2_with fail
          go_ret
          exact ⟨by rw [← HE.out]; rfl, HB.out.trans (hx9.mono HB.out.size)⟩
      · go_simp
        refine hK5.out _ _ (HK.out _ (show Below wb.heap.size wb _ by go_grown)) (fun hHeld5 => ?_)
        clear hK5
        try simp only [Act.put, List.getElem_toArray, List.getElem_cons_succ, List.getElem_cons_zero, List.setIfInBounds_toArray, List.set_cons_zero, List.set_cons_succ]
        refine wpAnyH_ready (rs := [1]) (by kernel_rfl) (by simp) ?_
        refine AllReadyH.cons rfl (fun K8 hK8 => ?_) AllReadyH.nil
        · go_simp
          refine hK8.out _ _ (HK.out _ (show Below wb.heap.size wb _ by go_grown)) (fun hHeld8 => ?_)
          clear hK8
          try simp only [Act.put, List.getElem_toArray, List.getElem_cons_succ, List.getElem_cons_zero, List.setIfInBounds_toArray, List.set_cons_zero, List.set_cons_succ]
          refine wpAnyH_ready (rs := [9]) (by kernel_rfl) (by simp) ?_
          refine AllReadyH.cons rfl (fun K9 hK9 => ?_) AllReadyH.nil
          go_simp
          refine (HM.out _ _ (by first | exact RL1.out _ _ _ (by simp) | exact RL0.out _ _ (by simp))).mono ?_
          rintro e w9 ⟨rfl, hb9⟩
          have hx9 : Below wb.heap.size wb w9 := (show Below wb.heap.size wb _ by go_grown).trans (hb9.mono (by simp; omega))
          refine hK9.out _ _ (HK.out _ hx9) (fun hHeld9 => ?_)
          clear hK9
          try simp only [Act.put, List.getElem_toArray, List.getElem_cons_succ, List.getElem_cons_zero, List.setIfInBounds_toArray, List.set_cons_zero, List.set_cons_succ]
          refine wpAnyH_take (i := 10) (v := ?_) rfl (by kernel_rfl) (by kernel_rfl) (by kernel_rfl) (fun _ _ _ h => h) (Or.inl ⟨by rfl, ?_⟩) (by assumption) ?_
          rotate_left
          focus (intro w' hSw; (try dsimp only [SM] at hSw); go_simp; first | done | with_reducible rfl)
          try simp only [Act.put, List.getElem_toArray, List.getElem_cons_succ, List.getElem_cons_zero, List.setIfInBounds_toArray, List.set_cons_zero, List.set_cons_succ]
          refine wpAnyH_take (i := 11) (v := undef) rfl (by kernel_rfl) (by kernel_rfl) (by kernel_rfl) (fun _ _ _ h => h) (Or.inr ⟨by rfl, rfl⟩) (by assumption) ?_
          try simp only [Act.put, List.getElem_toArray, List.getElem_cons_succ, List.getElem_cons_zero, List.setIfInBounds_toArray, List.set_cons_zero, List.set_cons_succ]
          refine wpAnyH_take (i := 12) (v := undef) rfl (by kernel_rfl) (by kernel_rfl) (by kernel_rfl) (fun _ _ _ h => h) (Or.inr ⟨by rfl, rfl⟩) (by assumption) ?_
          try simp only [Act.put, List.getElem_toArray, List.getElem_cons_succ, List.getElem_cons_zero, List.setIfInBounds_toArray, List.set_cons_zero, List.set_cons_succ]
          refine wpAnyH_take (i := 13) (v := undef) rfl (by kernel_rfl) (by kernel_rfl) (by kernel_rfl) (fun _ _ _ h => h) (Or.inr ⟨by rfl, rfl⟩) (by assumption) ?_
          try simp only [Act.put, List.getElem_toArray, List.getElem_cons_succ, List.getElem_cons_zero, List.setIfInBounds_toArray, List.set_cons_zero, List.set_cons_succ]
          refine wpAnyH_take (i := 14) (v := ?_) rfl (by kernel_rfl) (by kernel_rfl) (by kernel_rfl) (fun _ _ _ h => h) (Or.inl ⟨by rfl, ?_⟩) (by assumption) ?_
          rotate_left
          focus (intro w' hSw; (try dsimp only [SM] at hSw); go_simp; first | done | with_reducible rfl)
          try simp only [Act.put, List.getElem_toArray, List.getElem_cons_succ, List.getElem_cons_zero, List.setIfInBounds_toArray, List.set_cons_zero, List.set_cons_succ]
          refine wpAnyH_take (i := 15) (v := ?_) rfl (by kernel_rfl) (by kernel_rfl) (by kernel_rfl) (fun _ _ _ h => h) (Or.inl ⟨by rfl, ?_⟩) (by assumption) ?_
          rotate_left
          focus (intro w' hSw; (try dsimp only [SM] at hSw); go_simp; first | done | with_reducible rfl)
          try simp only [Act.put, List.getElem_toArray, List.getElem_cons_succ, List.getElem_cons_zero, List.setIfInBounds_toArray, List.set_cons_zero, List.set_cons_succ]
          refine wpAnyH_done (by kernel_rfl) ?_ _
          refine NoPanic.normal ?_
          go_wp2_with fail
          go_ret
          exact ⟨by rw [← HE.out]; rfl, HB.out.trans (hx9.mono HB.out.size)⟩
  · have HE := Lib.hid HE
    go_enter Tryd.func39, Tryd.ntmps39
    go_upto_region 1 with (fail)
    generalize w.alloc (.cells #[.int .i64 tk, .int .u8 tb, .int .u64 w0, .int .u64 w1, .int .u64 w2, .int .u64 w3] 31) = wb at *
    refine wp_region_noPanic ?_
    refine wp_region_held_drew (S := SM g w.heap.size fold slash tk tb w0 w1 w2 w3) (by kernel_rfl) (HK.out _ (Below.refl _ _).drew) (fun hHeld => ?_)
    refine wpAnyH_take (i := 0) (v := ?_) rfl (by kernel_rfl) (by kernel_rfl) (by kernel_rfl) (fun _ _ _ h => h) (Or.inl ⟨by rfl, ?_⟩) (by assumption) ?_
    rotate_left
    focus (intro w' hSw; (try dsimp only [SM] at hSw); go_simp; first | done | with_reducible rfl)
    try simp only [Act.put, List.getElem_toArray, List.getElem_cons_zero, List.setIfInBounds_toArray, List.set_cons_zero, List.set_cons_succ]
    refine wpAnyH_take (i := 2) (v := ?_) rfl (by kernel_rfl) (by kernel_rfl) (by kernel_rfl) (fun _ _ _ h => h) (Or.inl ⟨by rfl, ?_⟩) (by assumption) ?_
    rotate_left
    focus (intro w' hSw; (try dsimp only [SM] at hSw); go_simp; first | done | with_reducible rfl)
    try simp only [Act.put, List.getElem_toArray, List.getElem_cons_succ, List.getElem_cons_zero, List.setIfInBounds_toArray, List.set_cons_zero, List.set_cons_succ]
    refine wpAnyH_take (i := 3) (v := ?_) rfl (by kernel_rfl) (by kernel_rfl) (by kernel_rfl) (fun _ _ _ h => h) (Or.inl ⟨by rfl, ?_⟩) (by assumption) ?_
    rotate_left
    focus (intro w' hSw; (try dsimp only [SM] at hSw); go_simp; first | done | with_reducible rfl)
    try simp only [Act.put, List.getElem_toArray, List.getElem_cons_succ, List.getElem_cons_zero, List.setIfInBounds_toArray, List.set_cons_zero, List.set_cons_succ]
    refine wpAnyH_take (i := 4) (v := ?_) rfl (by kernel_rfl) (by kernel_rfl) (by kernel_rfl) (fun _ _ _ h => h) (Or.inl ⟨by rfl, ?_⟩) (by assumption) ?_
    rotate_left
    focus (intro w' hSw; (try dsimp only [SM] at hSw); go_simp; first | done | with_reducible rfl)
    try simp only [Act.put, List.getElem_toArray, List.getElem_cons_succ, List.getElem_cons_zero, List.setIfInBounds_toArray, List.set_cons_zero, List.set_cons_succ]
    refine wpAnyH_take (i := 5) (v := ?_) rfl (by kernel_rfl) (by kernel_rfl) (by kernel_rfl) (fun _ _ _ h => h) (Or.inl ⟨by rfl, ?_⟩) (by assumption) ?_
    rotate_left
    focus (intro w' hSw; (try dsimp only [SM] at hSw); go_simp; first | done | with_reducible rfl)
    try simp only [Act.put, List.getElem_toArray, List.getElem_cons_succ, List.getElem_cons_zero, List.setIfInBounds_toArray, List.set_cons_zero, List.set_cons_succ]
    refine wpAnyH_take (i := 6) (v := ?_) rfl (by kernel_rfl) (by kernel_rfl) (by kernel_rfl) (fun _ _ _ h => h) (Or.inl ⟨by rfl, ?_⟩) (by assumption) ?_
    rotate_left
    focus (intro w' hSw; (try dsimp only [SM] at hSw); go_simp; first | done | with_reducible rfl)
    try simp only [Act.put, List.getElem_toArray, List.getElem_cons_succ, List.getElem_cons_zero, List.setIfInBounds_toArray, List.set_cons_zero, List.set_cons_succ]
    refine wpAnyH_ready (rs := [1, 7]) (by kernel_rfl) (by simp) ?_
    refine AllReadyH.cons rfl (fun K10 hK10 => ?_) (AllReadyH.cons rfl (fun K10 hK10 => ?_) AllReadyH.nil)
    · go_simp
      refine hK10.out _ _ (HK.out _ (show Below wb.heap.size wb _ by go_grown)) (fun hHeld10 => ?_)
      clear hK10
      try simp only [Act.put, List.getElem_toArray, List.getElem_cons_succ, List.getElem_cons_zero, List.setIfInBounds_toArray, List.set_cons_zero, List.set_cons_succ]
      refine wpAnyH_ready (rs := [7]) (by kernel_rfl) (by simp) ?_
      refine AllReadyH.cons rfl (fun K11 hK11 => ?_) AllReadyH.nil
      · go_simp
        refine hK11.out _ _ (HK.out _ (show Below wb.heap.size wb _ by go_grown)) (fun hHeld11 => ?_)
        clear hK11
        try simp only [Act.put, List.getElem_toArray, List.getElem_cons_succ, List.getElem_cons_zero, List.setIfInBounds_toArray, List.set_cons_zero, List.set_cons_succ]
        refine wpAnyH_ready (rs := [8]) (by kernel_rfl) (by simp) ?_
        refine AllReadyH.cons rfl (fun K12 hK12 => ?_) AllReadyH.nil
        · go_simp
          refine hK12.out _ _ (HK.out _ (show Below wb.heap.size wb _ by go_grown)) (fun hHeld12 => ?_)
          clear hK12
          try simp only [Act.put, List.getElem_toArray, List.getElem_cons_succ, List.getElem_cons_zero, List.setIfInBounds_toArray, List.set_cons_zero, List.set_cons_succ]
          refine wpAnyH_ready (rs := [9]) (by kernel_rfl) (by simp) ?_
          refine AllReadyH.cons rfl (fun K13 hK13 => ?_) AllReadyH.nil
          go_simp
          refine (HM.out _ _ (by first | exact RL1.out _ _ _ (by simp) | exact RL0.out _ _ (by simp))).mono ?_
          rintro e w9 ⟨rfl, hb9⟩
          have hx9 : Below wb.heap.size wb w9 := (show Below wb.heap.size wb _ by go_grown).trans (hb9.mono (by simp; omega))
          refine hK13.out _ _ (HK.out _ hx9) (fun hHeld9 => ?_)
          clear hK13
          try simp only [Act.put, List.getElem_toArray, List.getElem_cons_succ, List.getElem_cons_zero, List.setIfInBounds_toArray, List.set_cons_zero, List.set_cons_succ]
          refine wpAnyH_take (i := 10) (v := ?_) rfl (by kernel_rfl) (by kernel_rfl) (by kernel_rfl) (fun _ _ _ h => h) (Or.inl ⟨by rfl, ?_⟩) (by assumption) ?_
          rotate_left
          focus (intro w' hSw; (try dsimp only [SM] at hSw); go_simp; first | done | with_reducible rfl)
          try simp only [Act.put, List.getElem_toArray, List.getElem_cons_succ, List.getElem_cons_zero, List.setIfInBounds_toArray, List.set_cons_zero, List.set_cons_succ]
          refine wpAnyH_take (i := 11) (v := ?_) rfl (by kernel_rfl) (by kernel_rfl) (by kernel_rfl) (fun _ _ _ h => h) (Or.inl ⟨by rfl, ?_⟩) (by assumption) ?_
          rotate_left
          focus (intro w' hSw; (try dsimp only [SM] at hSw); go_simp; first | done | with_reducible rfl)
          try simp only [Act.put, List.getElem_toArray, List.getElem_cons_succ, List.getElem_cons_zero, List.setIfInBounds_toArray, List.set_cons_zero, List.set_cons_succ]
          refine wpAnyH_take (i := 12) (v := ?_) rfl (by kernel_rfl) (by kernel_rfl) (by kernel_rfl) (fun _ _ _ h => h) (Or.inl ⟨by rfl, ?_⟩) (by assumption) ?_
          rotate_left
          focus (intro w' hSw; (try dsimp only [SM] at hSw); go_simp; first | done | with_reducible rfl)
          try simp only [Act.put, List.getElem_toArray, List.getElem_cons_succ, List.getElem_cons_zero, List.setIfInBounds_toArray, List.set_cons_zero, List.set_cons_succ]
          refine wpAnyH_take (i := 13) (v := ?_) rfl (by kernel_rfl) (by kernel_rfl) (by kernel_rfl) (fun _ _ _ h => h) (Or.inl ⟨by rfl, ?_⟩) (by assumption) ?_
          rotate_left
          focus (intro w' hSw; (try dsimp only [SM] at hSw); go_simp; first | done | with_reducible rfl)
          try simp only [Act.put, List.getElem_toArray, List.getElem_cons_succ, List.getElem_cons_zero, List.setIfInBounds_toArray, List.set_cons_zero, List.set_cons_succ]
          refine wpAnyH_take (i := 14) (v := ?_) rfl (by kernel_rfl) (by kernel_rfl) (by kernel_rfl) (fun _ _ _ h => h) (Or.inl ⟨by rfl, ?_⟩) (by assumption) ?_
          rotate_left
          focus (intro w' hSw; (try dsimp only [SM] at hSw); go_simp; first | done | with_reducible rfl)
          try simp only [Act.put, List.getElem_toArray, List.getElem_cons_succ, List.getElem_cons_zero, List.setIfInBounds_toArray, List.set_cons_zero, List.set_cons_succ]
          refine wpAnyH_take (i := 15) (v := ?_) rfl (by kernel_rfl) (by kernel_rfl) (by kernel_rfl) (fun _ _ _ h => h) (Or.inl ⟨by rfl, ?_⟩) (by assumption) ?_
          rotate_left
          focus (intro w' hSw; (try dsimp only [SM] at hSw); go_simp; first | done | with_reducible rfl)
          try simp only [Act.put, List.getElem_toArray, List.getElem_cons_succ, List.getElem_cons_zero, List.setIfInBounds_toArray, List.set_cons_zero, List.set_cons_succ]
          refine wpAnyH_done (by kernel_rfl) ?_ _
          refine NoPanic.normal ?_
          go_wp2_with fail
          go_ret
          exact ⟨by rw [← HE.out]; rfl, HB.out.trans (hx9.mono HB.out.size)⟩
    · go_simp
      refine hK10.out _ _ (HK.out _ (show Below wb.heap.size wb _ by go_grown)) (fun hHeld10 => ?_)
      clear hK10
      try simp only [Act.put, List.getElem_toArray, List.getElem_cons_succ, List.getElem_cons_zero, List.setIfInBounds_toArray, List.set_cons_zero, List.set_cons_succ]
      refine wpAnyH_ready (rs := [1, 8]) (by kernel_rfl) (by simp) ?_
      refine AllReadyH.cons rfl (fun K14 hK14 => ?_) (AllReadyH.cons rfl (fun K14 hK14 => ?_) AllReadyH.nil)
      · go_simp
        refine hK14.out _ _ (HK.out _ (show Below wb.heap.size wb _ by go_grown)) (fun hHeld14 => ?_)
        clear hK14
        try simp only [Act.put, List.getElem_toArray, List.getElem_cons_succ, List.getElem_cons_zero, List.setIfInBounds_toArray, List.set_cons_zero, List.set_cons_succ]
        refine wpAnyH_ready (rs := [8]) (by kernel_rfl) (by simp) ?_
        refine AllReadyH.cons rfl (fun K15 hK15 => ?_) AllReadyH.nil
        · go_simp
          refine hK15.out _ _ (HK.out _ (show Below wb.heap.size wb _ by go_grown)) (fun hHeld15 => ?_)
          clear hK15
          try simp only [Act.put, List.getElem_toArray, List.getElem_cons_succ, List.getElem_cons_zero, List.setIfInBounds_toArray, List.set_cons_zero, List.set_cons_succ]
          refine wpAnyH_ready (rs := [9]) (by kernel_rfl) (by simp) ?_
          refine AllReadyH.cons rfl (fun K16 hK16 => ?_) AllReadyH.nil
          go_simp
          refine (HM.out _ _ (by first | exact RL1.out _ _ _ (by simp) | exact RL0.out _ _ (by simp))).mono ?_
          rintro e w9 ⟨rfl, hb9⟩
          have hx9 : Below wb.heap.size wb w9 := (show Below wb.heap.size wb _ by go_grown).trans (hb9.mono (by simp; omega))
          refine hK16.out _ _ (HK.out _ hx9) (fun hHeld9 => ?_)
          clear hK16
          try simp only [Act.put, List.getElem_toArray, List.getElem_cons_succ, List.getElem_cons_zero, List.setIfInBounds_toArray, List.set_cons_zero, List.set_cons_succ]
          refine wpAnyH_take (i := 10) (v := ?_) rfl (by kernel_rfl) (by kernel_rfl) (by kernel_rfl) (fun _ _ _ h => h) (Or.inl ⟨by rfl, ?_⟩) (by assumption) ?_
          rotate_left
          focus (intro w' hSw; (try dsimp only [SM] at hSw); go_simp; first | done | with_reducible rfl)
          try simp only [Act.put, List.getElem_toArray, List.getElem_cons_succ, List.getElem_cons_zero, List.setIfInBounds_toArray, List.set_cons_zero, List.set_cons_succ]
          refine wpAnyH_take (i := 11) (v := ?_) rfl (by kernel_rfl) (by kernel_rfl) (by kernel_rfl) (fun _ _ _ h => h) (Or.inl ⟨by rfl, ?_⟩) (by assumption) ?_
          rotate_left
          focus (intro w' hSw; (try dsimp only [SM] at hSw); go_simp; first | done | with_reducible rfl)
          try simp only [Act.put, List.getElem_toArray, List.getElem_cons_succ, List.getElem_cons_zero, List.setIfInBounds_toArray, List.set_cons_zero, List.set_cons_succ]
          refine wpAnyH_take (i := 12) (v := ?_) rfl (by kernel_rfl) (by kernel_rfl) (by kernel_rfl) (fun _ _ _ h => h) (Or.inl ⟨by rfl, ?_⟩) (by assumption) ?_
          rotate_left
          focus (intro w' hSw; (try dsimp only [SM] at hSw); go_simp; first | done | with_reducible rfl)
          try simp only [Act.put, List.getElem_toArray, List.getElem_cons_succ, List.getElem_cons_zero, List.setIfInBounds_toArray, List.set_cons_zero, List.set_cons_succ]
          refine wpAnyH_take (i := 13) (v := ?_) rfl (by kernel_rfl) (by kernel_rfl) (by kernel_rfl) (fun _ _ _ h => h) (Or.inl ⟨by rfl, ?_⟩) (by assumption) ?_
          rotate_left
          focus (intro w' hSw; (try dsimp only [SM] at hSw); go_simp; first | done | with_reducible rfl)
          try simp only [Act.put, List.getElem_toArray, List.getElem_cons_succ, List.getElem_cons_zero, List.setIfInBounds_toArray, List.set_cons_zero, List.set_cons_succ]
          refine wpAnyH_take (i := 14) (v := ?_) rfl (by kernel_rfl) (by kernel_rfl) (by kernel_rfl) (fun _ _ _ h => h) (Or.inl ⟨by rfl, ?_⟩) (by assumption) ?_
          rotate_left
          focus (intro w' hSw; (try dsimp only [SM] at hSw); go_simp; first | done | with_reducible rfl)
          try simp only [Act.put, List.getElem_toArray, List.getElem_cons_succ, List.getElem_cons_zero, List.setIfInBounds_toArray, List.set_cons_zero, List.set_cons_succ]
          refine wpAnyH_take (i := 15) (v := ?_) rfl (by kernel_rfl) (by kernel_rfl) (by kernel_rfl) (fun _ _ _ h => h) (Or.inl ⟨by rfl, ?_⟩) (by assumption) ?_
          rotate_left
          focus (intro w' hSw; (try dsimp only [SM] at hSw); go_simp; first | done | with_reducible rfl)
          try simp only [Act.put, List.getElem_toArray, List.getElem_cons_succ, List.getElem_cons_zero, List.setIfInBounds_toArray, List.set_cons_zero, List.set_cons_succ]
          refine wpAnyH_done (by kernel_rfl) ?_ _
          refine NoPanic.normal ?_
          go_wp2_with fail
          go_ret
          exact ⟨by rw [← HE.out]; rfl, HB.out.trans (hx9.mono HB.out.size)⟩
      · go_simp
        refine hK14.out _ _ (HK.out _ (show Below wb.heap.size wb _ by go_grown)) (fun hHeld14 => ?_)
        clear hK14
        try simp only [Act.put, List.getElem_toArray, List.getElem_cons_succ, List.getElem_cons_zero, List.setIfInBounds_toArray, List.set_cons_zero, List.set_cons_succ]
        refine wpAnyH_ready (rs := [1]) (by kernel_rfl) (by simp) ?_
        refine AllReadyH.cons rfl (fun K17 hK17 => ?_) AllReadyH.nil
        · go_simp
          refine hK17.out _ _ (HK.out _ (show Below wb.heap.size wb _ by go_grown)) (fun hHeld17 => ?_)
          clear hK17
          try simp only [Act.put, List.getElem_toArray, List.getElem_cons_succ, List.getElem_cons_zero, List.setIfInBounds_toArray, List.set_cons_zero, List.set_cons_succ]
          refine wpAnyH_ready (rs := [9]) (by kernel_rfl) (by simp) ?_
          refine AllReadyH.cons rfl (fun K18 hK18 => ?_) AllReadyH.nil
          go_simp
          refine (HM.out _ _ (by first | exact RL1.out _ _ _ (by simp) | exact RL0.out _ _ (by simp))).mono ?_
          rintro e w9 ⟨rfl, hb9⟩
          have hx9 : Below wb.heap.size wb w9 := (show Below wb.heap.size wb _ by go_grown).trans (hb9.mono (by simp; omega))
          refine hK18.out _ _ (HK.out _ hx9) (fun hHeld9 => ?_)
          clear hK18
          try simp only [Act.put, List.getElem_toArray, List.getElem_cons_succ, List.getElem_cons_zero, List.setIfInBounds_toArray, List.set_cons_zero, List.set_cons_succ]
          refine wpAnyH_take (i := 10) (v := ?_) rfl (by kernel_rfl) (by kernel_rfl) (by kernel_rfl) (fun _ _ _ h => h) (Or.inl ⟨by rfl, ?_⟩) (by assumption) ?_
          rotate_left
          focus (intro w' hSw; (try dsimp only [SM] at hSw); go_simp; first | done | with_reducible rfl)
          try simp only [Act.put, List.getElem_toArray, List.getElem_cons_succ, List.getElem_cons_zero, List.setIfInBounds_toArray, List.set_cons_zero, List.set_cons_succ]
          refine wpAnyH_take (i := 11) (v := ?_) rfl (by kernel_rfl) (by kernel_rfl) (by kernel_rfl) (fun _ _ _ h => h) (Or.inl ⟨by rfl, ?_⟩) (by assumption) ?_
          rotate_left
          focus (intro w' hSw; (try dsimp only [SM] at hSw); go_simp; first | done | with_reducible rfl)
          try simp only [Act.put, List.getElem_toArray, List.getElem_cons_succ, List.getElem_cons_zero, List.setIfInBounds_toArray, List.set_cons_zero, List.set_cons_succ]
          refine wpAnyH_take (i := 12) (v := ?_) rfl (by kernel_rfl) (by kernel_rfl) (by kernel_rfl) (fun _ _ _ h => h) (Or.inl ⟨by rfl, ?_⟩) (by assumption) ?_
          rotate_left
          focus (intro w' hSw; (try dsimp only [SM] at hSw); go_simp; first | done | with_reducible rfl)
          try simp only [Act.put, List.getElem_toArray, List.getElem_cons_succ, List.getElem_cons_zero, List.setIfInBounds_toArray, List.set_cons_zero, List.set_cons_succ]
          refine wpAnyH_take (i := 13) (v := ?_) rfl (by kernel_rfl) (by kernel_rfl) (by kernel_rfl) (fun _ _ _ h => h) (Or.inl ⟨by rfl, ?_⟩) (by assumption) ?_
          rotate_left
          focus (intro w' hSw; (try dsimp only [SM] at hSw); go_simp; first | done | with_reducible rfl)
          try simp only [Act.put, List.getElem_toArray, List.getElem_cons_succ, List.getElem_cons_zero, List.setIfInBounds_toArray, List.set_cons_zero, List.set_cons_succ]
          refine wpAnyH_take (i := 14) (v := ?_) rfl (by kernel_rfl) (by kernel_rfl) (by kernel_rfl) (fun _ _ _ h => h) (Or.inl ⟨by rfl, ?_⟩) (by assumption) ?_
          rotate_left
          focus (intro w' hSw; (try dsimp only [SM] at hSw); go_simp; first | done | with_reducible rfl)
          try simp only [Act.put, List.getElem_toArray, List.getElem_cons_succ, List.getElem_cons_zero, List.setIfInBounds_toArray, List.set_cons_zero, List.set_cons_succ]
          refine wpAnyH_take (i := 15) (v := ?_) rfl (by kernel_rfl) (by kernel_rfl) (by kernel_rfl) (fun _ _ _ h => h) (Or.inl ⟨by rfl, ?_⟩) (by assumption) ?_
          rotate_left
          focus (intro w' hSw; (try dsimp only [SM] at hSw); go_simp; first | done | with_reducible rfl)
          try simp only [Act.put, List.getElem_toArray, List.getElem_cons_succ, List.getElem_cons_zero, List.setIfInBounds_toArray, List.set_cons_zero, List.set_cons_succ]
          refine wpAnyH_done (by kernel_rfl) ?_ _
          refine NoPanic.normal ?_
          go_wp2_with fail
          go_ret
          exact ⟨by rw [← HE.out]; rfl, HB.out.trans (hx9.mono HB.out.size)⟩
end Go.Proofs.YtphfcebacilbbaaDoor
namespace Go.Proofs.YtphfcebacilbbaaDoor
open Go.RowKit

/-- all blocks but one are as they were -/
structure KeptBut (g : Nat) (w w' : World) : Prop where
  size : w.heap.size ≤ w'.heap.size
  block : ∀ k, k < w.heap.size → k ≠ g → w'.heap[k]? = w.heap[k]?
theorem KeptBut.refl (g : Nat) (w : World) : KeptBut g w w := ⟨Nat.le_refl _, fun _ _ _ => rfl⟩
theorem KeptBut.trans {g : Nat} {w u v : World} (h : KeptBut g w u) (k : KeptBut g u v) : KeptBut g w v :=
  ⟨Nat.le_trans h.size k.size, fun j hj hne => (k.block j (Nat.lt_of_lt_of_le hj h.size) hne).trans (h.block j hj hne)⟩
theorem KeptBut.below {g : Nat} {w w' : World} (h : Below w.heap.size w w') : KeptBut g w w' := ⟨h.size, fun k hk _ => h.block k hk⟩
theorem KeptBut.drew {g : Nat} {w w' : World} (h : KeptBut g w w') : KeptBut g w w'.drew := ⟨h.size, h.block⟩
theorem KeptBut.set (g i : Nat) (v : Value) (w : World) : KeptBut g w (w.setCell ⟨g, i, none⟩ v) := ⟨by simp, fun k _ hne => heap_setCell_other w ⟨g, i, none⟩ k v hne⟩
theorem KeptBut.cell {g b o : Nat} {w w' : World} {u : Value} (h : KeptBut g w w') (hne : b ≠ g) (hc : w.cell? ⟨b, o, none⟩ = some u) : w'.cell? ⟨b, o, none⟩ = some u := by
  have hb := World.block_lt_of_cell? _ _ hc
  have e := h.block b hb hne
  unfold World.cell? at *
  simp only [e]
  exact hc
theorem KeptBut.atB {g b : Nat} {T : TypeId} {C : List Value} {w w' : World} (h : KeptBut g w w') (hne : b ≠ g) (hA : AtB w b T C) : AtB w' b T C := (h.block b hA.lt hne).trans hA
theorem below_set {B g i : Nat} {v : Value} {w w' : World} (h : Below B w w') (hg : B ≤ g) : Below B w (w'.setCell ⟨g, i, none⟩ v) := h.setCell hg v
end Go.Proofs.YtphfcebacilbbaaDoor
namespace Go.Proofs.YtphfcebacilbbaaDoor
open Go.RowKit
attribute [local irreducible] wordP

/-- the tokens as the plain law has them -/
def gts (fold slash : Bool) (l : List Tk) : List GT := l.map (Tk.gt fold slash)
theorem gts_len (fold slash : Bool) (l : List Tk) : (gts fold slash l).length = l.length := by unfold gts; rw [List.length_map]
theorem star_kind (fold slash : Bool) (l : List Tk) (i : Nat) (hi : i < l.length) : starAt (gts fold slash l) i = ((l[i].kind : Int) == 4) := by
  unfold starAt gts
  rw [List.getElem?_map, List.getElem?_eq_getElem hi]
  show (Tk.gt fold slash l[i]).isStar = _
  cases l[i] <;> rfl
theorem tells_one (fold slash : Bool) (l : List Tk) (i : Nat) (hi : i < l.length) (b : UInt8) : tellsAt (gts fold slash l) i b = oneG fold slash l[i] b := by
  unfold tellsAt gts
  rw [List.getElem?_map, List.getElem?_eq_getElem hi]
  show (Tk.gt fold slash l[i]).tells b = _
  cases l[i] <;> rfl
/-- six cells of a token in a slice -/
theorem tok_cells {W : World} {b off k : Nat} {t : Tk} (h : ∀ i u, (t.cells)[i]? = some u → W.cell? ⟨b, off + k * 6 + i, none⟩ = some u) :
    W.cell? ⟨b, off + k * 6, none⟩ = some (.int .i64 t.kind) ∧ W.cell? ⟨b, off + k * 6 + 1, none⟩ = some (.int .u8 t.b.toNat) ∧ W.cell? ⟨b, off + k * 6 + 2, none⟩ = some (.int .u64 (wordP t.p 0)) ∧ W.cell? ⟨b, off + k * 6 + 3, none⟩ = some (.int .u64 (wordP t.p 1)) ∧ W.cell? ⟨b, off + k * 6 + 4, none⟩ = some (.int .u64 (wordP t.p 2)) ∧ W.cell? ⟨b, off + k * 6 + 5, none⟩ = some (.int .u64 (wordP t.p 3)) :=
  ⟨h 0 _ rfl, h 1 _ rfl, h 2 _ rfl, h 3 _ rfl, h 4 _ rfl, h 5 _ rfl⟩
theorem i64_and7 (k : Nat) (h : k < 1000000) : bits .and .i64 (k : Int) 7 = (k : Int) % 8 := by
  have h1 : (BitVec.ofInt 64 7).toNat = 2 ^ 3 - 1 := by decide
  have h2 : (BitVec.ofInt 64 (k : Int)).toNat = k := by rw [BitVec.toNat_ofInt]; omega
  have key : (BitVec.ofInt 64 (k : Int) &&& BitVec.ofInt 64 7).toNat = k % 2 ^ 3 := by
    rw [BitVec.toNat_and, h1, h2, Nat.and_two_pow_sub_one_eq_mod]
  show IntKind.i64.wrap ((BitVec.ofInt 64 (k : Int) &&& BitVec.ofInt 64 7).toNat : Nat) = _
  rw [key, IntKind.wrap_i64]
  omega
theorem u8_bit (x : UInt8) (r : Nat) : (bits .and .u8 ((x.toNat : Int) / 2 ^ r) 1 == 1) = x.toNat.testBit r := by
  have hx := x.toNat_lt
  have hle : x.toNat / 2 ^ r ≤ x.toNat := Nat.div_le_self _ _
  have e : (x.toNat : Int) / 2 ^ r = ((x.toNat / 2 ^ r : Nat) : Int) := by push_cast; rfl
  rw [e, bit_num]
  generalize x.toNat / 2 ^ r = y at *
  have e2 := u8_and_nat y 1 (by omega) (by decide)
  rw [Nat.and_one_is_mod] at e2
  rw [show (1 : Int) = ((1 : Nat) : Int) from rfl, e2]
  rcases Nat.mod_two_eq_zero_or_one y with h | h <;> rw [h] <;> rfl
abbrev SetAtB (w : World) (g : Nat) (l : List UInt8) : Prop := AtB w g 5 (l.map bv)
theorem or_cell (x : UInt8) (r : Nat) (hr : r ≤ 7) : Value.int .u8 (bits .or .u8 (x.toNat : Int) (2 ^ r % 256)) = bv (UInt8.ofNat (x.toNat ||| 2 ^ r)) := by
  have hx := x.toNat_lt
  have h2 : 2 ^ r < 2 ^ 8 := Nat.pow_lt_pow_right (by decide) (by omega)
  have e : ((2 : Int) ^ r % 256) = ((2 ^ r : Nat) : Int) := by
    have : ((2 : Int) ^ r) = ((2 ^ r : Nat) : Int) := by push_cast; rfl
    rw [this]
    generalize 2 ^ r = y at *
    omega
  have hlt := or_lt x.toNat r hx (by omega)
  rw [e, u8_or_nat _ _ hx h2]
  unfold bv
  rw [UInt8.toNat_ofNat', Nat.mod_eq_of_lt hlt]
theorem set_at {w : World} {g : Nat} {C : List UInt8} (h : SetAtB w g C) (i : Nat) : SetAtB (w.setCell ⟨g, i / 8, none⟩ (bv (UInt8.ofNat ((C.getD (i / 8) 0).toNat ||| 2 ^ (i % 8))))) g (setL C i) := by
  have := AtB.set h (i / 8) (bv (UInt8.ofNat ((C.getD (i / 8) 0).toNat ||| 2 ^ (i % 8))))
  unfold SetAtB setL
  rw [List.map_set]
  exact this
theorem str_at (w : World) (g : Nat) (l : List UInt8) (c : Nat) (hA : SetAtB w g l) : (convert 69 9 (.slice (some ⟨g, 0, none⟩) l.length c)).run Tryd.prog w = .ok (.string (S l)) w := by
  rw [run_convert_bytes_string w 69 9 5 _ _ _ Tryd.underlying69 Tryd.underlying5 Tryd.underlying9]
  have hl : (loadCells ⟨g, 0, none⟩ l.length).run Tryd.prog w = .ok ((l.map fun b => (b.toNat : Int)).map (Value.int .u8)).toArray w := by
    have := run_loadCells_list (P := Tryd.prog) w ⟨g, 0, none⟩ (l.map bv) (fun j u hj => by rw [Addr.add_lit]; simpa using (hA.cell j).trans hj)
    rw [List.length_map] at this
    rw [this, List.map_map]
    rfl
  rw [run_bytesToString w _ _ _ _ hl, foldl_push_bytes]
  simp [S, List.map_map, Function.comp_def]
set_option maxRecDepth 100000 in
set_option maxHeartbeats 4000000 in
theorem close_any (g gs : Nat) (fold slash : Bool) (toks : List Tk) (v : Value) (l : List UInt8) (c : Nat) (w : World) (hv : RowsV Tk.cells 6 w v toks) (hn : toks.length ≤ 2000) (h0 : w.cell? ⟨g, 0, none⟩ = some v) (hA : SetAtB w gs l) (hll : l.length = toks.length / 8 + 1) (hne : gs ≠ g) (hvs : ∀ a n c, v = .slice (some a) n c → 0 < toks.length → a.block ≠ gs) (B : Nat) (hB : B ≤ gs) :
    Calls Tryd.prog 24 #[.pointer (some ⟨g, 0, none⟩), .slice (some ⟨gs, 0, none⟩) l.length c] w fun e w' => e = .returned (.string (S (closeL (gts fold slash toks) l))) ∧ Below B w w' ∧ KeptBut gs w w' := by
  obtain ⟨a, cc, rfl, hc⟩ := hv
  have HC := Lib.hid hc
  have HA := Lib.hid hA
  have HV := Lib.hid hvs
  have HB := Lib.hid hB
  have hnI : (toks.length : Int) ≤ 2000 := by omega
  have HN := Lib.hid hn
  have HLL := Lib.hid hll
  have HNE := Lib.hid hne
  clear hc hA hvs hB hn hll
  go_enter Tryd.func24, Tryd.ntmps24
  go_wp2_with fail
  go_loopw [12] (fun i wr => ∃ k : Nat, i = .int .i64 k ∧ k ≤ toks.length ∧ SetAtB wr gs (closeK (gts fold slash toks) l k) ∧ Below B w wr ∧ KeptBut gs w wr) (fun i _ => toks.length - (RowKit.intOf i).toNat)
  case atStart => exact ⟨0, rfl, Nat.zero_le _, HA.out, Below.refl _ _, KeptBut.refl _ _⟩
  case round =>
    obtain ⟨k, rfl, hk, hA, hX, hK⟩ := hrel
    by_cases hlt : k < toks.length
    · obtain ⟨b, off, rfl, hb, hcs⟩ := HC.out (by omega)
      have hbg : b ≠ gs := HV.out _ _ _ rfl (by omega)
      obtain ⟨c0, c1, c2, c3, c4, c5⟩ := tok_cells (t := toks[k]) (W := wr) (b := b) (off := off) (k := k) (fun i u hu => hK.cell hbg (hcs k hlt i u hu))
      have hst := star_kind fold slash toks k hlt
      generalize toks[k] = t at *
      have hcl := closeK_len (gts fold slash toks) l k
      have HSU : Hid (closeK (gts fold slash toks) l (k + 1) = if ((t.kind : Int) == 4) && bitL (closeK (gts fold slash toks) l k) k then setL (closeK (gts fold slash toks) l k) (k + 1) else closeK (gts fold slash toks) l k) := by unfold Hid; rw [closeK, hst]
      clear hst
      generalize closeK (gts fold slash toks) l k = C at *
      go_upto_region 4 with (fail)
      have hX1 := Lib.hid (hX.alloc (by have := hX.size; have := HA.out.lt; have := HB.out; omega) (.cells #[.int .i64 t.kind, .int .u8 t.b.toNat, .int .u64 (wordP t.p 0), .int .u64 (wordP t.p 1), .int .u64 (wordP t.p 2), .int .u64 (wordP t.p 3)] 31))
      have hK1 := Lib.hid (hK.trans (KeptBut.below ((Below.refl _ _).alloc (Nat.le_refl wr.heap.size) (.cells #[.int .i64 t.kind, .int .u8 t.b.toNat, .int .u64 (wordP t.p 0), .int .u64 (wordP t.p 1), .int .u64 (wordP t.p 2), .int .u64 (wordP t.p 3)] 31))))
      have hA1 := Lib.hid (hA.alloc (.cells #[.int .i64 t.kind, .int .u8 t.b.toNat, .int .u64 (wordP t.p 0), .int .u64 (wordP t.p 1), .int .u64 (wordP t.p 2), .int .u64 (wordP t.p 3)] 31))
      have d0 : (wr.alloc (.cells #[.int .i64 t.kind, .int .u8 t.b.toNat, .int .u64 (wordP t.p 0), .int .u64 (wordP t.p 1), .int .u64 (wordP t.p 2), .int .u64 (wordP t.p 3)] 31)).cell? ⟨wr.heap.size, 0, none⟩ = some (.int .i64 t.kind) := by simp
      generalize wr.alloc (.cells #[.int .i64 t.kind, .int .u8 t.b.toNat, .int .u64 (wordP t.p 0), .int .u64 (wordP t.p 1), .int .u64 (wordP t.p 2), .int .u64 (wordP t.p 3)] 31) = W1 at *
      generalize wr.heap.size = g6 at *
      clear c0 c1 c2 c3 c4 c5 hA hX hK
      have hk8 : k / 8 < C.length := by have := HLL.out; omega
      have hk9 : (k + 1) / 8 < C.length := by have := HLL.out; omega
      cases h4 : ((t.kind : Int) == 4)
      · have HS2 : Hid (closeK (gts fold slash toks) l (k + 1) = C) := by unfold Hid; rw [HSU.out, h4]; rfl
        clear HSU
        go_wp2_with fail
        go_roundw
        case rel => exact ⟨k + 1, by go_num, hlt, by rw [HS2.out]; exact hA1.out, hX1.out, hK1.out⟩
        case measure => simp [RowKit.intOf]; omega
      · obtain ⟨x, hx⟩ : ∃ x, x = C.getD (k / 8) 0 := ⟨_, rfl⟩
        have b8 : W1.cell? ⟨gs, k / 8, none⟩ = some (.int .u8 x.toNat) := by
          rw [hA1.out.cell, List.getElem?_map, hx, List.getD_eq_getElem?_getD, List.getElem?_eq_getElem hk8]; rfl
        have hC8 : ((k / 8 : Nat) : Int) < (C.length : Int) := by omega
        have hC9 : (((k + 1) / 8 : Nat) : Int) < (C.length : Int) := by omega
        obtain ⟨j, hj⟩ : ∃ j, j = k / 8 := ⟨_, rfl⟩
        obtain ⟨r, hr⟩ : ∃ r, r = k % 8 := ⟨_, rfl⟩
        have e8 : (k : Int) / 8 = (j : Int) := by omega
        have e7 : bits .and .i64 (k : Int) 7 = (r : Int) := by rw [i64_and7 k (by omega)]; omega
        rw [← hj] at b8 hC8
        have HJ := Lib.hid hj
        have HR := Lib.hid hr
        have HX := Lib.hid hx
        have hr7 : (r : Int) ≤ 7 := by omega
        clear hj hr hx hk8
        have hbt : bitL C k = x.toNat.testBit r := by unfold bitL; rw [HX.out, HR.out]
        cases hbit : bitL C k
        · have t1 : (bits .and .u8 ((x.toNat : Int) / 2 ^ r) 1 == 1) = false := by rw [u8_bit, ← hbt, hbit]
          have HS2 : Hid (closeK (gts fold slash toks) l (k + 1) = C) := by unfold Hid; rw [HSU.out, hbit]; simp
          clear HSU hbt
          go_wp2_with fail
          go_roundw
          case rel => exact ⟨k + 1, by go_num, hlt, by rw [HS2.out]; exact hA1.out, hX1.out, hK1.out⟩
          case measure => simp [RowKit.intOf]; omega
        · have t1 : (bits .and .u8 ((x.toNat : Int) / 2 ^ r) 1 == 1) = true := by rw [u8_bit, ← hbt, hbit]
          have HS2 : Hid (closeK (gts fold slash toks) l (k + 1) = setL C (k + 1)) := by unfold Hid; rw [HSU.out, h4, hbit]; rfl
          clear HSU hbt
          obtain ⟨x2, hx2⟩ : ∃ x2, x2 = C.getD ((k + 1) / 8) 0 := ⟨_, rfl⟩
          obtain ⟨j2, hj2⟩ : ∃ j, j = (k + 1) / 8 := ⟨_, rfl⟩
          obtain ⟨r2, hr2⟩ : ∃ r, r = (k + 1) % 8 := ⟨_, rfl⟩
          have b9 : W1.cell? ⟨gs, j2, none⟩ = some (.int .u8 x2.toNat) := by
            rw [hj2, hA1.out.cell, List.getElem?_map, hx2, List.getD_eq_getElem?_getD, List.getElem?_eq_getElem hk9]; rfl
          have f9 := hA1.out.fz j2
          have e8b : ((k : Int) + 1) / 8 = (j2 : Int) := by omega
          have e7b : bits .and .i64 ((k : Int) + 1) 7 = (r2 : Int) := by
            have := i64_and7 (k + 1) (by have := HN.out; omega)
            rw [show ((k + 1 : Nat) : Int) = (k : Int) + 1 by omega] at this
            rw [this]; omega
          have hr27 : (r2 : Int) ≤ 7 := by omega
          have hC92 : (j2 : Int) < (C.length : Int) := by omega
          have hwk : IntKind.i64.wrap ((k : Int) + 1) = (k : Int) + 1 := IntWalk.i64_in _ (by omega)
          have HX2 := Lib.hid hx2
          have HJ2 := Lib.hid hj2
          have HR2 := Lib.hid hr2
          clear hx2 hj2 hr2 hk9
          go_wp2_with fail
          go_region
          go_wp2_with fail
          have hst := set_at hA1.out (k + 1)
          rw [← HX2.out, ← HJ2.out, ← HR2.out, ← or_cell x2 r2 (by omega)] at hst
          go_roundw
          case rel => exact ⟨k + 1, by go_num, hlt, by rw [HS2.out]; exact hst.drew, (below_set hX1.out HB.out).drew, (hK1.out.trans (KeptBut.set gs j2 _ W1)).drew⟩
          case measure => simp [RowKit.intOf]; omega
    · have hkl : k = toks.length := by omega
      subst hkl
      have hcl := closeK_len (gts fold slash toks) l toks.length
      have hs := str_at wr gs _ c hA
      rw [hcl] at hs
      have HF : Hid (closeK (gts fold slash toks) l toks.length = closeL (gts fold slash toks) l) := by unfold Hid closeL; rw [gts_len]
      clear HC hcl
      go_wp2_with fail
      go_ret
      exact ⟨by rw [← HF.out]; rfl, hX, hK⟩
end Go.Proofs.YtphfcebacilbbaaDoor
namespace Go.Proofs.YtphfcebacilbbaaDoor
open Go.RowKit
attribute [local irreducible] wordP

theorem info_tk : (Tryd.prog.info? 31).map (·.size) = some 6 := by kernel_rfl
theorem chain {w u v : World} (h : Below w.heap.size w u) (k : Below u.heap.size u v) : Below w.heap.size w v := h.trans (k.mono h.size)
theorem u8_bit0 (x : UInt8) (r : Nat) : (bits .and .u8 ((x.toNat : Int) / 2 ^ r) 1 == 0) = !x.toNat.testBit r := by
  have h1 := u8_bit x r
  have hx := x.toNat_lt
  have hle : x.toNat / 2 ^ r ≤ x.toNat := Nat.div_le_self _ _
  have e : (x.toNat : Int) / 2 ^ r = ((x.toNat / 2 ^ r : Nat) : Int) := by push_cast; rfl
  rw [e] at h1 ⊢
  rw [← h1]
  generalize x.toNat / 2 ^ r = y at *
  have e2 := u8_and_nat y 1 (by omega) (by decide)
  rw [Nat.and_one_is_mod] at e2
  rw [show (1 : Int) = ((1 : Nat) : Int) from rfl, e2]
  rcases Nat.mod_two_eq_zero_or_one y with h | h <;> rw [h] <;> rfl
theorem zeros_at (w : World) (n : Nat) : SetAtB (w.alloc (.cells (zerosA n) 5)) w.heap.size (List.replicate n 0) := by
  have e : ((List.replicate n (0 : UInt8)).map bv).toArray = zerosA n := by
    unfold zerosA
    apply Array.toList_inj.1
    rw [toList_madeCells_one, List.map_replicate]
    rfl
  unfold SetAtB AtB
  rw [e]
  exact heap_alloc_new _ _
theorem free_cases (slash : Bool) (b : UInt8) : (freeG slash b = true ∧ slash = true) ∨ (freeG slash b = true ∧ slash = false ∧ ((b.toNat : Int) != 47) = true) ∨ (freeG slash b = false ∧ slash = false ∧ ((b.toNat : Int) != 47) = false) := by
  unfold freeG
  cases slash
  · by_cases h : b = 47
    · subst h; exact .inr (.inr ⟨rfl, rfl, rfl⟩)
    · exact .inr (.inl ⟨by simpa using h, rfl, byte_bne b 47 47 rfl h⟩)
  · exact .inl ⟨rfl, rfl⟩
/-- one token's turn -/
theorem out_step (fr : UInt8 → Bool) (L : List GT) (b : UInt8) (l : List UInt8) (k : Nat) : outK fr L b l (k + 1) = if bitL l k then (if starAt L k then (if fr b then setL (outK fr L b l k) k else outK fr L b l k) else (if tellsAt L k b then setL (outK fr L b l k) (k + 1) else outK fr L b l k)) else outK fr L b l k := rfl
set_option maxRecDepth 100000 in
set_option maxHeartbeats 8000000 in
theorem step_any (g : Nat) (fold slash : Bool) (toks : List Tk) (v : Value) (l : List UInt8) (b : UInt8) (w : World) (hv : RowsV Tk.cells 6 w v toks) (hn : toks.length ≤ 2000) (h0 : w.cell? ⟨g, 0, none⟩ = some v) (h1 : w.cell? ⟨g, 1, none⟩ = some (.bool fold)) (h2 : w.cell? ⟨g, 2, none⟩ = some (.bool slash)) (hll : l.length = toks.length / 8 + 1) :
    Calls Tryd.prog 25 #[.pointer (some ⟨g, 0, none⟩), .string (S l), .int .u8 b.toNat] w fun e w' => e = .returned (.string (S (stepL (freeG slash) (gts fold slash toks) b l))) ∧ Below w.heap.size w w' := by
  have HV := Lib.hid (fun W (hb : Below w.heap.size w W) => RowsV.below hv hb (Nat.le_refl _))
  have H0 := Lib.hid (fun W (hb : Below w.heap.size w W) => cellB hb h0)
  have H1 := Lib.hid (fun W (hb : Below w.heap.size w W) => cellB hb h1)
  have H2 := Lib.hid (fun W (hb : Below w.heap.size w W) => cellB hb h2)
  have hmk := fun W => mk_bytes l.length l.length (Nat.le_refl _) (by omega) W
  have HZ := Lib.hid (zeros_at w l.length)
  have HZB := Lib.hid ((Below.refl w.heap.size w).alloc (Nat.le_refl _) (.cells (zerosA l.length) 5))
  have HNE : Hid (w.heap.size ≠ g) := by have := World.block_lt_of_cell? _ _ h1; unfold Hid; simp only at this; omega
  have HVG : Hid (∀ a n c, v = .slice (some a) n c → 0 < toks.length → a.block ≠ w.heap.size) := by
    obtain ⟨a', c', rfl, hc⟩ := hv
    intro a n c e hp
    obtain ⟨b', off', rfl, hb', _⟩ := hc hp
    injection e with e1 e2 e3
    injection e1 with e1
    rw [← e1]
    simp only
    omega
  obtain ⟨a, cc, rfl, hc⟩ := hv
  have HC := Lib.hid hc
  have hnI : (toks.length : Int) ≤ 2000 := by omega
  have HN := Lib.hid hn
  have HLL := Lib.hid hll
  have hlI : (l.length : Int) ≤ 2000 := by omega
  clear hc hn hll h1 h2
  go_enter Tryd.func25, Tryd.ntmps25
  go_upto_region 2 with (fail)
  generalize w.alloc (.cells (zerosA l.length) 5) = W0 at *
  have h0' := H0.out W0 HZB.out
  go_wp2_with fail
  go_loopw [18] (fun i wr => ∃ k : Nat, i = .int .i64 k ∧ k ≤ toks.length ∧ SetAtB wr w.heap.size (outK (freeG slash) (gts fold slash toks) b l k) ∧ Below w.heap.size w wr) (fun i _ => toks.length - (RowKit.intOf i).toNat)
  case atStart => exact ⟨0, rfl, Nat.zero_le _, HZ.out, HZB.out⟩
  case round =>
    obtain ⟨k, rfl, hk, hA, hX⟩ := hrel
    have hsz := hX.size
    by_cases hlt : k < toks.length
    · obtain ⟨b0, off, rfl, hb, hcs⟩ := HC.out (by omega)
      obtain ⟨c0, c1, c2, c3, c4, c5⟩ := tok_cells (t := toks[k]) (W := wr) (b := b0) (off := off) (k := k) (fun i u hu => by rw [hX.cell (by exact hb)]; exact hcs k hlt i u hu)
      have hst := star_kind fold slash toks k hlt
      have hte := tells_one fold slash toks k hlt b
      have hol := outK_len (freeG slash) (gts fold slash toks) b l k
      have HSU : Hid (outK (freeG slash) (gts fold slash toks) b l (k + 1) = if bitL l k then (if ((toks[k].kind : Int) == 4) then (if freeG slash b then setL (outK (freeG slash) (gts fold slash toks) b l k) k else outK (freeG slash) (gts fold slash toks) b l k) else (if oneG fold slash toks[k] b then setL (outK (freeG slash) (gts fold slash toks) b l k) (k + 1) else outK (freeG slash) (gts fold slash toks) b l k)) else outK (freeG slash) (gts fold slash toks) b l k) := by unfold Hid; rw [out_step, hst, hte]
      clear hst hte HV
      generalize toks[k] = t at *
      generalize outK (freeG slash) (gts fold slash toks) b l k = C at *
      go_upto_region 5 with (fail)
      have hX1 := Lib.hid (hX.alloc hsz (.cells #[.int .i64 t.kind, .int .u8 t.b.toNat, .int .u64 (wordP t.p 0), .int .u64 (wordP t.p 1), .int .u64 (wordP t.p 2), .int .u64 (wordP t.p 3)] 31))
      have hA1 := Lib.hid (hA.alloc (.cells #[.int .i64 t.kind, .int .u8 t.b.toNat, .int .u64 (wordP t.p 0), .int .u64 (wordP t.p 1), .int .u64 (wordP t.p 2), .int .u64 (wordP t.p 3)] 31))
      have hT1 := Lib.hid (AtB.new wr 31 t.cells)
      change Code.wp _ _ _ _ (wr.alloc (.cells t.cells.toArray 31))
      have hX1 : Hid (Below w.heap.size w (wr.alloc (.cells t.cells.toArray 31))) := hX1
      have hA1 : Hid (SetAtB (wr.alloc (.cells t.cells.toArray 31)) w.heap.size C) := hA1
      generalize wr.alloc (.cells t.cells.toArray 31) = W1 at *
      have hne6 : wr.heap.size ≠ w.heap.size := by have := hA.lt; omega
      generalize wr.heap.size = g6 at *
      clear c0 c1 c2 c3 c4 c5 hA hX hsz
      have hk8 : k / 8 < l.length := by have := HLL.out; omega
      obtain ⟨x, hx⟩ : ∃ x, x = l.getD (k / 8) 0 := ⟨_, rfl⟩
      obtain ⟨j, hj⟩ : ∃ j, j = k / 8 := ⟨_, rfl⟩
      obtain ⟨r, hr⟩ : ∃ r, r = k % 8 := ⟨_, rfl⟩
      have hjl : j < (S l).size := by rw [S_size, hj]; exact hk8
      have hidx : (S l)[j]'hjl = x := by
        rw [S_get, hx, ← hj, List.getD_eq_getElem?_getD, List.getElem?_eq_getElem (by rw [S_size] at hjl; exact hjl)]; rfl
      have e8 : (k : Int) / 8 = (j : Int) := by omega
      have e7 : bits .and .i64 (k : Int) 7 = (r : Int) := by rw [i64_and7 k (by omega)]; omega
      have hjI : (j : Int) < (l.length : Int) := by rw [S_size] at hjl; omega
      have hr7 : (r : Int) ≤ 7 := by omega
      have HX := Lib.hid hx
      have HJ := Lib.hid hj
      have HR := Lib.hid hr
      have hbt : bitL l k = x.toNat.testBit r := by unfold bitL; rw [hx, hr]
      clear hx hj hr hk8
      have d0 : W1.cell? ⟨g6, 0, none⟩ = some (.int .i64 t.kind) := hT1.out.cell 0
      have m1 := H1.out W1 hX1.out
      have m2 := H2.out W1 hX1.out
      cases hbit : bitL l k
      · have t1 : (bits .and .u8 ((x.toNat : Int) / 2 ^ r) 1 == 0) = true := by rw [u8_bit0, ← hbt, hbit]; rfl
        have HS2 : Hid (outK (freeG slash) (gts fold slash toks) b l (k + 1) = C) := by unfold Hid; rw [HSU.out, hbit]; rfl
        clear HSU hbt
        go_wp2_with fail
        go_roundw
        case rel => exact ⟨k + 1, by go_num, hlt, by rw [HS2.out]; exact hA1.out, hX1.out⟩
        case measure => simp [RowKit.intOf]; omega
      · have t1 : (bits .and .u8 ((x.toNat : Int) / 2 ^ r) 1 == 0) = false := by rw [u8_bit0, ← hbt, hbit]; rfl
        rw [hbit] at HSU
        clear hbt
        cases h4 : ((t.kind : Int) == 4)
        · have h4n : ((t.kind : Int) != 4) = true := by rw [bne, h4]; rfl
          rw [h4] at HSU
          have HM := Lib.hid (fun W (hb : Below w.heap.size w W) => mOne_any g fold slash t b W (H1.out W hb) (H2.out W hb))
          have d1 : W1.cell? ⟨g6, 1, none⟩ = some (.int .u8 t.b.toNat) := hT1.out.cell 1
          have d2 : W1.cell? ⟨g6, 2, none⟩ = some (.int .u64 (wordP t.p 0)) := hT1.out.cell 2
          have d3 : W1.cell? ⟨g6, 3, none⟩ = some (.int .u64 (wordP t.p 1)) := hT1.out.cell 3
          have d4 : W1.cell? ⟨g6, 4, none⟩ = some (.int .u64 (wordP t.p 2)) := hT1.out.cell 4
          have d5 : W1.cell? ⟨g6, 5, none⟩ = some (.int .u64 (wordP t.p 3)) := hT1.out.cell 5
          go_wp2_with fail
          refine (HM.out _ hX1.out).mono ?_
          rintro e w2 ⟨rfl, hb2⟩
          have hX2 := Lib.hid (chain hX1.out hb2)
          have hA2 := Lib.hid (hA1.out.below hb2)
          clear HM hX1 hA1 hT1 hb2 d0 d1 d2 d3 d4 d5 m1 m2
          cases ho : oneG fold slash t b
          · have HS2 : Hid (outK (freeG slash) (gts fold slash toks) b l (k + 1) = C) := by unfold Hid; rw [HSU.out, ho]; rfl
            clear HSU
            go_wp2_with fail
            go_roundw
            case rel => exact ⟨k + 1, by go_num, hlt, by rw [HS2.out]; exact hA2.out, hX2.out⟩
            case measure => simp [RowKit.intOf]; omega
          · have HS2 : Hid (outK (freeG slash) (gts fold slash toks) b l (k + 1) = setL C (k + 1)) := by unfold Hid; rw [HSU.out, ho]; rfl
            clear HSU
            have hk9 : (k + 1) / 8 < C.length := by have := HLL.out; omega
            obtain ⟨x2, hx2⟩ : ∃ x2, x2 = C.getD ((k + 1) / 8) 0 := ⟨_, rfl⟩
            obtain ⟨j2, hj2⟩ : ∃ j, j = (k + 1) / 8 := ⟨_, rfl⟩
            obtain ⟨r2, hr2⟩ : ∃ r, r = (k + 1) % 8 := ⟨_, rfl⟩
            have b9 : w2.cell? ⟨w.heap.size, j2, none⟩ = some (.int .u8 x2.toNat) := by
              rw [hj2, hA2.out.cell, List.getElem?_map, hx2, List.getD_eq_getElem?_getD, List.getElem?_eq_getElem hk9]; rfl
            have f9 := hA2.out.fz j2
            have e8b : ((k : Int) + 1) / 8 = (j2 : Int) := by omega
            have e7b : bits .and .i64 ((k : Int) + 1) 7 = (r2 : Int) := by
              have := i64_and7 (k + 1) (by have := HN.out; omega)
              rw [show ((k + 1 : Nat) : Int) = (k : Int) + 1 by omega] at this
              rw [this]; omega
            have hr27 : (r2 : Int) ≤ 7 := by omega
            have hC92 : (j2 : Int) < (l.length : Int) := by omega
            have hwk : IntKind.i64.wrap ((k : Int) + 1) = (k : Int) + 1 := IntWalk.i64_in _ (by omega)
            have HX2 := Lib.hid hx2
            have HJ2 := Lib.hid hj2
            have HR2 := Lib.hid hr2
            clear hx2 hj2 hr2 hk9
            go_wp2_with fail
            go_region
            go_wp2_with fail
            have hst := set_at hA2.out (k + 1)
            rw [← HX2.out, ← HJ2.out, ← HR2.out, ← or_cell x2 r2 (by omega)] at hst
            go_roundw
            case rel => exact ⟨k + 1, by go_num, hlt, by rw [HS2.out]; exact hst.drew, (below_set hX2.out (Nat.le_refl _)).drew⟩
            case measure => simp [RowKit.intOf]; omega
        · have h4n : ((t.kind : Int) != 4) = false := by rw [bne, h4]; rfl
          rw [h4] at HSU
          clear hT1
          rcases free_cases slash b with ⟨hf, hs⟩ | ⟨hf, hs, hb47⟩ | ⟨hf, hs, hb47⟩
          case' inr.inr =>
            have HS2 : Hid (outK (freeG slash) (gts fold slash toks) b l (k + 1) = C) := by unfold Hid; rw [HSU.out, hf]; rfl
            clear HSU hf
            rw [hs] at m2
            go_wp2_with fail
            go_roundw
            case rel => exact ⟨k + 1, by go_num, hlt, by rw [HS2.out]; exact hA1.out, hX1.out⟩
            case measure => simp [RowKit.intOf]; omega
          all_goals
            have HS2 : Hid (outK (freeG slash) (gts fold slash toks) b l (k + 1) = setL C k) := by unfold Hid; rw [HSU.out, hf]; rfl
            clear HSU hf
            rw [hs] at m2
            have hk9 : k / 8 < C.length := by have := HLL.out; omega
            obtain ⟨x2, hx2⟩ : ∃ x2, x2 = C.getD (k / 8) 0 := ⟨_, rfl⟩
            have b9 : W1.cell? ⟨w.heap.size, j, none⟩ = some (.int .u8 x2.toNat) := by
              rw [HJ.out, hA1.out.cell, List.getElem?_map, hx2, List.getD_eq_getElem?_getD, List.getElem?_eq_getElem hk9]; rfl
            have f9 := hA1.out.fz j
            have HX2 := Lib.hid hx2
            clear hx2 hk9
            go_wp2_with fail
            go_region
            go_wp2_with fail
            have hst := set_at hA1.out k
            rw [← HX2.out, ← HJ.out, ← HR.out, ← or_cell x2 r (by omega)] at hst
            go_roundw
            case rel => exact ⟨k + 1, by go_num, hlt, by rw [HS2.out]; exact hst.drew, (below_set hX1.out (Nat.le_refl _)).drew⟩
            case measure => simp [RowKit.intOf]; omega
    · have hkl : k = toks.length := by omega
      subst hkl
      have hol := outK_len (freeG slash) (gts fold slash toks) b l toks.length
      have hq := close_any g w.heap.size fold slash toks (.slice a toks.length cc) (outK (freeG slash) (gts fold slash toks) b l toks.length) l.length wr (HV.out _ hX) (by omega) (H0.out _ hX) hA (by rw [hol]; exact HLL.out) HNE.out HVG.out w.heap.size (Nat.le_refl _)
      rw [hol] at hq
      have HQ := Lib.hid hq
      have HF : Hid (closeL (gts fold slash toks) (outK (freeG slash) (gts fold slash toks) b l toks.length) = stepL (freeG slash) (gts fold slash toks) b l) := by unfold Hid stepL; rw [gts_len]
      clear hq HC HV H0 H1 H2
      go_wp2_with fail
      refine HQ.out.mono ?_
      rintro e w2 ⟨rfl, hb2, _⟩
      go_wp2_with fail
      go_ret
      exact ⟨by rw [← HF.out]; rfl, hX.trans hb2⟩
end Go.Proofs.YtphfcebacilbbaaDoor
namespace Go.Proofs.YtphfcebacilbbaaDoor
open Go.RowKit Go.Maps

theorem strKeyed : Keyed Tryd.prog 9 := string_keyed Tryd.underlying9
theorem key_S (s : List UInt8) (h : s.length ≤ 9223372036854775807) : keyOf Tryd.prog 9 (.string (S s)) = some (.string s) := by
  have := Go.WideMaps.keyOf_string_mk Tryd.underlying9 (show (S s).size ≤ maxLen by rw [S_size]; exact h)
  rw [S_data] at this
  exact this
/-- the block b is a map of n texts that tells M; its elements are of type e, an integer kind q -/
def SMap (e : TypeId) (q : IntKind) (w : World) (b n : Nat) (M : List UInt8 → Option Int) : Prop :=
  ∃ D : DataW Unit, w.ownsMap Tryd.prog 9 (plainElem Tryd.prog e) b n D ∧ size D = n ∧ (∀ s : List UInt8, has D (.string s) = (M s).isSome) ∧ ∀ s x zd, M s = some x → D.atKey (.string s) zd = .lit (.int q x)
section
variable {e : TypeId} {q : IntKind} {w w' : World} {b n B : Nat} {M : List UInt8 → Option Int}
theorem SMap.made (e : TypeId) (q : IntKind) (w : World) : SMap e q (w.alloc (.map #[] 0)) w.heap.size 0 (fun _ => none) :=
  ⟨.map [], World.ownsMap_made w Tryd.prog _ _, rfl, fun _ => rfl, fun _ _ _ h => by cases h⟩
theorem SMap.lt (h : SMap e q w b n M) : b < w.heap.size := by
  obtain ⟨D, h, _⟩ := h
  exact h.lt
theorem SMap.same (h : SMap e q w b n M) (x : w'.heap[b]? = w.heap[b]?) : SMap e q w' b n M := by
  obtain ⟨D, ⟨es, clock, hb, F, hs, hD⟩, h2⟩ := h
  exact ⟨D, ⟨es, clock, x.trans hb, F, hs, hD⟩, h2⟩
theorem SMap.below (h : SMap e q w b n M) (hb : Below B w w') (hB : b < B) : SMap e q w' b n M := h.same (hb.block b hB)
theorem SMap.alloc (h : SMap e q w b n M) (o : Obj) : SMap e q (w.alloc o) b n M := h.same (Below.heap_alloc w o b h.lt)
theorem SMap.drew (h : SMap e q w b n M) : SMap e q w.drew b n M := h
set_option maxRecDepth 100000 in
/-- a map is no row of cells -/
theorem SMap.noRow (h : SMap e q w b n M) {C : Array Value} {t : TypeId} {fz : Nat × Nat} (hb : w.heap[b]? = some (.cells C t fz)) : False := by
  obtain ⟨D, ⟨es, clock, h1, _⟩, _⟩ := h
  rw [hb] at h1
  cases h1
set_option maxRecDepth 100000 in
theorem SMap.look {t : TypeId} (ht : Tryd.prog.underlying t = some (.map 9 e)) (he : Tryd.prog.underlying e = some (.int q)) (hz : (zeroValue e).run Tryd.prog w = .ok (.int q 0) w) (h : SMap e q w b n M) (s : List UInt8) (hs : s.length ≤ 9223372036854775807) :
    ∃ x : Int, (Instr.lookup t (.map (some b)) (.string (S s)) true).run Tryd.prog w = .ok (.tuple #[.int q x, .bool (M s).isSome]) w ∧ ∀ y, M s = some y → x = y := by
  obtain ⟨D, h, _, h2, h3⟩ := h
  obtain ⟨v, ps, hrun, hv⟩ := h.look_ok strKeyed ht hz (plainElem_int he (by cases q <;> decide)) (key_S s hs)
  obtain ⟨c, rfl, hc, _⟩ := plainElem_int_inv he hv
  refine ⟨c, by rw [hrun, h2 s], fun y hy => ?_⟩
  have e1 := congrArg Prod.fst hc
  rw [h3 s y _ hy] at e1
  have e2 : (Lit.int q y) = Lit.int q c := DataW.lit.inj e1
  exact (Lit.int.inj e2).2.symm
set_option maxRecDepth 100000 in
theorem SMap.put {t : TypeId} (ht : Tryd.prog.underlying t = some (.map 9 e)) (he : Tryd.prog.underlying e = some (.int q)) (h : SMap e q w b n M) (hn : n < 1000000) (s : List UInt8) (hs : s.length ≤ 9223372036854775807) (x : Int) (hx : (Lit.int q x).wf = true) (hnew : M s = none) :
    ∃ w', (Instr.mapUpdate t (.map (some b)) (.string (S s)) (.int q x)).run Tryd.prog w = .ok () w' ∧ SMap e q w' b (n + 1) (fun r => if r = s then some x else M r) ∧ w.grownBy w' (some b) := by
  obtain ⟨D, h, h1, h2, h3⟩ := h
  obtain ⟨w', hrun, h4, h5⟩ := h.update strKeyed ht (by unfold maxLen; omega) (key_S s hs) (plainElem_int he hx)
  refine ⟨w', hrun, ⟨_, h4, ?_, fun r => ?_, fun r y zd er => ?_⟩, h5⟩
  · rw [size_put (h.tidy strKeyed), h2 s, hnew, h1]; rfl
  · by_cases hr : r = s
    · subst hr
      rw [has_put_same h.isMap (strKeyed.key (key_S r hs))]; simp
    · rw [has_put_other (by intro e; injection e with e; exact hr e), h2 r]; simp [hr]
  · by_cases hr : r = s
    · subst hr
      simp only [if_true] at er
      cases er
      exact atKey_put_same h.isMap (strKeyed.key (key_S r hs)) _ _
    · simp only [if_neg hr] at er
      rw [atKey_put_other (by intro e; injection e with e; exact hr e)]
      exact h3 r y zd er
set_option maxRecDepth 100000 in
theorem SMap.len {t : TypeId} (ht : Tryd.prog.underlying t = some (.map 9 e)) (h : SMap e q w b n M) (ty : TypeId) : (Builtin.len_ #[t] ty #[.map (some b)]).run Tryd.prog w = .ok (.int .i64 n) w := by
  obtain ⟨D, h, h1, _⟩ := h
  rw [h.len ht ty, h1]
/-- what a write into the map leaves -/
theorem grown_row {row : Nat} {g : Nat} {T : TypeId} {C : List Value} (hg : w.grownBy w' (some row)) (hA : w.heap[g]? = some (.cells C.toArray T (0, 0))) (hne : g ≠ row) : w'.heap[g]? = some (.cells C.toArray T (0, 0)) := by
  have hl : g < w.heap.size := (Array.getElem?_eq_some_iff.1 hA).1
  rw [hg.block g hl (fun e => hne (by injection e))]
  exact hA
end
section
variable (w : World) {ops : Array Oper} {rest : List Oper} {o : Oper} {a : Act} {Q : Exit → Act → World → Prop} {e : TypeId} {q : IntKind}
set_option maxRecDepth 100000 in
theorem app_look (hg : o.guard = none) (m x : Operand) (t : TypeId) (hop : o.op = Op.lookup t m x true) (ht : Tryd.prog.underlying t = some (.map 9 e)) (he : Tryd.prog.underlying e = some (.int q)) (hz : (zeroValue e).run Tryd.prog w = .ok (.int q 0) w)
    (b n : Nat) (M : List UInt8 → Option Int) (hm : a.eval m = .map (some b)) (hown : SMap e q w b n M) (s : List UInt8) (hs : s.length ≤ 9223372036854775807) (hx : a.eval x = .string (S s))
    (hK : ∀ c : Int, (∀ y, M s = some y → c = y) → wpList Tryd.prog ops Q rest (a.put o.dst (.tuple #[.int q c, .bool (M s).isSome])) w) :
    wpList Tryd.prog ops Q (o :: rest) a w := by
  refine wpList_plain hg fun K' hK' => ?_
  obtain ⟨c, hrun, hc⟩ := hown.look ht he hz s hs
  unfold Oper.wp
  simp [execOp, hop, hm, hx, hrun, Result.andThen]
  exact hK' _ _ (hK c hc)
set_option maxRecDepth 100000 in
theorem app_mapput (hg : o.guard = none) (m x v : Operand) (t : TypeId) (hop : o.op = Op.mapUpdate t m x v) (ht : Tryd.prog.underlying t = some (.map 9 e)) (he : Tryd.prog.underlying e = some (.int q))
    (b n : Nat) (M : List UInt8 → Option Int) (hm : a.eval m = .map (some b)) (hown : SMap e q w b n M) (hn : n < 1000000) (s : List UInt8) (hs : s.length ≤ 9223372036854775807) (hx : a.eval x = .string (S s)) (c : Int) (hc : (Lit.int q c).wf = true) (hv : a.eval v = .int q c) (hnew : M s = none)
    (hK : ∀ w', SMap e q w' b (n + 1) (fun r => if r = s then some c else M r) → w.grownBy w' (some b) → wpList Tryd.prog ops Q rest (a.put o.dst undef) w') :
    wpList Tryd.prog ops Q (o :: rest) a w := by
  refine wpList_plain hg fun K' hK' => ?_
  obtain ⟨w', hrun, h1, h2⟩ := hown.put ht he hn s hs c hc hnew
  unfold Oper.wp
  simp [execOp, hop, hm, hx, hv, hrun, Result.andThen]
  exact hK' _ _ (hK w' h1 h2)
end
end Go.Proofs.YtphfcebacilbbaaDoor
namespace Go.Proofs.YtphfcebacilbbaaDoor
open Go.RowKit

def OwnV (e : TypeId) (w : World) (base : Nat) (v : Value) (l : List Value) : Prop := w.ownsRow base e 1 v l.length l
section
variable {e e' : TypeId} {w w' : World} {base base' B : Nat} {v v' u u' : Value} {l l' : List Value}
theorem OwnV.nil (e : TypeId) (w : World) (base : Nat) : OwnV e w base (.slice none 0 0) [] := World.ownsRow_nil _ _ _ _
theorem OwnV.lit (e : TypeId) (w : World) : OwnV e (w.alloc (.cells #[] e)) w.heap.size (.slice (some ⟨w.heap.size, 0, none⟩) 0 0) [] :=
  World.ownsRow_lit (base := w.heap.size) (e := e) (size := 1) w #[] 0 (Nat.le_refl _) (by decide) (by decide)
theorem OwnV.alloc (h : OwnV e w base v l) (o : Obj) : OwnV e (w.alloc o) base v l := World.ownsRow.alloc h o
theorem OwnV.drewN {n : Nat} (h : OwnV e w base v l) : OwnV e (w.drewN n) base v l := h
theorem OwnV.drew (h : OwnV e w base v l) : OwnV e w.drew base v l := h
theorem OwnV.lt (h : OwnV e w base v l) : ∀ k, v.ownBlock = some k → base ≤ k ∧ k < w.heap.size := World.ownsRow.lt h
theorem OwnV.below (h : OwnV e w base v l) (hb : Below B w w') (hB : w.heap.size ≤ B) : OwnV e w' base v l := by
  obtain ⟨h1, h2⟩ := h
  refine ⟨h1, ?_⟩
  rcases h2 with h2 | ⟨g, cap, cur, hv, hg, hh, r⟩
  · exact Or.inl h2
  · have hlt : g < w.heap.size := by
      rcases Nat.lt_or_ge g w.heap.size with h | h
      · exact h
      · rw [Array.getElem?_eq_none h] at hh; cases hh
    exact Or.inr ⟨g, cap, cur, hv, hg, by rw [hb.block g (by omega)]; exact hh, r⟩
theorem OwnV.rebase (h : OwnV e w base v l) (hb : base' ≤ base) : OwnV e w base' v l := by
  obtain ⟨h1, h2⟩ := h
  refine ⟨h1, ?_⟩
  rcases h2 with h2 | ⟨g, cap, cur, hv, hg, r⟩
  · exact Or.inl h2
  · exact Or.inr ⟨g, cap, cur, hv, by omega, r⟩
theorem OwnV.shape (h : OwnV e w base v l) : ∃ a c, v = .slice a l.length c := by
  rcases h.2 with ⟨rfl, h0⟩ | ⟨g, cap, cur, rfl, hg, hh, r⟩
  · exact ⟨none, 0, by rw [h0]⟩
  · exact ⟨_, _, rfl⟩
theorem OwnV.one (h : OwnV e w base v l) : v.oneCell' = true := by
  rcases h.2 with ⟨rfl, _⟩ | ⟨g, cap, cur, rfl, _⟩ <;> rfl
/-- its cells -/
theorem OwnV.at (h : OwnV e w base v l) (h0 : 0 < l.length) : ∃ g c, v = .slice (some ⟨g, 0, none⟩) l.length c ∧ base ≤ g ∧ g < w.heap.size ∧ l.length ≤ c ∧ (∀ j, j < l.length → w.cell? ⟨g, j, none⟩ = l[j]?) ∧ (∀ j, w.frozen? ⟨g, j, none⟩ = false) := by
  rcases h.2 with ⟨_, h1⟩ | ⟨g, cap, cur, rfl, hg, hh, hc, _⟩
  · omega
  · have hlt := (h.lt g rfl).2
    exact ⟨g, cap, rfl, hg, hlt, hc, fun j hj => World.ownsRow.cellAt h j (by omega), fun j => World.ownsRow.frozenAt h j⟩
theorem OwnV.stored {g c : Nat} (h : OwnV e w base (.slice (some ⟨g, 0, none⟩) l.length c) l) (j : Nat) (x : Value) : OwnV e (w.setCell ⟨g, j, none⟩ x) base (.slice (some ⟨g, 0, none⟩) l.length c) (l.set j x) := by
  have := World.ownsRow.stored h j x
  unfold OwnV
  rw [List.length_set]
  exact this.1
theorem OwnV.sep (he : e ≠ e') (h : OwnV e w base v l) (h' : OwnV e' w base' u l') : v.ownBlock = none ∨ v.ownBlock ≠ u.ownBlock := by
  rcases h.2 with ⟨rfl, _⟩ | ⟨g, cap, cur, rfl, hb, hg, _⟩
  · exact Or.inl rfl
  · right
    rcases h'.2 with ⟨rfl, _⟩ | ⟨g', cap', cur', rfl, hb', hg', _⟩
    · intro e; cases e
    · intro x
      simp only [Value.ownBlock, Option.some.injEq] at x
      subst x
      rw [hg] at hg'
      injection hg' with hg'
      injection hg' with _ hg'
      exact he hg'
theorem OwnV.sepG {g : Nat} {cs : Array Value} {fz : Nat × Nat} (he : e ≠ e') (h : OwnV e w base v l) (hg : w.heap[g]? = some (.cells cs e' fz)) : some g ≠ v.ownBlock := by
  rcases h.2 with ⟨rfl, _⟩ | ⟨g', cap, cur, rfl, hb, hg', _⟩
  · intro x; cases x
  · intro x
    simp only [Value.ownBlock, Option.some.injEq] at x
    subst x
    rw [hg] at hg'
    injection hg' with hg'
    injection hg' with _ hg'
    exact he hg'.symm
/-- what an append on a slice of another type leaves -/
theorem OwnV.kept (he : e ≠ e') (h : OwnV e w base v l) (h' : OwnV e' w base' u l') (hg : Grew w w' u u') : OwnV e w' base v l := World.ownsRow.kept h hg.grown (OwnV.sep he h h')
theorem AtB.kept {g : Nat} {C : List Value} (he : e ≠ e') (h : AtB w g e' C) (h' : OwnV e w base v l) (hg : Grew w w' v v') : AtB w' g e' C := (hg.grown.block g h.lt (OwnV.sepG he h' h)).trans h
theorem block_kept {g : Nat} (hl : g < w.heap.size) (hg : Grew w w' v v') (hs : some g ≠ v.ownBlock) : w'.heap[g]? = w.heap[g]? := hg.grown.block g hl hs
/-- a store into a block of another type -/
theorem OwnV.setAt {g i : Nat} {x : Value} {C : List Value} (he : e ≠ e') (h : OwnV e w base v l) (hA : AtB w g e' C) : OwnV e (w.setCell ⟨g, i, none⟩ x) base v l := by
  have hs := OwnV.sepG he h hA
  obtain ⟨h1, h2⟩ := h
  refine ⟨h1, ?_⟩
  rcases h2 with h2 | ⟨k, cap, cur, hv, hg, hh, r⟩
  · exact Or.inl h2
  · refine Or.inr ⟨k, cap, cur, hv, hg, ?_, r⟩
    have hne : k ≠ g := fun e => hs (by rw [hv, e]; rfl)
    exact (heap_setCell_other w ⟨g, i, none⟩ k x hne).trans hh
end
/-- 'append(v, x)' -/
theorem app_v (T e : TypeId) (z : Value) (by_ : Nat) (hT : Tryd.prog.underlying T = some (.slice e)) (hinfo : (Tryd.prog.info? e).map (fun i => (i.zero, i.size, i.bytes)) = some (some z, 1, by_)) (hz : z.cells.size = 1) (hby : by_ ≤ 1000)
    {ops : Array Oper} {rest : List Oper} {o : Oper} {a : Act} {Q : Exit → Act → World → Prop} {w0 : World} (hgd : o.guard = none) (s x : Operand)
    (ho : o.op = .call { callee := .builtin .append, args := #[s, x], argTypes := #[T, T] })
    (base : Nat) (v : Value) (l : List Value) (n : Value) (hn : n.oneCell' = true) (hs : a.eval s = v) (hown : OwnV e w0 base v l)
    (hx : a.eval x = .slice (some ⟨w0.heap.size, 0, none⟩) 1 1)
    (hbound : l.length ≤ 1000000000) (hbase : base ≤ w0.heap.size)
    (h : ∀ v' w', OwnV e w' base v' (l ++ [n]) → Below base w0 w' → Grew w0 w' v v' → wpList Tryd.prog ops Q rest (a.put o.dst v') w') :
    wpList Tryd.prog ops Q (o :: rest) a (w0.alloc (.cells #[n] e)) := by
  obtain ⟨i0, hi, hz0, hz1, hz2⟩ := info_parts hinfo
  have hcell : ∀ j u, [n][j]? = some u → (w0.alloc (.cells #[n] e)).cell? ((⟨w0.heap.size, 0, none⟩ : Addr).add j) = some u := by
    intro j u hj
    have e1 : (⟨w0.heap.size, 0, none⟩ : Addr).add j = ⟨w0.heap.size, j, none⟩ := by rw [Addr.add_lit]; simp
    rw [e1]
    unfold World.cell?
    rw [heap_alloc_new]
    simpa using hj
  have hb2 : (l.length + 1) * by_ ≤ 140737488355328 := by
    have : (l.length + 1) * by_ ≤ (1000000000 + 1) * 1000 := Nat.mul_le_mul (by omega) hby
    omega
  obtain ⟨v', w', hr, h2, h3⟩ := run_append_sep (P := Tryd.prog) (w0.alloc (.cells #[n] e)) base T o.type e i0 z 1 by_ hT hi hz0 hz1 hz2 hz (by decide) v l.length l (hown.alloc _)
    ⟨w0.heap.size, 0, none⟩ 1 1 [n] rfl hcell (by intro u hu; rw [List.mem_singleton.1 hu]; exact hn) (by unfold maxLen; omega) hb2 (by simp; omega)
  refine wpList_plain hgd fun K hK => ?_
  unfold Oper.wp execOp
  simp only [ho, resolve, invoke, builtin, Sem.run_bind, Sem.run_pure, Result.andThen_ok, List.map_toArray, List.map_cons, List.map_nil, hs, hx, hr]
  refine hK _ _ (h v' w' ?_ ?_ h3.alloc)
  · unfold OwnV
    rw [List.length_append]
    exact h2
  · refine (((Below.refl base w0).alloc hbase _).grown h3.grown (by simp; omega) ?_)
    intro k hk
    exact (hown.lt k hk).1
end Go.Proofs.YtphfcebacilbbaaDoor
namespace Go.Proofs.YtphfcebacilbbaaDoor
open Go.RowKit

/-- a table's cells -/
def TC (cls : Nat → Int) (rows : Int) (vn ve : Value) : List Value := (List.range 256).map (fun i => .int .u8 (cls i)) ++ [.int .i64 rows, vn, ve]
theorem TC_pre (cls : Nat → Int) : ((List.range 256).map (fun i => Value.int .u8 (cls i))).length = 256 := by rw [List.length_map, List.length_range]
theorem TC_rows (cls : Nat → Int) (rows : Int) (vn ve : Value) : (TC cls rows vn ve)[256]? = some (.int .i64 rows) := by
  unfold TC; rw [List.getElem?_append_right (by rw [TC_pre]; exact Nat.le_refl _), TC_pre]; rfl
theorem TC_next (cls : Nat → Int) (rows : Int) (vn ve : Value) : (TC cls rows vn ve)[257]? = some vn := by
  unfold TC; rw [List.getElem?_append_right (by rw [TC_pre]; decide), TC_pre]; rfl
theorem TC_ends (cls : Nat → Int) (rows : Int) (vn ve : Value) : (TC cls rows vn ve)[258]? = some ve := by
  unfold TC; rw [List.getElem?_append_right (by rw [TC_pre]; decide), TC_pre]; rfl
theorem TC_class (cls : Nat → Int) (rows : Int) (vn ve : Value) (i : Nat) (h : i < 256) : (TC cls rows vn ve)[i]? = some (.int .u8 (cls i)) := by
  unfold TC; rw [List.getElem?_append_left (by rw [TC_pre]; exact h), List.getElem?_map, List.getElem?_range h]; rfl
theorem TC_setRows (cls : Nat → Int) (rows r : Int) (vn ve : Value) : (TC cls rows vn ve).set 256 (.int .i64 r) = TC cls r vn ve := by
  unfold TC; rw [List.set_append_right _ _ (by rw [TC_pre]; exact Nat.le_refl _), TC_pre]; rfl
theorem TC_setNext (cls : Nat → Int) (rows : Int) (vn ve v : Value) : (TC cls rows vn ve).set 257 v = TC cls rows v ve := by
  unfold TC; rw [List.set_append_right _ _ (by rw [TC_pre]; decide), TC_pre]; rfl
theorem TC_setEnds (cls : Nat → Int) (rows : Int) (vn ve v : Value) : (TC cls rows vn ve).set 258 v = TC cls rows vn v := by
  unfold TC; rw [List.set_append_right _ _ (by rw [TC_pre]; decide), TC_pre]; rfl
theorem TC_setClass (cls cls' : Nat → Int) (rows : Int) (vn ve : Value) (i : Nat) (h : i < 256) (hc : ∀ j, j < 256 → j ≠ i → cls' j = cls j) : (TC cls rows vn ve).set i (.int .u8 (cls' i)) = TC cls' rows vn ve := by
  unfold TC
  rw [List.set_append_left _ _ (by rw [TC_pre]; exact h)]
  congr 1
  apply List.ext_getElem
  · simp
  · intro k h1 h2
    have hk : k < 256 := by simpa using h2
    rw [List.getElem_set]
    by_cases e : i = k
    · subst e; simp
    · rw [if_neg e]; simp [hc k hk (fun x => e x.symm)]
/-- a maker's cells -/
def KC (tv : Value) (fold slash : Bool) (most : Int) (gt : Nat) (vb : Value) (gs : Nat) (vt : Value) : List Value := [tv, .bool fold, .bool slash, .int .i64 most, .pointer (some ⟨gt, 0, none⟩), vb, .map (some gs), vt]
/-- a maker's block, its table's block, the map and the four slices -/
structure Mk0 (w : World) (base gm gt gs : Nat) (C T : List Value) (vb vt vn ve : Value) (bytes : List UInt8) (sets : List (List UInt8)) (ends : List Bool) (next : List Int) (n : Nat) (M : List UInt8 → Option Int) : Prop where
  kc : AtB w gm 72 C
  tb : AtB w gt 67 T
  ob : OwnV 5 w base vb (bytes.map bv)
  ot : OwnV 9 w base vt (sets.map sv)
  on : OwnV 21 w base vn (next.map (Value.int .i32))
  oe : OwnV 4 w base ve (ends.map Value.bool)
  sm : SMap 21 .i32 w gs n M
  lm : base ≤ gm
  lt : base ≤ gt
  ls : base ≤ gs
/-- a maker, its table, and all that they hold -/
abbrev Mk (w : World) (base gm gt gs : Nat) (tv : Value) (fold slash : Bool) (most : Int) (cls : Nat → Int) (rows : Int) (vb vt vn ve : Value) (bytes : List UInt8) (sets : List (List UInt8)) (ends : List Bool) (next : List Int) (M : List UInt8 → Option Int) : Prop :=
  Mk0 w base gm gt gs (KC tv fold slash most gt vb gs vt) (TC cls rows vn ve) vb vt vn ve bytes sets ends next sets.length M
/-- the sets are told by their numbers -/
structure IdxM (sets : List (List UInt8)) (M : List UInt8 → Option Int) : Prop where
  yes : ∀ (i : Nat) s, sets[i]? = some s → M s = some (i : Int)
  no : ∀ s, s ∉ sets → M s = none
section
variable {w w' : World} {base gm gt gs : Nat} {C T : List Value} {vb vt vn ve v' : Value} {bytes : List UInt8} {sets : List (List UInt8)} {ends : List Bool} {next : List Int} {n : Nat} {M : List UInt8 → Option Int}
theorem Mk0.same (h : Mk0 w base gm gt gs C T vb vt vn ve bytes sets ends next n M) (hb : Below w.heap.size w w') : Mk0 w' base gm gt gs C T vb vt vn ve bytes sets ends next n M :=
  ⟨h.kc.below hb, h.tb.below hb, h.ob.below hb (Nat.le_refl _), h.ot.below hb (Nat.le_refl _), h.on.below hb (Nat.le_refl _), h.oe.below hb (Nat.le_refl _), h.sm.below hb h.sm.lt, h.lm, h.lt, h.ls⟩
theorem Mk0.drew (h : Mk0 w base gm gt gs C T vb vt vn ve bytes sets ends next n M) : Mk0 w.drew base gm gt gs C T vb vt vn ve bytes sets ends next n M := h.same (Below.refl _ _).drew
theorem Mk0.alloc (h : Mk0 w base gm gt gs C T vb vt vn ve bytes sets ends next n M) (o : Obj) : Mk0 (w.alloc o) base gm gt gs C T vb vt vn ve bytes sets ends next n M := h.same ((Below.refl _ _).alloc (Nat.le_refl _) o)
/-- a slice's block is no map -/
theorem OwnV.notMap {e e2 : TypeId} {q : IntKind} {v : Value} {l : List Value} (h : OwnV e w base v l) (hs : SMap e2 q w gs n M) : v.ownBlock ≠ some gs := by
  rcases h.2 with ⟨rfl, _⟩ | ⟨g', cap', cur', rfl, hb', hg', _⟩
  · intro e; cases e
  · intro e
    simp only [Value.ownBlock, Option.some.injEq] at e
    subst e
    exact hs.noRow hg'
theorem AtB.notMap {t e2 : TypeId} {q : IntKind} {g : Nat} {D : List Value} (h : AtB w g t D) (hs : SMap e2 q w gs n M) : g ≠ gs := by
  intro e
  subst e
  exact hs.noRow h
/-- the map written -/
theorem Mk0.put {n' : Nat} {M' : List UInt8 → Option Int} (h : Mk0 w base gm gt gs C T vb vt vn ve bytes sets ends next n M) (hs : SMap 21 .i32 w' gs n' M') (hg : w.grownBy w' (some gs)) : Mk0 w' base gm gt gs C T vb vt vn ve bytes sets ends next n' M' :=
  ⟨grown_row hg h.kc (h.kc.notMap h.sm), grown_row hg h.tb (h.tb.notMap h.sm), World.ownsRow.kept h.ob hg (.inr (h.ob.notMap h.sm)), World.ownsRow.kept h.ot hg (.inr (h.ot.notMap h.sm)), World.ownsRow.kept h.on hg (.inr (h.on.notMap h.sm)), World.ownsRow.kept h.oe hg (.inr (h.oe.notMap h.sm)), hs, h.lm, h.lt, h.ls⟩
theorem SMap.grew {e e2 : TypeId} {q : IntKind} {v u : Value} {l : List Value} (hs : SMap e2 q w gs n M) (h : OwnV e w base v l) (hg : Grew w w' v u) : SMap e2 q w' gs n M := hs.same (block_kept hs.lt hg (fun x => h.notMap hs x.symm))
/-- an append on the ends -/
theorem Mk0.appE {ends' : List Bool} (h : Mk0 w base gm gt gs C T vb vt vn ve bytes sets ends next n M) (ho : OwnV 4 w' base v' (ends'.map Value.bool)) (hg : Grew w w' ve v') : Mk0 w' base gm gt gs C T vb vt vn v' bytes sets ends' next n M :=
  ⟨AtB.kept (by decide) h.kc h.oe hg, AtB.kept (by decide) h.tb h.oe hg, OwnV.kept (by decide) h.ob h.oe hg, OwnV.kept (by decide) h.ot h.oe hg, OwnV.kept (by decide) h.on h.oe hg, ho, h.sm.grew h.oe hg, h.lm, h.lt, h.ls⟩
/-- an append on the sets -/
theorem Mk0.appT {sets' : List (List UInt8)} (h : Mk0 w base gm gt gs C T vb vt vn ve bytes sets ends next n M) (ho : OwnV 9 w' base v' (sets'.map sv)) (hg : Grew w w' vt v') : Mk0 w' base gm gt gs C T vb v' vn ve bytes sets' ends next n M :=
  ⟨AtB.kept (by decide) h.kc h.ot hg, AtB.kept (by decide) h.tb h.ot hg, OwnV.kept (by decide) h.ob h.ot hg, ho, OwnV.kept (by decide) h.on h.ot hg, OwnV.kept (by decide) h.oe h.ot hg, h.sm.grew h.ot hg, h.lm, h.lt, h.ls⟩
/-- an append on the rows -/
theorem Mk0.appN {next' : List Int} (h : Mk0 w base gm gt gs C T vb vt vn ve bytes sets ends next n M) (ho : OwnV 21 w' base v' (next'.map (Value.int .i32))) (hg : Grew w w' vn v') : Mk0 w' base gm gt gs C T vb vt v' ve bytes sets ends next' n M :=
  ⟨AtB.kept (by decide) h.kc h.on hg, AtB.kept (by decide) h.tb h.on hg, OwnV.kept (by decide) h.ob h.on hg, OwnV.kept (by decide) h.ot h.on hg, ho, OwnV.kept (by decide) h.oe h.on hg, h.sm.grew h.on hg, h.lm, h.lt, h.ls⟩
/-- an append on the bytes -/
theorem Mk0.appB {bytes' : List UInt8} (h : Mk0 w base gm gt gs C T vb vt vn ve bytes sets ends next n M) (ho : OwnV 5 w' base v' (bytes'.map bv)) (hg : Grew w w' vb v') : Mk0 w' base gm gt gs C T v' vt vn ve bytes' sets ends next n M :=
  ⟨AtB.kept (by decide) h.kc h.ob hg, AtB.kept (by decide) h.tb h.ob hg, ho, OwnV.kept (by decide) h.ot h.ob hg, OwnV.kept (by decide) h.on h.ob hg, OwnV.kept (by decide) h.oe h.ob hg, h.sm.grew h.ob hg, h.lm, h.lt, h.ls⟩
theorem SMap.setAt {e2 t : TypeId} {q : IntKind} {g i : Nat} {x : Value} {D : List Value} (hs : SMap e2 q w gs n M) (h : AtB w g t D) : SMap e2 q (w.setCell ⟨g, i, none⟩ x) gs n M := hs.same (heap_setCell_other w ⟨g, i, none⟩ gs x (fun e => (h.notMap hs) (by simp at e; omega)))
theorem AtB.apart {g g2 : Nat} {t t2 : TypeId} {D D2 : List Value} (h : AtB w g t D) (h2 : AtB w g2 t2 D2) (hne : t ≠ t2) : g ≠ g2 := by
  intro e
  subst e
  unfold AtB at h h2
  rw [h] at h2
  injection h2 with h2
  injection h2 with _ h2
  exact hne h2
/-- a cell of the maker written -/
theorem Mk0.setC (h : Mk0 w base gm gt gs C T vb vt vn ve bytes sets ends next n M) (i : Nat) (x : Value) : Mk0 (w.setCell ⟨gm, i, none⟩ x) base gm gt gs (C.set i x) T vb vt vn ve bytes sets ends next n M :=
  ⟨h.kc.set i x, h.tb.setOther gm i x (h.kc.apart h.tb (by decide)), OwnV.setAt (by decide) h.ob h.kc, OwnV.setAt (by decide) h.ot h.kc, OwnV.setAt (by decide) h.on h.kc, OwnV.setAt (by decide) h.oe h.kc, h.sm.setAt h.kc, h.lm, h.lt, h.ls⟩
/-- a cell of the table written -/
theorem Mk0.setT (h : Mk0 w base gm gt gs C T vb vt vn ve bytes sets ends next n M) (i : Nat) (x : Value) : Mk0 (w.setCell ⟨gt, i, none⟩ x) base gm gt gs C (T.set i x) vb vt vn ve bytes sets ends next n M :=
  ⟨h.kc.setOther gt i x (fun e => h.kc.apart h.tb (by decide) e.symm), h.tb.set i x, OwnV.setAt (by decide) h.ob h.tb, OwnV.setAt (by decide) h.ot h.tb, OwnV.setAt (by decide) h.on h.tb, OwnV.setAt (by decide) h.oe h.tb, h.sm.setAt h.tb, h.lm, h.lt, h.ls⟩
end
/-- trimmed of noughts nothing is left just of a row of noughts -/
theorem trim_none (l : List UInt8) : Lib.trimB l 0 = [] ↔ ∀ c ∈ l, c = 0 := by
  have hd : ∀ r : List UInt8, r.dropWhile (· == 0) = [] ↔ ∀ c ∈ r, c = 0 := by
    intro r
    induction r with
    | nil => simp
    | cons a r ih =>
      by_cases ha : a = 0
      · subst ha
        rw [List.dropWhile_cons_of_pos (by rfl), ih]
        constructor
        · intro h c hc
          rcases List.mem_cons.1 hc with rfl | hc
          · rfl
          · exact h c hc
        · intro h c hc; exact h c (List.mem_cons_of_mem _ hc)
      · rw [List.dropWhile_cons_of_neg (by simpa using ha)]
        constructor
        · intro h; cases h
        · intro h; exact absurd (h a (List.mem_cons_self ..)) ha
  unfold Lib.trimB Lib.trimLeftB Lib.trimRightB
  rw [hd]
  constructor
  · intro h
    have h2 : l.reverse.dropWhile (· == 0) = [] := by
      cases hr : l.reverse.dropWhile (· == 0) with
      | nil => rfl
      | cons a r =>
        exfalso
        have ha : a = 0 := h a (by rw [hr]; simp)
        have := List.head?_dropWhile_not (· == 0) l.reverse
        rw [hr] at this
        simp at this
        exact this ha
    intro c hc
    exact (hd l.reverse).1 h2 c (List.mem_reverse.2 hc)
  · intro h c hc
    have h2 : l.reverse.dropWhile (· == 0) = [] := (hd l.reverse).2 (fun c hc => h c (List.mem_reverse.1 hc))
    rw [h2] at hc
    cases hc
theorem trim_call (l : List UInt8) (hl : l.length ≤ 1000000) (w : World) : Calls Tryd.prog 40 #[.string (S l), .string ⟨#[0]⟩] w fun e w' => e = .returned (.string (S (Lib.trimB l 0))) ∧ Below w.heap.size w w' := by
  refine (Go.Proofs.Tryd.strings_Trim_one (S l) 0 (by decide) w (by rw [S_size]; omega)).mono ?_
  rintro e w' ⟨rfl, hw⟩
  refine ⟨rfl, ?_⟩
  rcases hw with rfl | rfl
  · exact Below.refl _ _
  · exact (Below.refl _ _).drew
set_option maxRecDepth 100000 in
set_option maxHeartbeats 2000000 in
/-- a set of no place is no state -/
theorem state_zero (gm : Nat) (l : List UInt8) (hl : l.length ≤ 1000000) (h0 : ∀ c ∈ l, c = 0) (w : World) :
    Calls Tryd.prog 23 #[.pointer (some ⟨gm, 0, none⟩), .string (S l)] w fun e w' => e = .returned (.tuple #[.int .i32 (-1), .bool true]) ∧ Below w.heap.size w w' := by
  have HT := Lib.hid (trim_call l hl w)
  rw [(trim_none l).2 h0] at HT
  clear h0 hl
  go_enter Tryd.func23, Tryd.ntmps23
  go_wp2_with fail
  refine HT.out.mono ?_
  rintro e w1 ⟨rfl, hb1⟩
  go_wp2_with fail
  go_ret2
  exact ⟨rfl, hb1⟩
theorem zero_i32 (w : World) : (zeroValue 21).run Tryd.prog w = .ok (.int .i32 0) w := by kernel_rfl
end Go.Proofs.YtphfcebacilbbaaDoor
namespace Go.Proofs.YtphfcebacilbbaaDoor
open Go.RowKit

theorem ne_empty (l : List UInt8) (h : l ≠ []) : l.isEmpty = false := by
  cases l with
  | nil => exact absurd rfl h
  | cons a r => rfl
set_option maxRecDepth 100000 in
set_option maxHeartbeats 2000000 in
/-- a set that is told already -/
theorem state_old {base gm gt gs : Nat} {tv : Value} {fold slash : Bool} {most : Int} {cls : Nat → Int} {rows : Int} {vb vt vn ve : Value} {bytes : List UInt8} {sets : List (List UInt8)} {ends : List Bool} {next : List Int} {M : List UInt8 → Option Int}
    (l : List UInt8) (hl : l.length ≤ 1000000) (h0 : ¬ ∀ c ∈ l, c = 0) (x : Int) (hx : M l = some x) (w : World) (h : Mk w base gm gt gs tv fold slash most cls rows vb vt vn ve bytes sets ends next M) :
    Calls Tryd.prog 23 #[.pointer (some ⟨gm, 0, none⟩), .string (S l)] w fun e w' => e = .returned (.tuple #[.int .i32 x, .bool true]) ∧ Below w.heap.size w w' := by
  have HT := Lib.hid (trim_call l hl w)
  have hne := ne_empty (Lib.trimB l 0) (fun e => h0 ((trim_none l).1 e))
  have H := Lib.hid h
  have hlen : l.length ≤ 9223372036854775807 := by omega
  have HL := Lib.hid hlen
  generalize Lib.trimB l 0 = r at *
  clear h0 hl h hlen
  go_enter Tryd.func23, Tryd.ntmps23
  go_wp2_with fail
  refine HT.out.mono ?_
  rintro e w1 ⟨rfl, hb1⟩
  have h1 := H.out.same hb1
  have c6 : w1.cell? ⟨gm, 6, none⟩ = some (.map (some gs)) := h1.kc.cell 6
  obtain ⟨y, hy, hyx⟩ := h1.sm.look (t := 68) (by kernel_rfl) (by kernel_rfl) (zero_i32 w1) l HL.out
  have := hyx x hx
  subst this
  rw [hx] at hy
  have hy : (Instr.lookup 68 (.map (some gs)) (.string (S l)) true).run Tryd.prog w1 = .ok (.tuple #[.int .i32 y, .bool true]) w1 := hy
  have hB := Lib.hid hb1
  clear h1 H HT hyx hb1
  go_wp2_with fail
  go_ret2
  exact ⟨rfl, hB.out⟩
set_option maxRecDepth 100000 in
set_option maxHeartbeats 2000000 in
/-- a new set where as many as may be are told -/
theorem state_full {base gm gt gs : Nat} {tv : Value} {fold slash : Bool} {cls : Nat → Int} {rows : Int} {vb vt vn ve : Value} {bytes : List UInt8} {sets : List (List UInt8)} {ends : List Bool} {next : List Int} {M : List UInt8 → Option Int}
    (l : List UInt8) (hl : l.length ≤ 1000000) (h0 : ¬ ∀ c ∈ l, c = 0) (hx : M l = none) (w : World) (h : Mk w base gm gt gs tv fold slash (ends.length : Int) cls rows vb vt vn ve bytes sets ends next M) :
    Calls Tryd.prog 23 #[.pointer (some ⟨gm, 0, none⟩), .string (S l)] w fun e w' => e = .returned (.tuple #[.int .i32 0, .bool false]) ∧ Below w.heap.size w w' := by
  have HT := Lib.hid (trim_call l hl w)
  have hne := ne_empty (Lib.trimB l 0) (fun e => h0 ((trim_none l).1 e))
  have H := Lib.hid h
  have hlen : l.length ≤ 9223372036854775807 := by omega
  have HL := Lib.hid hlen
  obtain ⟨a, c, hs⟩ := h.oe.shape
  rw [List.length_map] at hs
  subst hs
  generalize Lib.trimB l 0 = r at *
  clear h0 hl h hlen
  go_enter Tryd.func23, Tryd.ntmps23
  go_wp2_with fail
  refine HT.out.mono ?_
  rintro e w1 ⟨rfl, hb1⟩
  have h1 := H.out.same hb1
  have c6 : w1.cell? ⟨gm, 6, none⟩ = some (.map (some gs)) := h1.kc.cell 6
  have c3 : w1.cell? ⟨gm, 3, none⟩ = some (.int .i64 (ends.length : Int)) := h1.kc.cell 3
  have c4 : w1.cell? ⟨gm, 4, none⟩ = some (.pointer (some ⟨gt, 0, none⟩)) := h1.kc.cell 4
  have t8 : w1.cell? ⟨gt, 258, none⟩ = some (.slice a ends.length c) := by rw [h1.tb.cell]; exact TC_ends ..
  obtain ⟨y, hy, _⟩ := h1.sm.look (t := 68) (by kernel_rfl) (by kernel_rfl) (zero_i32 w1) l HL.out
  rw [hx] at hy
  have hy : (Instr.lookup 68 (.map (some gs)) (.string (S l)) true).run Tryd.prog w1 = .ok (.tuple #[.int .i32 y, .bool false]) w1 := hy
  have hB := Lib.hid hb1
  clear h1 H HT hb1
  go_wp2_with fail
  go_region
  go_wp2_with fail
  go_ret2
  exact ⟨rfl, hB.out.drew⟩
end Go.Proofs.YtphfcebacilbbaaDoor
namespace Go.Proofs.YtphfcebacilbbaaDoor
open Go.RowKit

theorem step_app_v (T e : TypeId) (z : Value) (by_ : Nat) (hT : Tryd.prog.underlying T = some (.slice e)) (hinfo : (Tryd.prog.info? e).map (fun i => (i.zero, i.size, i.bytes)) = some (some z, 1, by_)) (hz : z.cells.size = 1) (hby : by_ ≤ 1000)
    {ops : Array Oper} {o : Oper} {a : Act} {K : Act → World → Prop} {Q : Exit → Act → World → Prop} {E : Prop} {w0 : World} (hgd : o.guard = none) (s x : Operand)
    (ho : o.op = .call { callee := .builtin .append, args := #[s, x], argTypes := #[T, T] })
    (base : Nat) (v : Value) (l : List Value) (n : Value) (hn : n.oneCell' = true) (hs : a.eval s = v) (hown : OwnV e w0 base v l)
    (g : Nat) (hx : a.eval x = .slice (some ⟨g, 0, none⟩) 1 1) (hc : w0.cell? ⟨g, 0, none⟩ = some n)
    (hbound : l.length ≤ 1000000000) (hbase : base ≤ w0.heap.size)
    (h : ∀ v' w', OwnV e w' base v' (l ++ [n]) → Below base w0 w' → Grew w0 w' v v' → K (a.put o.dst v') w') :
    if Region.wanted o (yielded ops a.tmps) = true then o.wp Tryd.prog a w0 K Q else E := by
  have hw : Region.wanted o (yielded ops a.tmps) = true := by simp [Region.wanted, hgd]
  rw [if_pos hw]
  obtain ⟨i0, hi, hz0, hz1, hz2⟩ := info_parts hinfo
  have hcell : ∀ j u, [n][j]? = some u → w0.cell? ((⟨g, 0, none⟩ : Addr).add j) = some u := by
    intro j u hj
    match j, hj with
    | 0, hj =>
      have e1 : (⟨g, 0, none⟩ : Addr).add 0 = ⟨g, 0, none⟩ := by rw [Addr.add_lit]
      rw [e1, hc]
      simpa using hj
  have hb2 : (l.length + 1) * by_ ≤ 140737488355328 := by
    have : (l.length + 1) * by_ ≤ (1000000000 + 1) * 1000 := Nat.mul_le_mul (by omega) hby
    omega
  obtain ⟨v', w', hr, h2, h3⟩ := run_append_sep (P := Tryd.prog) w0 base T o.type e i0 z 1 by_ hT hi hz0 hz1 hz2 hz (by decide) v l.length l hown
    ⟨g, 0, none⟩ 1 1 [n] rfl hcell (by intro u hu; rw [List.mem_singleton.1 hu]; exact hn) (by unfold maxLen; omega) hb2 hbase
  unfold Oper.wp execOp
  simp only [ho, resolve, invoke, builtin, Sem.run_bind, Sem.run_pure, Result.andThen_ok, List.map_toArray, List.map_cons, List.map_nil, hs, hx, hr]
  refine h v' w' ?_ ?_ h3
  · unfold OwnV
    rw [List.length_append]
    exact h2
  · refine (Below.refl base w0).grown h3.grown hbase ?_
    intro k hk
    exact (hown.lt k hk).1
end Go.Proofs.YtphfcebacilbbaaDoor
namespace Go.Proofs.YtphfcebacilbbaaDoor
open Go.RowKit

set_option maxRecDepth 100000 in
set_option maxHeartbeats 4000000 in
theorem state_new {base gm gt gs : Nat} {fold slash : Bool} {most : Int} {cls : Nat → Int} {rows : Int} {vb vt vn ve : Value} {bytes : List UInt8} {sets : List (List UInt8)} {ends : List Bool} {next : List Int} {M : List UInt8 → Option Int} (ta : Option Addr) (tc nt : Nat)
    (l : List UInt8) (hl : l.length ≤ 1000000) (h0 : ¬ ∀ c ∈ l, c = 0) (hx : M l = none) (hm : ((ends.length : Int) == most) = false) (hnt : nt ≤ 2000) (hnl : nt / 8 < l.length) (he : ends.length = sets.length) (hs2 : sets.length < 100000) (w : World) (hbase : base ≤ w.heap.size) (h : Mk w base gm gt gs (.slice ta nt tc) fold slash most cls rows vb vt vn ve bytes sets ends next M) :
    Calls Tryd.prog 23 #[.pointer (some ⟨gm, 0, none⟩), .string (S l)] w fun e w' => e = .returned (.tuple #[.int .i32 (ends.length : Int), .bool true]) ∧ Below base w w' ∧
      ∃ vt' ve', Mk w' base gm gt gs (.slice ta nt tc) fold slash most cls rows vb vt' vn ve' bytes (sets ++ [l]) (ends ++ [bitL l nt]) next (fun r => if r = l then some (ends.length : Int) else M r) := by
  have HT := Lib.hid (trim_call l hl w)
  have hne := ne_empty (Lib.trimB l 0) (fun e => h0 ((trim_none l).1 e))
  have H := Lib.hid h
  have hlen : l.length ≤ 9223372036854775807 := by omega
  have HL := Lib.hid hlen
  have HX := Lib.hid hx
  have HB := Lib.hid hbase
  obtain ⟨a, c, hs⟩ := h.oe.shape
  obtain ⟨a2, c2, hs'⟩ := h.ot.shape
  rw [List.length_map] at hs hs'
  subst hs hs'
  generalize Lib.trimB l 0 = r at *
  obtain ⟨x, hxx⟩ : ∃ x, x = l.getD (nt / 8) 0 := ⟨_, rfl⟩
  obtain ⟨j, hj⟩ : ∃ j, j = nt / 8 := ⟨_, rfl⟩
  obtain ⟨k, hr⟩ : ∃ r, r = nt % 8 := ⟨_, rfl⟩
  have hjl : j < (S l).size := by rw [S_size, hj]; exact hnl
  have hidx : (S l)[j]'hjl = x := by
    rw [S_get, hxx, ← hj, List.getD_eq_getElem?_getD, List.getElem?_eq_getElem (by rw [S_size] at hjl; exact hjl)]; rfl
  have e8 : (nt : Int) / 8 = (j : Int) := by omega
  have e7 : bits .and .i64 (nt : Int) 7 = (k : Int) := by rw [i64_and7 nt (by omega)]; omega
  have hjI : (j : Int) < (l.length : Int) := by rw [S_size] at hjl; omega
  have hr7 : (k : Int) ≤ 7 := by omega
  have hbt : (bits .and .u8 ((x.toNat : Int) / 2 ^ k) 1 == 1) = bitL l nt := by rw [u8_bit]; unfold bitL; rw [hxx, hr]
  have heI : (ends.length : Int) < 100000 := by omega
  have HE := Lib.hid he
  have HS2 := Lib.hid hs2
  generalize bitL l nt = bt at *
  clear hxx hj hr h0 hl h hlen hx hnt hnl hbase he hs2
  go_enter Tryd.func23, Tryd.ntmps23
  go_wp2_with fail
  refine HT.out.mono ?_
  rintro e w1 ⟨rfl, hb1⟩
  have h1 := H.out.same hb1
  have c6 : w1.cell? ⟨gm, 6, none⟩ = some (.map (some gs)) := h1.kc.cell 6
  have c3 : w1.cell? ⟨gm, 3, none⟩ = some (.int .i64 most) := h1.kc.cell 3
  have c4 : w1.cell? ⟨gm, 4, none⟩ = some (.pointer (some ⟨gt, 0, none⟩)) := h1.kc.cell 4
  have c0 : w1.cell? ⟨gm, 0, none⟩ = some (.slice ta nt tc) := h1.kc.cell 0
  have t8 : w1.cell? ⟨gt, 258, none⟩ = some (.slice a ends.length c) := by rw [h1.tb.cell]; exact TC_ends ..
  obtain ⟨y, hy, _⟩ := h1.sm.look (t := 68) (by kernel_rfl) (by kernel_rfl) (zero_i32 w1) l HL.out
  rw [HX.out] at hy
  have hy : (Instr.lookup 68 (.map (some gs)) (.string (S l)) true).run Tryd.prog w1 = .ok (.tuple #[.int .i32 y, .bool false]) w1 := hy
  have hB := Lib.hid hb1
  have HH := Lib.hid h1
  clear h1 H HT hb1
  go_wp2_with fail
  go_region
  go_upto_region 10 with (fail)
  have hB := Lib.hid hB.out.drew
  have HH := Lib.hid HH.out.drew
  have hne2 : gm ≠ gs := HH.out.kc.notMap HH.out.sm
  obtain ⟨W2, hrun, hsm, hgr⟩ := HH.out.sm.put (t := 68) (by kernel_rfl) (by kernel_rfl) (by have := HS2.out; omega) l HL.out (ends.length : Int) (by have h1 : IntKind.i32.min = -2147483648 := rfl; have h2 : IntKind.i32.max = 2147483647 := rfl; simp [Lit.wf, h1, h2]; omega) HX.out
  have HM2 := Lib.hid (HH.out.put hsm hgr)
  have hB2 : Hid (Below base w W2) := Lib.hid ((hB.out.mono HB.out).grown hgr (Nat.le_trans HB.out hB.out.size) (fun k hk => by injection hk with hk; rw [← hk]; exact HH.out.ls))
  have c6 : w1.drew.cell? ⟨gm, 6, none⟩ = some (.map (some gs)) := c6
  clear hsm hgr c0 c3 c4 t8 hy HX
  generalize w1.drew = W1 at *
  go_upto_region 11 with (fail)
  have c4 : W2.cell? ⟨gm, 4, none⟩ = some (.pointer (some ⟨gt, 0, none⟩)) := HM2.out.kc.cell 4
  have t8 : W2.cell? ⟨gt, 258, none⟩ = some (.slice a ends.length c) := by rw [HM2.out.tb.cell]; exact TC_ends ..
  clear c6 hrun HH hB
  have hne3 : W2.heap.size ≠ gt := by have := HM2.out.tb.lt; omega
  have lB : base ≤ W2.heap.size := Nat.le_trans HB.out (Nat.le_trans (by have := hB2.out.size; omega) (Nat.le_refl _))
  have HMA := Lib.hid HM2.out.alloc
  have HBA := Lib.hid (fun o => hB2.out.alloc lB o)
  have c4a : (W2.alloc (.cells #[.bool bt] 4)).cell? ⟨gm, 4, none⟩ = some (.pointer (some ⟨gt, 0, none⟩)) := (HMA.out _).kc.cell 4
  have t8a : (W2.alloc (.cells #[.bool bt] 4)).cell? ⟨gt, 258, none⟩ = some (.slice a ends.length c) := by rw [(HMA.out _).tb.cell]; exact TC_ends ..
  have hl9 : (ends.map Value.bool ++ [Value.bool bt]).length = ends.length + 1 := by simp
  have HL9 := Lib.hid hl9
  clear hl9
  go_cut [8] (fun v8 wx => v8 = .int .i32 (ends.length : Int) ∧ ∃ a' c', Mk0 wx base gm gt gs (KC (.slice ta nt tc) fold slash most gt vb gs (.slice a2 sets.length c2)) (TC cls rows vn (.slice a' (ends.length + 1) c')) vb (.slice a2 sets.length c2) vn (.slice a' (ends.length + 1) c') bytes sets (ends ++ [bt]) next (sets.length + 1) (fun r => if r = l then some (ends.length : Int) else M r) ∧ Below base w wx)
  case first =>
    go_region_law (refine step_app_v 65 4 (.bool false) 1 Tryd.underlying65 info_bool rfl (by decide) rfl _ _ rfl base _ (ends.map Value.bool) (.bool bt) rfl rfl (by first | exact (HMA.out _).oe.drew | exact (HMA.out _).oe) _ rfl (by go_simp) (by rw [List.length_map]; have := HS2.out; have := HE.out; omega) (by simp; omega) ?_; intro v' w' hO hb hG; obtain ⟨a', c', hv'⟩ := hO.shape; rw [HL9.out] at hv'; subst hv'; have mm := Lib.hid ((show Mk0 _ base gm gt gs _ _ _ _ _ _ _ _ _ _ _ _ by first | exact (HMA.out _).drew | exact HMA.out _).appE (ends' := ends ++ [bt]) (by rw [List.map_append]; exact hO) hG); have f8 : w'.frozen? ⟨gt, 258, none⟩ = false := mm.out.tb.fz 258; have k8 : w'.cell? ⟨gt, 258, none⟩ = some (.slice a ends.length c) := (by rw [mm.out.tb.cell]; exact TC_ends ..); have k4 : w'.cell? ⟨gm, 4, none⟩ = some (.pointer (some ⟨gt, 0, none⟩)) := mm.out.kc.cell 4; have hbb := Lib.hid hb)
    all_goals go_wp2_with fail
    all_goals go_meet
    all_goals
      refine ⟨rfl, a', c', ?_, ?_⟩
      · have := mm.out.setT 258 (.slice a' (ends.length + 1) c')
        rw [TC_setEnds] at this
        exact this
      · have z : Below base w w' := by first | exact (HBA.out _).trans hbb.out | exact (HBA.out _).drew.trans hbb.out
        exact below_set z mm.out.lt
  case rest =>
    obtain ⟨rfl, a', c', m3, b3⟩ := hcut
    have HM3 := Lib.hid m3
    have HB3 := Lib.hid b3
    have lB3 : base ≤ wc.heap.size := by have := m3.kc.lt; have := m3.lm; omega
    have d7 : wc.cell? ⟨gm, 7, none⟩ = some (.slice a2 sets.length c2) := m3.kc.cell 7
    have HL9 : Hid ((sets.map sv ++ [Value.string (S l)]).length = sets.length + 1) := Lib.hid (by simp)
    clear m3 b3 c4 t8 c4a t8a HMA HBA hidx hjl hjI hr7 e7 e8 hbt heI hm hne lB hy
    go_wp2_with (at_builtin; refine app_v 70 9 (.string ⟨#[]⟩) 16 Tryd.underlying70 info_str rfl (by decide) rfl (.tmp 85) (.tmp 87) rfl base (.slice a2 sets.length c2) (sets.map sv) (.string (S l)) rfl rfl HM3.out.ot rfl (by rw [List.length_map]; have := HS2.out; omega) lB3 ?_; intro v' w' hO hb hG; obtain ⟨a3, c3, hv'⟩ := hO.shape; rw [HL9.out] at hv'; subst hv'; have mm := Lib.hid (HM3.out.appT (sets' := sets ++ [l]) (by rw [List.map_append]; exact hO) hG); have f7 : w'.frozen? ⟨gm, 7, none⟩ = false := mm.out.kc.fz 7; have k7 : w'.cell? ⟨gm, 7, none⟩ = some (.slice a2 sets.length c2) := mm.out.kc.cell 7; have hbb := Lib.hid hb)
    go_ret2
    refine ⟨rfl, below_set (HB3.out.trans hbb.out) mm.out.lm, .slice a3 (sets.length + 1) c3, .slice a' (ends.length + 1) c', ?_⟩
    have := mm.out.setC 7 (.slice a3 (sets.length + 1) c3)
    unfold Mk
    rw [List.length_append]
    exact this
end Go.Proofs.YtphfcebacilbbaaDoor
namespace Go.Proofs.YtphfcebacilbbaaDoor
open Go.RowKit

/-- what maker.state answers, and what it leaves of the sets and of the ends -/
def StateR (most : Int) (nt : Nat) (sets : List (List UInt8)) (ends : List Bool) (l : List UInt8) (x : Int) (ok : Bool) (sets' : List (List UInt8)) (ends' : List Bool) : Prop :=
  ((∀ c ∈ l, c = 0) ∧ x = -1 ∧ ok = true ∧ sets' = sets ∧ ends' = ends) ∨
  ((¬ ∀ c ∈ l, c = 0) ∧ (∃ i : Nat, sets[i]? = some l ∧ x = (i : Int)) ∧ ok = true ∧ sets' = sets ∧ ends' = ends) ∨
  ((¬ ∀ c ∈ l, c = 0) ∧ l ∉ sets ∧ (ends.length : Int) = most ∧ x = 0 ∧ ok = false ∧ sets' = sets ∧ ends' = ends) ∨
  ((¬ ∀ c ∈ l, c = 0) ∧ l ∉ sets ∧ (ends.length : Int) ≠ most ∧ x = (ends.length : Int) ∧ ok = true ∧ sets' = sets ++ [l] ∧ ends' = ends ++ [bitL l nt])
theorem IdxM.add {sets : List (List UInt8)} {M : List UInt8 → Option Int} (h : IdxM sets M) (l : List UInt8) (hl : l ∉ sets) (n : Nat) (hn : n = sets.length) : IdxM (sets ++ [l]) (fun r => if r = l then some (n : Int) else M r) := by
  subst hn
  refine ⟨fun i s hs => ?_, fun s hs => ?_⟩
  · rcases Nat.lt_or_ge i sets.length with hi | hi
    · rw [List.getElem?_append_left hi] at hs
      have hm : s ∈ sets := List.mem_of_getElem? hs
      have hne : s ≠ l := fun e => hl (e ▸ hm)
      simp only [if_neg hne]
      exact h.yes i s hs
    · rw [List.getElem?_append_right hi] at hs
      rcases Nat.eq_zero_or_pos (i - sets.length) with h0 | h0
      · rw [h0] at hs
        have e : l = s := by simpa using hs
        subst e
        have : i = sets.length := by omega
        simp [this]
      · rw [List.getElem?_eq_none (by simp; omega)] at hs
        cases hs
  · have hne : s ≠ l := fun e => hs (by rw [e]; simp)
    simp only [if_neg hne]
    exact h.no s (fun hm => hs (List.mem_append_left _ hm))
theorem state_any {base gm gt gs : Nat} {fold slash : Bool} {most : Int} {cls : Nat → Int} {rows : Int} {vb vt vn ve : Value} {bytes : List UInt8} {sets : List (List UInt8)} {ends : List Bool} {next : List Int} {M : List UInt8 → Option Int} (ta : Option Addr) (tc nt : Nat)
    (l : List UInt8) (hl : l.length ≤ 1000000) (hi : IdxM sets M) (hnt : nt ≤ 2000) (hnl : nt / 8 < l.length) (he : ends.length = sets.length) (hs2 : sets.length < 100000) (w : World) (hbase : base ≤ w.heap.size) (h : Mk w base gm gt gs (.slice ta nt tc) fold slash most cls rows vb vt vn ve bytes sets ends next M) :
    Calls Tryd.prog 23 #[.pointer (some ⟨gm, 0, none⟩), .string (S l)] w fun e w' => ∃ x ok vt' ve' sets' ends' M', e = .returned (.tuple #[.int .i32 x, .bool ok]) ∧ Below base w w' ∧
      Mk w' base gm gt gs (.slice ta nt tc) fold slash most cls rows vb vt' vn ve' bytes sets' ends' next M' ∧ IdxM sets' M' ∧ ends'.length = sets'.length ∧ StateR most nt sets ends l x ok sets' ends' := by
  by_cases h0 : ∀ c ∈ l, c = 0
  · refine (state_zero gm l hl h0 w).mono ?_
    rintro e w' ⟨rfl, hb⟩
    exact ⟨-1, true, vt, ve, sets, ends, M, rfl, hb.mono hbase, Mk0.same h hb, hi, he, .inl ⟨h0, rfl, rfl, rfl, rfl⟩⟩
  · cases hM : M l with
    | some x =>
      have hm : l ∈ sets := by
        by_cases hm : l ∈ sets
        · exact hm
        · rw [hi.no l hm] at hM; cases hM
      obtain ⟨i, hi2⟩ := List.getElem?_of_mem hm
      have hxi : x = (i : Int) := by have := hi.yes i l hi2; rw [hM] at this; injection this
      refine (state_old l hl h0 x hM w h).mono ?_
      rintro e w' ⟨rfl, hb⟩
      exact ⟨x, true, vt, ve, sets, ends, M, rfl, hb.mono hbase, Mk0.same h hb, hi, he, .inr (.inl ⟨h0, ⟨i, hi2, hxi⟩, rfl, rfl, rfl⟩)⟩
    | none =>
      have hm : l ∉ sets := by
        intro hm
        obtain ⟨i, hi2⟩ := List.getElem?_of_mem hm
        rw [hi.yes i l hi2] at hM
        cases hM
      by_cases hq : (ends.length : Int) = most
      · subst hq
        refine (state_full l hl h0 hM w h).mono ?_
        rintro e w' ⟨rfl, hb⟩
        exact ⟨0, false, vt, ve, sets, ends, M, rfl, hb.mono hbase, Mk0.same h hb, hi, he, .inr (.inr (.inl ⟨h0, hm, rfl, rfl, rfl, rfl, rfl⟩))⟩
      · refine (state_new ta tc nt l hl h0 hM (by simpa using hq) hnt hnl he hs2 w hbase h).mono ?_
        rintro e w' ⟨rfl, hb, vt', ve', hk⟩
        exact ⟨_, true, vt', ve', sets ++ [l], ends ++ [bitL l nt], _, rfl, hb, hk, hi.add l hm _ he, by simp [he], .inr (.inr (.inr ⟨h0, hm, hq, rfl, rfl, rfl, rfl⟩))⟩
end Go.Proofs.YtphfcebacilbbaaDoor
namespace Go.Proofs.YtphfcebacilbbaaDoor
open Go.RowKit

/-- which tokens take the byte, and whether it is the slash -/
def sgnL (fold slash : Bool) (toks : List Tk) (b : UInt8) : List UInt8 := toks.map (fun t => if oneG fold slash t b then 1 else 0) ++ [if b = 47 then 1 else 0]
theorem sgn_len (fold slash : Bool) (toks : List Tk) (b : UInt8) : (sgnL fold slash toks b).length = toks.length + 1 := by simp [sgnL]
theorem sgn_one (fold slash : Bool) (toks : List Tk) (b c : UInt8) (h : sgnL fold slash toks b = sgnL fold slash toks c) (i : Nat) (hi : i < toks.length) : oneG fold slash toks[i] b = oneG fold slash toks[i] c := by
  have e := congrArg (fun x => x[i]?) h
  unfold sgnL at e
  rw [List.getElem?_append_left (by simpa using hi), List.getElem?_append_left (by simpa using hi), List.getElem?_map, List.getElem?_map, List.getElem?_eq_getElem hi] at e
  simp only [Option.map_some, Option.some.injEq] at e
  cases h1 : oneG fold slash toks[i] b <;> cases h2 : oneG fold slash toks[i] c <;> rw [h1, h2] at e <;> first | rfl | (simp at e)
theorem sgn_slash (fold slash : Bool) (toks : List Tk) (b c : UInt8) (h : sgnL fold slash toks b = sgnL fold slash toks c) : (b = 47) ↔ (c = 47) := by
  have e := congrArg (fun x => x[toks.length]?) h
  unfold sgnL at e
  rw [List.getElem?_append_right (by simp), List.getElem?_append_right (by simp)] at e
  simp only [List.length_map, Nat.sub_self, List.getElem?_cons_zero, Option.some.injEq] at e
  by_cases h1 : b = 47 <;> by_cases h2 : c = 47 <;> simp [h1, h2] at e ⊢
/-- bytes of one class lead every set to one set -/
theorem sgn_same (fold slash : Bool) (toks : List Tk) (b c : UInt8) (h : sgnL fold slash toks b = sgnL fold slash toks c) (l : List UInt8) : stepL (freeG slash) (gts fold slash toks) b l = stepL (freeG slash) (gts fold slash toks) c l := by
  apply step_same
  · have := sgn_slash fold slash toks b c h
    by_cases h1 : b = 47
    · rw [h1, this.1 h1]
    · have h2 : c ≠ 47 := fun e => h1 (this.2 e)
      rcases free_cases slash b with ⟨hf, hs⟩ | ⟨hf, hs, hb⟩ | ⟨hf, hs, hb⟩ <;> rcases free_cases slash c with ⟨hf2, hs2⟩ | ⟨hf2, hs2, hb2⟩ | ⟨hf2, hs2, hb2⟩
      · rw [hf, hf2]
      · rw [hf, hf2]
      · rw [hs] at hs2; cases hs2
      · rw [hf, hf2]
      · rw [hf, hf2]
      · exact absurd (by have := byte_bne c 47 47 rfl h2; rw [hb2] at this; cases this) id
      · rw [hs] at hs2; cases hs2
      · exact absurd (by have := byte_bne b 47 47 rfl h1; rw [hb] at this; cases this) id
      · rw [hf, hf2]
  · intro i hi _
    rw [gts_len] at hi
    rw [tells_one _ _ _ _ hi, tells_one _ _ _ _ hi]
    exact sgn_one fold slash toks b c h i hi
/-- the classes of the first k bytes: who stands for each, and each byte's class -/
structure ClsR (sg : UInt8 → List UInt8) (k : Nat) (bytes : List UInt8) (cls : Nat → Int) (M : List UInt8 → Option Int) : Prop where
  idx : IdxM (bytes.map sg) M
  all : ∀ c, c < k → ∃ i : Nat, (bytes.map sg)[i]? = some (sg (UInt8.ofNat c)) ∧ cls c = (i : Int)
  few : bytes.length ≤ k
  pos : 0 < k → 0 < bytes.length
theorem ClsR.start (sg : UInt8 → List UInt8) (cls : Nat → Int) : ClsR sg 0 [] cls (fun _ => none) :=
  ⟨⟨fun i s h => by simp at h, fun _ _ => rfl⟩, fun c hc => absurd hc (Nat.not_lt_zero _), Nat.le_refl _, fun h => absurd h (Nat.lt_irrefl _)⟩
/-- a byte of a class that is known -/
theorem ClsR.old {sg : UInt8 → List UInt8} {k : Nat} {bytes : List UInt8} {cls : Nat → Int} {M : List UInt8 → Option Int} (h : ClsR sg k bytes cls M) (x : Int) (hx : M (sg (UInt8.ofNat k)) = some x) : ClsR sg (k + 1) bytes (fun c => if c = k then x else cls c) M := by
  have hm : sg (UInt8.ofNat k) ∈ bytes.map sg := by
    by_cases hm : sg (UInt8.ofNat k) ∈ bytes.map sg
    · exact hm
    · rw [h.idx.no _ hm] at hx; cases hx
  obtain ⟨i, hi⟩ := List.getElem?_of_mem hm
  have hxi : x = (i : Int) := by have := h.idx.yes i _ hi; rw [hx] at this; injection this
  refine ⟨h.idx, fun c hc => ?_, Nat.le_succ_of_le h.few, fun _ => ?_⟩
  · by_cases e : c = k
    · subst e; exact ⟨i, hi, by simp [hxi]⟩
    · simp only [if_neg e]; exact h.all c (by omega)
  · have := List.getElem?_eq_some_iff.1 hi
    obtain ⟨h1, _⟩ := this
    rw [List.length_map] at h1
    omega
/-- a byte of a new class -/
theorem ClsR.new {sg : UInt8 → List UInt8} {k : Nat} {bytes : List UInt8} {cls : Nat → Int} {M : List UInt8 → Option Int} (h : ClsR sg k bytes cls M) (hx : M (sg (UInt8.ofNat k)) = none) : ClsR sg (k + 1) (bytes ++ [UInt8.ofNat k]) (fun c => if c = k then (bytes.length : Int) else cls c) (fun r => if r = sg (UInt8.ofNat k) then some (bytes.length : Int) else M r) := by
  have hm : sg (UInt8.ofNat k) ∉ bytes.map sg := by
    intro hm
    obtain ⟨i, hi⟩ := List.getElem?_of_mem hm
    rw [h.idx.yes i _ hi] at hx
    cases hx
  have hid : IdxM ((bytes ++ [UInt8.ofNat k]).map sg) (fun r => if r = sg (UInt8.ofNat k) then some (bytes.length : Int) else M r) := by
    refine ⟨fun i s hs => ?_, fun s hs => ?_⟩
    · rw [List.map_append] at hs
      rcases Nat.lt_or_ge i (bytes.map sg).length with hi | hi
      · rw [List.getElem?_append_left hi] at hs
        have hm2 : s ∈ bytes.map sg := List.mem_of_getElem? hs
        have hne : s ≠ sg (UInt8.ofNat k) := fun e => hm (e ▸ hm2)
        simp only [if_neg hne]
        exact h.idx.yes i s hs
      · rw [List.getElem?_append_right hi] at hs
        rcases Nat.eq_zero_or_pos (i - (bytes.map sg).length) with h0 | h0
        · rw [h0] at hs
          have e : sg (UInt8.ofNat k) = s := by simpa using hs
          have : i = bytes.length := by rw [List.length_map] at hi h0; omega
          simp [← e, this]
        · rw [List.getElem?_eq_none (by simp only [List.map_cons, List.map_nil, List.length_cons, List.length_nil]; omega)] at hs
          cases hs
    · rw [List.map_append] at hs
      have hne : s ≠ sg (UInt8.ofNat k) := fun e => hs (by rw [e]; simp)
      simp only [if_neg hne]
      exact h.idx.no s (fun hm => hs (List.mem_append_left _ hm))
  refine ⟨hid, fun c hc => ?_, by rw [List.length_append]; have := h.few; simp; omega, fun _ => by simp⟩
  by_cases e : c = k
  · subst e
    refine ⟨bytes.length, ?_, by simp⟩
    rw [List.map_append, List.getElem?_append_right (by simp)]
    simp
  · simp only [if_neg e]
    obtain ⟨i, hi, hc2⟩ := h.all c (by omega)
    refine ⟨i, ?_, hc2⟩
    rw [List.map_append, List.getElem?_append_left (List.getElem?_eq_some_iff.1 hi).1]
    exact hi
/-- the signs while they are written: the first i tokens looked at -/
def mrkK (fold slash : Bool) (toks : List Tk) (b : UInt8) (i : Nat) : List UInt8 := (toks.take i).map (fun t => if oneG fold slash t b then 1 else 0) ++ List.replicate (toks.length - i + 1) 0
theorem mrk_zero (fold slash : Bool) (toks : List Tk) (b : UInt8) : mrkK fold slash toks b 0 = List.replicate (toks.length + 1) 0 := by simp [mrkK]
theorem mrk_len (fold slash : Bool) (toks : List Tk) (b : UInt8) (i : Nat) (h : i ≤ toks.length) : (mrkK fold slash toks b i).length = toks.length + 1 := by
  unfold mrkK
  rw [List.length_append, List.length_map, List.length_take, List.length_replicate]
  omega
theorem mrk_step (fold slash : Bool) (toks : List Tk) (b : UInt8) (i : Nat) (h : i < toks.length) : mrkK fold slash toks b (i + 1) = if oneG fold slash toks[i] b then (mrkK fold slash toks b i).set i 1 else mrkK fold slash toks b i := by
  have e : toks.length - i + 1 = (toks.length - (i + 1) + 1) + 1 := by omega
  have hl : ((toks.take i).map (fun t => if oneG fold slash t b then (1 : UInt8) else 0)).length = i := by rw [List.length_map, List.length_take]; omega
  unfold mrkK
  rw [List.take_succ_eq_append_getElem h, List.map_append, e, List.replicate_succ, List.append_assoc]
  cases hb : oneG fold slash toks[i] b
  · simp [hb]
    rfl
  · rw [if_pos rfl, List.set_append_right _ _ (by omega), hl, Nat.sub_self]
    simp [hb]
    rfl
theorem mrk_end (fold slash : Bool) (toks : List Tk) (b : UInt8) : sgnL fold slash toks b = if b = 47 then (mrkK fold slash toks b toks.length).set toks.length 1 else mrkK fold slash toks b toks.length := by
  have hl : (toks.map (fun t => if oneG fold slash t b then (1 : UInt8) else 0)).length = toks.length := by rw [List.length_map]
  unfold mrkK sgnL
  rw [List.take_length, Nat.sub_self]
  by_cases h : b = 47
  · rw [if_pos h, if_pos h, List.set_append_right _ _ (by omega), hl, Nat.sub_self]
    rfl
  · rw [if_neg h, if_neg h]
    rfl
end Go.Proofs.YtphfcebacilbbaaDoor
namespace Go.Proofs.YtphfcebacilbbaaDoor
open Go.RowKit
attribute [local irreducible] wordP

theorem Mk0.other {w w' : World} {base gm gt gs row n2 : Nat} {e2 : TypeId} {q2 : IntKind} {C T : List Value} {vb vt vn ve : Value} {bytes : List UInt8} {sets : List (List UInt8)} {ends : List Bool} {next : List Int} {n : Nat} {M M2 : List UInt8 → Option Int} (h : Mk0 w base gm gt gs C T vb vt vn ve bytes sets ends next n M) (hg : w.grownBy w' (some row)) (hs : SMap e2 q2 w row n2 M2) (hne : gs ≠ row) : Mk0 w' base gm gt gs C T vb vt vn ve bytes sets ends next n M :=
  ⟨grown_row hg h.kc (h.kc.notMap hs), grown_row hg h.tb (h.tb.notMap hs), World.ownsRow.kept h.ob hg (.inr (h.ob.notMap hs)), World.ownsRow.kept h.ot hg (.inr (h.ot.notMap hs)), World.ownsRow.kept h.on hg (.inr (h.on.notMap hs)), World.ownsRow.kept h.oe hg (.inr (h.oe.notMap hs)), h.sm.same (hg.block gs h.sm.lt (fun e => hne (by injection e))), h.lm, h.lt, h.ls⟩
theorem zero_u8 (w : World) : (zeroValue 5).run Tryd.prog w = .ok (.int .u8 0) w := by kernel_rfl
set_option maxRecDepth 100000 in
set_option maxHeartbeats 4000000 in
theorem split_any {base gm gt gs : Nat} {fold slash : Bool} {most : Int} {cls : Nat → Int} {rows : Int} {vt vn ve : Value} {sets : List (List UInt8)} {ends : List Bool} {next : List Int} {n : Nat} {M : List UInt8 → Option Int} (toks : List Tk) (ta : Option Addr) (tc : Nat) (vb : Value)
    (hn : toks.length ≤ 2000) (w : World) (hbase : base ≤ w.heap.size) (hv : ∀ W, Below base w W → RowsV Tk.cells 6 W (.slice ta toks.length tc) toks)
    (h : Mk0 w base gm gt gs (KC (.slice ta toks.length tc) fold slash most gt vb gs vt) (TC cls rows vn ve) vb vt vn ve [] sets ends next n M) :
    Calls Tryd.prog 22 #[.pointer (some ⟨gm, 0, none⟩)] w fun e w' => e = .returned (.tuple #[]) ∧ Below base w w' ∧ ∃ vb' cls' bytes M',
      Mk0 w' base gm gt gs (KC (.slice ta toks.length tc) fold slash most gt vb' gs vt) (TC cls' (bytes.length : Int) vn ve) vb' vt vn ve bytes sets ends next n M ∧ ClsR (sgnL fold slash toks) 256 bytes cls' M' := by
  have HV := Lib.hid hv
  have HM0 := Lib.hid (h.alloc (.map #[] 0))
  have HS0 := Lib.hid (SMap.made 5 .u8 w)
  have HB0 := Lib.hid ((Below.refl base w).alloc hbase (.map #[] 0))
  have HBASE := Lib.hid hbase
  have HGS := Lib.hid h.sm.lt
  have hmm := @run_makeMap Tryd.prog
  have hmk : ∀ W, (Instr.makeSlice 69 (.int .i64 ((toks.length : Int) + 1)) (.int .i64 ((toks.length : Int) + 1))).run Tryd.prog W = .ok (.slice (some ⟨W.heap.size, 0, none⟩) (toks.length + 1) (toks.length + 1)) (W.alloc (.cells (zerosA (toks.length + 1)) 5)) := fun W => mk_bytes (toks.length + 1) (toks.length + 1) (Nat.le_refl _) (by omega) W
  have hnI : (toks.length : Int) ≤ 2000 := by omega
  have HN := Lib.hid hn
  clear hv h hbase hn
  go_enter Tryd.func22, Tryd.ntmps22
  go_upto_region 1 with (fail)
  generalize w.heap.size = gk at *
  generalize w.alloc (.map #[] 0) = W0 at *
  go_wp2_with fail

  go_loopw [10] (fun i wr => ∃ (k : Nat) (bytes : List UInt8) (cls' : Nat → Int) (vb' : Value) (M' : List UInt8 → Option Int), i = .int .i64 k ∧ k ≤ 256 ∧ Mk0 wr base gm gt gs (KC (.slice ta toks.length tc) fold slash most gt vb' gs vt) (TC cls' rows vn ve) vb' vt vn ve bytes sets ends next n M ∧ SMap 5 .u8 wr gk bytes.length M' ∧ ClsR (sgnL fold slash toks) k bytes cls' M' ∧ Below base w wr) (fun i _ => 256 - (RowKit.intOf i).toNat)
  case atStart => exact ⟨0, [], cls, vb, _, rfl, by decide, HM0.out, HS0.out, ClsR.start _ _, HB0.out⟩
  case round =>
    obtain ⟨k, bytes, cls', vb', M', rfl, hk, hm, hs, hc, hX⟩ := hrel
    have HM := Lib.hid hm
    have HS := Lib.hid hs
    have HC := Lib.hid hc
    have HX := Lib.hid hX
    clear hm hs hc hX
    obtain ⟨wo, hwo⟩ : ∃ W, W = wr := ⟨_, rfl⟩
    subst hwo
    by_cases hlt : k < 256
    · have c0 : wo.cell? ⟨gm, 0, none⟩ = some (.slice ta toks.length tc) := HM.out.kc.cell 0
      have lwr : base ≤ wo.heap.size := by have h1 := HM.out.kc.lt; have h2 := HM.out.lm; omega
      have HZ := Lib.hid (zeros_at wo (toks.length + 1))
      have HZB := Lib.hid ((Below.refl wo.heap.size wo).alloc (Nat.le_refl _) (.cells (zerosA (toks.length + 1)) 5))
      have HMF := Lib.hid (fun W (hb : Below wo.heap.size wo W) => HM.out.same hb)
      have HSF := Lib.hid (fun W (hb : Below wo.heap.size wo W) => HS.out.below hb HS.out.lt)
      have HXF := Lib.hid (fun W (hb : Below wo.heap.size wo W) => HX.out.trans (hb.mono lwr))
      clear lwr HM HS HX
      have hkI : (k : Int) < 256 := by omega
      go_upto_region 5 with (fail)
      clear c0
      generalize wo.alloc (.cells (zerosA (toks.length + 1)) 5) = W1 at *
      generalize wo.heap.size = gz at *
      have c0 : W1.cell? ⟨gm, 0, none⟩ = some (.slice ta toks.length tc) := (HMF.out _ HZB.out).kc.cell 0
      obtain ⟨b, hbk⟩ : ∃ b : UInt8, b = UInt8.ofNat k := ⟨_, rfl⟩
      have HBK := Lib.hid hbk
      clear hbk
      go_wp2_with fail
      go_loopw [25] (fun i wx => ∃ j : Nat, i = .int .i64 j ∧ j ≤ toks.length ∧ SetAtB wx gz (mrkK fold slash toks b j) ∧ Below gz wo wx) (fun i _ => toks.length - (RowKit.intOf i).toNat)
      case atStart => exact ⟨0, rfl, Nat.zero_le _, by rw [mrk_zero]; exact HZ.out, HZB.out⟩
      case round =>
        obtain ⟨j, rfl, hj, hA, hB⟩ := hrel
        by_cases hjl : j < toks.length
        · obtain ⟨a9, c9, he9, hq⟩ := HV.out wr (HXF.out wr hB)
          injection he9 with e1 e2 e3
          subst e1
          subst e3
          obtain ⟨b0, off, hta, hb, hcs⟩ := hq (by omega)
          subst hta
          obtain ⟨d0, d1, d2, d3, d4, d5⟩ := tok_cells (t := toks[j]) (W := wr) (b := b0) (off := off) (k := j) (fun i u hu => hcs j hjl i u hu)
          have HST := Lib.hid (mrk_step fold slash toks b j hjl)
          have HML := Lib.hid (mrk_len fold slash toks b j hj)
          generalize toks[j] = t at *
          generalize mrkK fold slash toks b j = C at *
          clear hcs c0 hq e2
          have HB1 := Lib.hid (hB.alloc (Nat.le_of_lt hA.lt) (.cells t.cells.toArray 31))
          have HA1 := Lib.hid (hA.alloc (.cells t.cells.toArray 31))
          have hT1 := Lib.hid (AtB.new wr 31 t.cells)
          go_upto_region 8 with (fail)
          change Code.wp _ _ _ _ (wr.alloc (.cells t.cells.toArray 31))
          clear d0 d1 d2 d3 d4 d5 hA hB
          generalize wr.alloc (.cells t.cells.toArray 31) = W2 at *
          generalize wr.heap.size = g6 at *
          have d0 : W2.cell? ⟨g6, 0, none⟩ = some (.int .i64 t.kind) := hT1.out.cell 0
          have d1 : W2.cell? ⟨g6, 1, none⟩ = some (.int .u8 t.b.toNat) := hT1.out.cell 1
          have d2 : W2.cell? ⟨g6, 2, none⟩ = some (.int .u64 (wordP t.p 0)) := hT1.out.cell 2
          have d3 : W2.cell? ⟨g6, 3, none⟩ = some (.int .u64 (wordP t.p 1)) := hT1.out.cell 3
          have d4 : W2.cell? ⟨g6, 4, none⟩ = some (.int .u64 (wordP t.p 2)) := hT1.out.cell 4
          have d5 : W2.cell? ⟨g6, 5, none⟩ = some (.int .u64 (wordP t.p 3)) := hT1.out.cell 5
          have hbn : (k : Int) = (b.toNat : Int) := by rw [HBK.out, UInt8.toNat_ofNat']; omega
          have HC1 := Lib.hid (mOne_any gm fold slash t b W2 ((HMF.out _ HB1.out).kc.cell 1) ((HMF.out _ HB1.out).kc.cell 2))
          rw [← hbn] at HC1
          clear hbn
          go_wp2_with fail
          refine HC1.out.mono ?_
          rintro e w3 ⟨rfl, hb3⟩
          have HA2 := Lib.hid (HA1.out.below hb3)
          have HB2 := Lib.hid (HB1.out.trans (hb3.mono (Nat.le_of_lt HA1.out.lt)))
          clear HC1 HB1 HA1 hT1 d0 d1 d2 d3 d4 d5 hb3
          cases ho : oneG fold slash t b
          · rw [ho] at HST
            go_wp2_with fail
            go_roundw
            case rel => exact ⟨j + 1, by go_num, hjl, by rw [HST.out]; exact HA2.out, HB2.out⟩
            case measure => simp [RowKit.intOf]; omega
          · rw [ho] at HST
            have f9 := HA2.out.fz j
            have b9 : ∃ x, w3.cell? ⟨gz, j, none⟩ = some (.int .u8 x) := by
              rw [HA2.out.cell, List.getElem?_map, List.getElem?_eq_getElem (by have := HML.out; omega)]
              exact ⟨_, rfl⟩
            obtain ⟨x9, b9⟩ := b9
            go_wp2_with fail
            have hst := HA2.out.set j (.int .u8 1)
            go_roundw
            case rel => exact ⟨j + 1, by go_num, hjl, by rw [HST.out]; unfold SetAtB; rw [if_pos trivial, List.map_set]; exact hst, below_set HB2.out (Nat.le_refl _)⟩
            case measure => simp [RowKit.intOf]; omega
        · have hje : j = toks.length := by omega
          subst hje
          have HSE := Lib.hid (mrk_end fold slash toks b)
          have HML := Lib.hid (mrk_len fold slash toks b toks.length (Nat.le_refl _))
          generalize mrkK fold slash toks b toks.length = C at *
          have HA := Lib.hid hA
          have HB := Lib.hid hB
          have c0 : wr.cell? ⟨gm, 0, none⟩ = some (.slice ta toks.length tc) := (HMF.out _ hB).kc.cell 0
          clear hA hB hj hjl
          go_upto_if 40 with (fail)
          go_cut [3] (fun v3 wx => v3 = .int .i64 (k : Int) ∧ SetAtB wx gz (sgnL fold slash toks b) ∧ Below gz wo wx)
          case first =>
            have f9 := HA.out.fz toks.length
            have b9 : ∃ x, wr.cell? ⟨gz, toks.length, none⟩ = some (.int .u8 x) := by
              rw [HA.out.cell, List.getElem?_map, List.getElem?_eq_getElem (by have := HML.out; omega)]
              exact ⟨_, rfl⟩
            obtain ⟨x9, b9⟩ := b9
            cases h47 : ((k : Int) == 47)
            · go_wp2_with fail
              go_meet
              refine ⟨rfl, ?_, HB.out⟩
              have hb : ¬ b = 47 := by
                intro e
                have e1 : b.toNat = k := by rw [HBK.out, UInt8.toNat_ofNat']; omega
                rw [e] at e1
                have e2 : k = 47 := e1.symm
                rw [e2] at h47
                cases h47
              rw [HSE.out, if_neg hb]
              exact HA.out
            · go_wp2_with fail
              go_meet
              have hb : b = 47 := by
                have e2 : (k : Int) = 47 := eq_of_beq h47
                have e3 : k = 47 := by omega
                rw [HBK.out, e3]; rfl
              refine ⟨rfl, ?_, below_set HB.out (Nat.le_refl _)⟩
              rw [HSE.out, if_pos hb]
              unfold SetAtB
              rw [List.map_set]
              exact HA.out.set toks.length (.int .u8 1)
          case rest =>
            obtain ⟨rfl, hA, hB⟩ := hcut
            have hs := str_at wc gz (sgnL fold slash toks b) (toks.length + 1) hA
            rw [sgn_len] at hs
            have HL : Hid ((sgnL fold slash toks b).length ≤ 9223372036854775807) := Lib.hid (by rw [sgn_len]; have := HN.out; omega)
            have HM1 := Lib.hid (HMF.out _ hB)
            have HS1 := Lib.hid (HSF.out _ hB)
            have HX1 := Lib.hid (HXF.out _ hB)
            obtain ⟨y, hy, hyx⟩ := HS1.out.look (t := 99) (by kernel_rfl) (by kernel_rfl) (zero_u8 wc) (sgnL fold slash toks b) HL.out
            have hkb : Value.int .u8 (k : Int) = bv b := by
              unfold bv; rw [HBK.out, UInt8.toNat_ofNat']; congr 1; omega
            have HKB := Lib.hid hkb
            have HSG := Lib.hid (show sgnL fold slash toks b = sgnL fold slash toks (UInt8.ofNat k) by rw [HBK.out])
            have HK := Lib.hid hk
            clear hA hB HSE HA HB HML c0 hkb HMF HSF HXF HZ HZB
            generalize sgnL fold slash toks b = sg at *
            cases hM : M' sg with
            | some x =>
              have hxy := hyx x hM
              subst hxy
              rw [hM] at hy
              have hy : (Instr.lookup 99 (.map (some gk)) (.string (S sg)) true).run Tryd.prog wc = .ok (.tuple #[.int .u8 y, .bool true]) wc := hy
              have c4 : wc.cell? ⟨gm, 4, none⟩ = some (.pointer (some ⟨gt, 0, none⟩)) := HM1.out.kc.cell 4
              have tk : wc.cell? ⟨gt, k, none⟩ = some (.int .u8 (cls' k)) := by rw [HM1.out.tb.cell]; exact TC_class _ _ _ _ k hlt
              have tf := HM1.out.tb.fz k
              have HO := Lib.hid (HC.out.old y (by rw [← HSG.out]; exact hM))
              have HTC := Lib.hid (TC_setClass cls' (fun c => if c = k then y else cls' c) rows vn ve k hlt (fun j _ hne => by simp [hne]))
              have hk3 : (k : Int) < 256 := hkI
              clear hyx hM
              go_wp2_with fail
              have hm := HM1.out.setT k (.int .u8 y)
              have e := HTC.out
              simp only [if_true] at e
              rw [e] at hm
              go_roundw
              case rel => exact ⟨k + 1, bytes, _, vb', M', by go_num, hlt, hm, HS1.out.setAt HM1.out.tb, HO.out, below_set HX1.out HM1.out.lt⟩
              case measure => simp [RowKit.intOf]; omega
            | none =>
              rw [hM] at hy
              have hy : (Instr.lookup 99 (.map (some gk)) (.string (S sg)) true).run Tryd.prog wc = .ok (.tuple #[.int .u8 y, .bool false]) wc := hy
              have hln := HS1.out.len (t := 99) (by kernel_rfl) 3
              have hbl : (bytes.length : Int) ≤ 255 := by have := HC.out.few; omega
              obtain ⟨ab, cb, hvb⟩ := HM1.out.ob.shape
              rw [List.length_map] at hvb
              subst hvb
              have HO := Lib.hid (HC.out.new (by rw [← HSG.out]; exact hM))
              have HTC := Lib.hid (TC_setClass cls' (fun c => if c = k then (bytes.length : Int) else cls' c) rows vn ve k hlt (fun j _ hne => by simp [hne]))
              obtain ⟨W2, hrun, hsm, hgr⟩ := HS1.out.put (t := 99) (by kernel_rfl) (by kernel_rfl) (by omega) sg HL.out (bytes.length : Int) (by have h1 : IntKind.u8.min = 0 := rfl; have h2 : IntKind.u8.max = 255 := rfl; simp [Lit.wf, h1, h2]; omega) hM
              have HSM := Lib.hid hsm
              have HM2 := Lib.hid (HM1.out.other hgr HS1.out (fun e => by have := HGS.out; omega))
              have HX2 : Hid (Below base w W2) := Lib.hid (HX1.out.grown hgr (by have h1 := HM1.out.kc.lt; have h2 := HM1.out.lm; omega) (fun j hj => by injection hj with hj; rw [← hj]; exact HBASE.out))
              have lB2 : base ≤ W2.heap.size := by have h1 := HM2.out.kc.lt; have h2 := HM2.out.lm; omega
              clear hyx hM hsm hgr HS1 HM1 HX1
              go_upto_region 17 with (fail)
              clear hrun hy hln hs
              have c5 : W2.cell? ⟨gm, 5, none⟩ = some (.slice ab bytes.length cb) := HM2.out.kc.cell 5
              have HL9 : Hid ((bytes.map bv ++ [Value.int .u8 (k : Int)]).length = bytes.length + 1) := Lib.hid (by simp)
              go_upto_region 18 with (at_builtin; refine app_v 69 5 (.int .u8 0) 1 Tryd.underlying69 info_u8 rfl (by decide) rfl (.tmp 68) (.tmp 71) rfl base (.slice ab bytes.length cb) (bytes.map bv) (.int .u8 (k : Int)) rfl rfl HM2.out.ob rfl (by rw [List.length_map]; omega) lB2 ?_; intro v' w' hO hb hG; obtain ⟨a3, c3, hv'⟩ := hO.shape; rw [HL9.out] at hv'; subst hv'; have mm := Lib.hid (HM2.out.appB (bytes' := bytes ++ [b]) (by rw [List.map_append, List.map_cons, List.map_nil, ← HKB.out]; exact hO) hG); have f5 : w'.frozen? ⟨gm, 5, none⟩ = false := mm.out.kc.fz 5; have k5 : w'.cell? ⟨gm, 5, none⟩ = some (.slice ab bytes.length cb) := mm.out.kc.cell 5; have hbb := Lib.hid hb)
              have HM3 := Lib.hid (mm.out.setC 5 (.slice a3 (bytes.length + 1) c3))
              have HX3 := Lib.hid (below_set (i := 5) (v := .slice a3 (bytes.length + 1) c3) (HX2.out.trans hbb.out) mm.out.lm)
              have HS3 : Hid (SMap 5 .u8 (w'.setCell ⟨gm, 5, none⟩ (.slice a3 (bytes.length + 1) c3)) gk (bytes.length + 1) (fun r => if r = sg then some (bytes.length : Int) else M' r)) := Lib.hid ((HSM.out.grew HM2.out.ob hG).setAt mm.out.kc)
              clear hO hb hG mm hbb k5 f5 c5
              generalize w'.setCell ⟨gm, 5, none⟩ (.slice a3 (bytes.length + 1) c3) = W3 at *
              have c4 : W3.cell? ⟨gm, 4, none⟩ = some (.pointer (some ⟨gt, 0, none⟩)) := HM3.out.kc.cell 4
              have tk : W3.cell? ⟨gt, k, none⟩ = some (.int .u8 (cls' k)) := by rw [HM3.out.tb.cell]; exact TC_class _ _ _ _ k hlt
              have tf := HM3.out.tb.fz k
              go_wp2_with fail
              have hm := HM3.out.setT k (.int .u8 (bytes.length : Int))
              have e := HTC.out
              simp only [if_true] at e
              rw [e] at hm
              go_roundw
              case rel => exact ⟨k + 1, bytes ++ [b], _, _, _, by go_num, hlt, hm, by rw [List.length_append]; exact HS3.out.setAt HM3.out.tb, by rw [HBK.out, HSG.out]; exact HO.out, below_set HX3.out HM3.out.lt⟩
              case measure => simp [RowKit.intOf]; omega
    · have hk2 : k = 256 := by omega
      subst hk2
      have c4 : wo.cell? ⟨gm, 4, none⟩ = some (.pointer (some ⟨gt, 0, none⟩)) := HM.out.kc.cell 4
      have t6 : wo.cell? ⟨gt, 256, none⟩ = some (.int .i64 rows) := by rw [HM.out.tb.cell]; exact TC_rows ..
      have f6 := HM.out.tb.fz 256
      have hlen := fun W (hW : SMap 5 .u8 W gk bytes.length M') => hW.len (t := 99) (by kernel_rfl) 3
      have hl1 := hlen wo HS.out
      have hl2 := hlen wo.drew HS.out.drew
      go_upto_region 20 with (fail)
      go_region
      go_end0
      have hm := HM.out.drew.setT 256 (.int .i64 (bytes.length : Int))
      rw [TC_setRows] at hm
      exact ⟨rfl, below_set HX.out.drew HM.out.lt, vb', cls', bytes, M', hm, HC.out⟩
end Go.Proofs.YtphfcebacilbbaaDoor
namespace Go.Proofs.YtphfcebacilbbaaDoor
open Go.RowKit

theorem nodup_le {α : Type} [DecidableEq α] : ∀ (l r : List α), l.Nodup → (∀ x ∈ l, x ∈ r) → l.length ≤ r.length
  | [], _, _, _ => Nat.zero_le _
  | a :: l, r, hn, hs => by
    have ha : a ∈ r := hs a (List.mem_cons_self ..)
    obtain ⟨h1, h2⟩ := List.nodup_cons.1 hn
    have ih := nodup_le l (r.erase a) h2 (fun x hx => by
      have hne : x ≠ a := fun e => h1 (e ▸ hx)
      exact (List.mem_erase_of_ne hne).2 (hs x (List.mem_cons_of_mem _ hx)))
    rw [List.length_erase_of_mem ha] at ih
    have := List.length_pos_of_mem ha
    rw [List.length_cons]
    omega
theorem nodup_map {α β : Type} (f : α → β) (l : List α) (h : l.Nodup) (hi : ∀ x ∈ l, ∀ y ∈ l, f x = f y → x = y) : (l.map f).Nodup := by
  unfold List.Nodup at *
  rw [List.pairwise_map]
  exact List.Pairwise.imp_of_mem (fun ha hb hne e => hne (hi _ ha _ hb e)) h
theorem pig_nat {α : Type} (f : α → Nat) (n : Nat) (l : List α) (h : l.Nodup) (hi : ∀ x ∈ l, ∀ y ∈ l, f x = f y → x = y) (hb : ∀ x ∈ l, f x < n) : l.length ≤ n := by
  have := nodup_le (l.map f) (List.range n) (nodup_map f l h hi) (fun x hx => by
    obtain ⟨y, hy, rfl⟩ := List.mem_map.1 hx
    exact List.mem_range.2 (hb y hy))
  rw [List.length_map, List.length_range] at this
  exact this
/-- all rows of n bits -/
def allBits : Nat → List (List Bool)
  | 0 => [[]]
  | k + 1 => (allBits k).map (true :: ·) ++ (allBits k).map (false :: ·)
theorem allBits_len : ∀ k, (allBits k).length = 2 ^ k
  | 0 => rfl
  | k + 1 => by rw [allBits, List.length_append, List.length_map, List.length_map, allBits_len k, Nat.pow_succ]; omega
theorem allBits_mem : ∀ (k : Nat) (l : List Bool), l.length = k → l ∈ allBits k
  | 0, l, h => by rw [List.length_eq_zero_iff.1 h]; exact List.mem_singleton.2 rfl
  | k + 1, [], h => by cases h
  | k + 1, b :: l, h => by
    have ih := allBits_mem k l (by simpa using h)
    rw [allBits, List.mem_append]
    cases b
    · exact .inr (List.mem_map.2 ⟨l, ih, rfl⟩)
    · exact .inl (List.mem_map.2 ⟨l, ih, rfl⟩)
theorem pig_bits {α : Type} (f : α → List Bool) (n : Nat) (l : List α) (h : l.Nodup) (hi : ∀ x ∈ l, ∀ y ∈ l, f x = f y → x = y) (hb : ∀ x ∈ l, (f x).length = n) : l.length ≤ 2 ^ n := by
  have := nodup_le (l.map f) (allBits n) (nodup_map f l h hi) (fun x hx => by
    obtain ⟨y, hy, rfl⟩ := List.mem_map.1 hx
    exact allBits_mem n _ (hb y hy))
  rw [List.length_map, allBits_len] at this
  exact this
end Go.Proofs.YtphfcebacilbbaaDoor
namespace Go.Proofs.YtphfcebacilbbaaDoor
open Go.RowKit

/-- the set that a text reaches -/
def runL (fr : UInt8 → Bool) (L : List GT) (s : List UInt8) : List UInt8 := s.foldl (fun l b => stepL fr L b l) (firstL L)
theorem runL_snoc (fr : UInt8 → Bool) (L : List GT) (s : List UInt8) (b : UInt8) : runL fr L (s ++ [b]) = stepL fr L b (runL fr L s) := by
  unfold runL; rw [List.foldl_append]; rfl
theorem snoc_ind {α : Type} {P : List α → Prop} (h0 : P []) (h1 : ∀ l a, P l → P (l ++ [a])) (l : List α) : P l := by
  have key : ∀ r : List α, P r.reverse := by
    intro r
    induction r with
    | nil => exact h0
    | cons a r ih => rw [List.reverse_cons]; exact h1 _ _ ih
  have := key l.reverse
  rwa [List.reverse_reverse] at this
theorem runL_set (fr : UInt8 → Bool) (L : List GT) (s : List UInt8) : IsSet L (runL fr L s) (reachQ fr L s) := by
  induction s using snoc_ind with
  | h0 => exact first_set fr L
  | h1 s b ih => rw [runL_snoc]; exact step_set fr L s b _ ih
theorem runL_len (fr : UInt8 → Bool) (L : List GT) (s : List UInt8) : (runL fr L s).length = L.length / 8 + 1 := (runL_set fr L s).len
theorem runL_end (fr : UInt8 → Bool) (L : List GT) (s : List UInt8) : bitL (runL fr L s) L.length = matchG fr L s := by
  rw [(runL_set fr L s).bit _ (Nat.le_refl _), reach_end]
/-- a set that is not empty -/
def SomeL (l : List UInt8) : Prop := ¬ ∀ c ∈ l, c = 0
theorem some_bit {L : List GT} {l : List UInt8} {q : Nat → Bool} (h : IsSet L l q) (hs : SomeL l) : ∃ i, i ≤ L.length ∧ q i = true := by
  apply Classical.byContradiction
  intro hn
  apply hs
  rw [bits_none]
  intro i
  rcases Nat.lt_or_ge L.length i with hi | hi
  · exact h.rest i hi
  · rw [h.bit i hi]
    cases hq : q i
    · rfl
    · exact absurd ⟨i, hi, hq⟩ hn
/-- from an empty set on nothing is matched -/
theorem dead_match (fr : UInt8 → Bool) (L : List GT) (s t : List UInt8) (h : ¬ SomeL (runL fr L s)) : matchG fr L (s ++ t) = false := by
  have h : ∀ c ∈ runL fr L s, c = 0 := Classical.byContradiction h
  have hb := (bits_none _).1 h
  rw [← reach_end]
  refine match_dead fr L s (fun i hi => ?_) t _ (Nat.le_refl _)
  rw [← (runL_set fr L s).bit i hi]
  exact hb i
theorem first_some (fr : UInt8 → Bool) (L : List GT) : SomeL (runL fr L []) := by
  intro h
  have hb := (bits_none _).1 h
  have h0 := (runL_set fr L []).bit 0 (Nat.zero_le _)
  rw [hb 0] at h0
  rw [reachQ_eq] at h0
  cases hs : starAt L 0
  · rw [hs, if_neg (by decide), reachP_nil0] at h0; cases h0
  · obtain ⟨h1, _⟩ := star_at hs
    rw [hs, if_pos rfl, reachP_nil fr L 0 h1, hs, reachP_nil0] at h0; cases h0
/-- where there is no star, a place is reached by texts of just so many bytes -/
theorem no_star_len (fr : UInt8 → Bool) (L : List GT) (hn : ∀ i, i < L.length → starAt L i = false) : ∀ i, i ≤ L.length → ∀ s, reachP fr L s i = true → s.length = i := by
  intro i
  induction i with
  | zero =>
    intro _ s
    induction s using snoc_ind with
    | h0 => intro _; rfl
    | h1 s b _ => intro h; rw [reachP_snoc0] at h; cases h
  | succ i ih =>
    intro hi s
    induction s using snoc_ind with
    | h0 => intro h; rw [reachP_nil fr L i (by omega), hn i (by omega)] at h; cases h
    | h1 s b _ =>
      intro h
      rw [reachP_one fr L s b i (by omega) (hn i (by omega)), Bool.and_eq_true] at h
      rw [List.length_append, ih (by omega) s h.1]; rfl
/-- where there is no star there are no more sets than places -/
theorem count_plain (fr : UInt8 → Bool) (L : List GT) (hn : ∀ i, i < L.length → starAt L i = false) (sets : List (List UInt8)) (hd : sets.Nodup) (hr : ∀ l ∈ sets, SomeL l ∧ ∃ s, l = runL fr L s) : sets.length ≤ L.length + 1 := by
  have hq : ∀ s i, i ≤ L.length → reachQ fr L s i = true → s.length = i := by
    intro s i hi h
    rw [reachQ_eq] at h
    rcases Nat.lt_or_ge i L.length with h1 | h1
    · rw [hn i h1, if_neg (by decide)] at h
      exact no_star_len fr L hn i hi s h
    · rw [star_out h1, if_neg (by decide)] at h
      exact no_star_len fr L hn i hi s h
  have key : ∀ l ∈ sets, ∃ s, l = runL fr L s ∧ s.length ≤ L.length ∧ ∀ i, i ≤ L.length → (bitL l i = decide (i = s.length)) := by
    intro l hl
    obtain ⟨hs, s, rfl⟩ := hr l hl
    have hset := runL_set fr L s
    obtain ⟨i, hi, hqi⟩ := some_bit hset hs
    have hli := hq s i hi hqi
    refine ⟨s, rfl, by omega, fun j hj => ?_⟩
    rw [hset.bit j hj]
    by_cases e : j = s.length
    · rw [decide_eq_true e, e, hli]; exact hqi
    · rw [decide_eq_false e]
      cases hqj : reachQ fr L s j
      · rfl
      · exact absurd (hq s j hj hqj).symm e
  refine pig_nat (fun l => (List.range (L.length + 1)).findIdx (bitL l)) (L.length + 1) sets hd ?_ ?_
  · intro x hx y hy e
    obtain ⟨s, rfl, h1, h2⟩ := key x hx
    obtain ⟨t, rfl, h3, h4⟩ := key y hy
    have idx : ∀ (s : List UInt8) (l : List UInt8), s.length ≤ L.length → (∀ i, i ≤ L.length → (bitL l i = decide (i = s.length))) → (List.range (L.length + 1)).findIdx (bitL l) = s.length := by
      intro s l hs hl
      rw [List.findIdx_eq (by rw [List.length_range]; omega)]
      refine ⟨?_, fun j hj => ?_⟩
      · rw [List.getElem_range, hl _ hs]; simp
      · rw [List.getElem_range, hl j (by omega)]; exact decide_eq_false (by omega)
    rw [idx s _ h1 h2, idx t _ h3 h4] at e
    refine (runL_set fr L s).uniq (runL_set fr L t) (fun i hi => ?_)
    rw [← (runL_set fr L s).bit i hi, ← (runL_set fr L t).bit i hi, h2 i hi, h4 i hi, e]
  · intro x hx
    obtain ⟨s, rfl, h1, h2⟩ := key x hx
    have : (List.range (L.length + 1)).findIdx (bitL (runL fr L s)) < (List.range (L.length + 1)).length := by
      rw [List.findIdx_lt_length]
      exact ⟨s.length, List.mem_range.2 (by omega), by rw [h2 _ h1]; simp⟩
    rw [List.length_range] at this
    exact this
/-- there are never more sets than there are sets of places -/
theorem count_stars (fr : UInt8 → Bool) (L : List GT) (sets : List (List UInt8)) (hd : sets.Nodup) (hr : ∀ l ∈ sets, SomeL l ∧ ∃ s, l = runL fr L s) : sets.length ≤ 2 ^ (L.length + 1) := by
  refine pig_bits (fun l => (List.range (L.length + 1)).map (bitL l)) (L.length + 1) sets hd ?_ ?_
  · intro x hx y hy e
    obtain ⟨_, s, rfl⟩ := hr x hx
    obtain ⟨_, t, rfl⟩ := hr y hy
    refine (runL_set fr L s).uniq (runL_set fr L t) (fun i hi => ?_)
    have h : ((List.range (L.length + 1)).map (bitL (runL fr L s)))[i]? = ((List.range (L.length + 1)).map (bitL (runL fr L t)))[i]? := congrArg (fun z => z[i]?) e
    rw [List.getElem?_map, List.getElem?_map, List.getElem?_range (by omega)] at h
    simp only [Option.map_some, Option.some.injEq] at h
    rw [← (runL_set fr L s).bit i hi, ← (runL_set fr L t).bit i hi, h]
  · intro x hx
    rw [List.length_map, List.length_range]
end Go.Proofs.YtphfcebacilbbaaDoor
namespace Go.Proofs.YtphfcebacilbbaaDoor
open Go.RowKit

/-- where a step leads: to none, or to a set that is told -/
def StepX (sets : List (List UInt8)) (l : List UInt8) (x : Int) : Prop := ((∀ c ∈ l, c = 0) ∧ x = -1) ∨ (SomeL l ∧ ∃ k : Nat, sets[k]? = some l ∧ x = (k : Int))
theorem StepX.more {sets : List (List UInt8)} {l : List UInt8} {x : Int} (h : StepX sets l x) (r : List (List UInt8)) : StepX (sets ++ r) l x := by
  rcases h with h | ⟨h1, k, h2, h3⟩
  · exact .inl h
  · exact .inr ⟨h1, k, by rw [List.getElem?_append_left (List.getElem?_eq_some_iff.1 h2).1]; exact h2, h3⟩
/-- what is told while the table is made -/
structure PInv (fr : UInt8 → Bool) (L : List GT) (bytes : List UInt8) (most : Int) (sets : List (List UInt8)) (ends : List Bool) (next : List Int) : Prop where
  zero : sets[0]? = some (runL fr L [])
  nodup : sets.Nodup
  few : (sets.length : Int) ≤ most
  reach : ∀ l ∈ sets, SomeL l ∧ ∃ s, l = runL fr L s
  ends : ends = sets.map (fun l => bitL l L.length)
  row : ∀ q x, next[q]? = some x → ∀ l, sets[q / bytes.length]? = some l → ∀ b, bytes[q % bytes.length]? = some b → StepX sets (stepL fr L b l) x
/-- more sets than may be -/
def PFull (fr : UInt8 → Bool) (L : List GT) (most : Int) : Prop := ∃ ls : List (List UInt8), ls.Nodup ∧ (ls.length : Int) = most + 1 ∧ ∀ l ∈ ls, SomeL l ∧ ∃ s, l = runL fr L s
theorem nodup_snoc {α : Type} {l : List α} {a : α} (h : l.Nodup) (ha : a ∉ l) : (l ++ [a]).Nodup := by
  rw [List.nodup_append]
  refine ⟨h, by simp, fun x hx y hy e => ?_⟩
  rw [List.mem_singleton] at hy
  subst hy; subst e
  exact ha hx
section
variable {fr : UInt8 → Bool} {L : List GT} {bytes : List UInt8} {most : Int} {sets sets' : List (List UInt8)} {ends ends' : List Bool} {next : List Int} {l l0 : List UInt8} {x : Int}
theorem PInv.elen (h : PInv fr L bytes most sets ends next) : ends.length = sets.length := by rw [h.ends, List.length_map]
/-- the first set -/
theorem PInv.first (hm : 1 ≤ most) {ok : Bool} (hs : StateR most L.length [] [] (firstL L) x ok sets' ends') : PInv fr L bytes most sets' ends' [] := by
  have hf := first_some fr L
  rcases hs with ⟨h0, _⟩ | ⟨_, ⟨i, hi, _⟩, _⟩ | ⟨_, _, h0, _⟩ | ⟨h0, _, _, _, _, rfl, rfl⟩
  · exact absurd h0 hf
  · simp at hi
  · simp at h0; omega
  · refine ⟨rfl, by simp, by simp; exact hm, ?_, rfl, fun q x h => by simp at h⟩
    intro l hl
    rw [List.nil_append, List.mem_singleton] at hl
    subst hl
    exact ⟨h0, [], rfl⟩
/-- a step's state -/
theorem PInv.go {b : UInt8} {i j : Nat} (h : PInv fr L bytes most sets ends next) (hi : sets[i]? = some l0) (hj : bytes[j]? = some b) (hn : next.length = i * bytes.length + j) (hs : StateR most L.length sets ends (stepL fr L b l0) x true sets' ends') : PInv fr L bytes most sets' ends' (next ++ [x]) := by
  have hjl : j < bytes.length := (List.getElem?_eq_some_iff.1 hj).1
  have hil : i < sets.length := (List.getElem?_eq_some_iff.1 hi).1
  have hq1 : next.length / bytes.length = i := by
    rw [hn, Nat.mul_comm, Nat.mul_add_div (by omega), Nat.div_eq_of_lt hjl]; omega
  have hq2 : next.length % bytes.length = j := by
    rw [hn, Nat.mul_comm, Nat.mul_add_mod, Nat.mod_eq_of_lt hjl]
  have hold : ∀ q, q < next.length → q / bytes.length < sets.length := by
    intro q hq
    have : q / bytes.length ≤ next.length / bytes.length := Nat.div_le_div_right (by omega)
    omega
  have rows : ∀ (S' : List (List UInt8)) (r : List (List UInt8)), S' = sets ++ r → StepX S' (stepL fr L b l0) x → ∀ q y, (next ++ [x])[q]? = some y → ∀ l, S'[q / bytes.length]? = some l → ∀ c, bytes[q % bytes.length]? = some c → StepX S' (stepL fr L c l) y := by
    intro S' r hS hx q y hy l hl c hc
    subst hS
    rcases Nat.lt_or_ge q next.length with hq | hq
    · rw [List.getElem?_append_left hq] at hy
      rw [List.getElem?_append_left (hold q hq)] at hl
      exact (h.row q y hy l hl c hc).more r
    · rw [List.getElem?_append_right hq] at hy
      rcases Nat.eq_zero_or_pos (q - next.length) with h0 | h0
      · have hqe : q = next.length := by omega
        subst hqe
        rw [h0] at hy
        have hxy : x = y := by simpa using hy
        rw [hq1, List.getElem?_append_left hil, hi] at hl
        rw [hq2, hj] at hc
        injection hl with hl
        injection hc with hc
        subst hl; subst hc; subst hxy
        exact hx
      · rw [List.getElem?_eq_none (by simp only [List.length_cons, List.length_nil]; omega)] at hy
        cases hy
  rcases hs with ⟨h0, h1, _, h3, h4⟩ | ⟨h0, ⟨k, hk, hx⟩, _, h3, h4⟩ | ⟨_, _, _, _, h0, _⟩ | ⟨h0, h1, h2, h3, _, h4, h5⟩
  · subst h3; subst h4
    exact ⟨h.zero, h.nodup, h.few, h.reach, h.ends, rows _ [] (by simp) (.inl ⟨h0, h1⟩)⟩
  · subst h3; subst h4
    exact ⟨h.zero, h.nodup, h.few, h.reach, h.ends, rows _ [] (by simp) (.inr ⟨h0, k, hk, hx⟩)⟩
  · cases h0
  · subst h4; subst h5
    have hel := h.elen
    refine ⟨?_, nodup_snoc h.nodup h1, ?_, ?_, ?_, rows _ _ rfl (.inr ⟨h0, ends.length, by rw [hel, List.getElem?_append_right (Nat.le_refl _)]; simp, h3⟩)⟩
    · rw [List.getElem?_append_left (by omega)]; exact h.zero
    · rw [List.length_append]; have := h.few; rw [hel] at h2; simp; omega
    · intro l hl
      rcases List.mem_append.1 hl with hl | hl
      · exact h.reach l hl
      · rw [List.mem_singleton] at hl
        subst hl
        obtain ⟨_, s, hs⟩ := h.reach l0 (List.mem_of_getElem? hi)
        exact ⟨h0, s ++ [b], by rw [runL_snoc, ← hs]⟩
    · rw [h.ends, List.map_append]; rfl
theorem PInv.full {b : UInt8} {i : Nat} (h : PInv fr L bytes most sets ends next) (hi : sets[i]? = some l0) (hs : StateR most L.length sets ends (stepL fr L b l0) x false sets' ends') : PFull fr L most := by
  have hel := h.elen
  rcases hs with ⟨_, _, h0, _⟩ | ⟨_, _, h0, _⟩ | ⟨h0, h1, h2, _⟩ | ⟨_, _, _, _, h0, _⟩
  · cases h0
  · cases h0
  · refine ⟨sets ++ [stepL fr L b l0], nodup_snoc h.nodup h1, by rw [List.length_append]; simp; omega, fun l hl => ?_⟩
    rcases List.mem_append.1 hl with hl | hl
    · exact h.reach l hl
    · rw [List.mem_singleton] at hl
      subst hl
      obtain ⟨_, s, hs⟩ := h.reach l0 (List.mem_of_getElem? hi)
      exact ⟨h0, s ++ [b], by rw [runL_snoc, ← hs]⟩
  · cases h0
end
/-- a table -/
structure Tab where
  cls : Nat → Int
  vn : Value
  ve : Value
  bytes : List UInt8
  sets : List (List UInt8)
  ends : List Bool
  next : List Int
/-- a table that is made of these tokens -/
structure TabOK (fold slash : Bool) (toks : List Tk) (most : Int) (T : Tab) : Prop where
  inv : PInv (freeG slash) (gts fold slash toks) T.bytes most T.sets T.ends T.next
  all : T.next.length = T.sets.length * T.bytes.length
  cl : ∃ M, ClsR (sgnL fold slash toks) 256 T.bytes T.cls M
/-- each set's step stands in its row -/
theorem TabOK.step {fold slash : Bool} {toks : List Tk} {most : Int} {T : Tab} (h : TabOK fold slash toks most T) (i : Nat) (l : List UInt8) (hi : T.sets[i]? = some l) (c : UInt8) :
    ∃ j : Nat, T.cls c.toNat = (j : Int) ∧ j < T.bytes.length ∧ T.bytes.length ≤ 256 ∧ i * T.bytes.length + j < T.next.length ∧ ∃ x, T.next[i * T.bytes.length + j]? = some x ∧ StepX T.sets (stepL (freeG slash) (gts fold slash toks) c l) x := by
  obtain ⟨M, hc⟩ := h.cl
  obtain ⟨j, hj, hcj⟩ := hc.all c.toNat c.toNat_lt
  have hce : UInt8.ofNat c.toNat = c := by simp
  rw [hce] at hj
  have hjl : j < T.bytes.length := by have := (List.getElem?_eq_some_iff.1 hj).1; rwa [List.length_map] at this
  have hil : i < T.sets.length := (List.getElem?_eq_some_iff.1 hi).1
  have hlt : i * T.bytes.length + j < T.next.length := by
    rw [h.all]
    have : (i + 1) * T.bytes.length ≤ T.sets.length * T.bytes.length := Nat.mul_le_mul_right _ hil
    rw [Nat.add_mul, Nat.one_mul] at this
    omega
  refine ⟨j, hcj, hjl, hc.few, hlt, _, List.getElem?_eq_getElem hlt, ?_⟩
  have hq1 : (i * T.bytes.length + j) / T.bytes.length = i := by
    rw [Nat.mul_comm, Nat.mul_add_div (by omega), Nat.div_eq_of_lt hjl]; omega
  have hq2 : (i * T.bytes.length + j) % T.bytes.length = j := by
    rw [Nat.mul_comm, Nat.mul_add_mod, Nat.mod_eq_of_lt hjl]
  have := h.inv.row _ _ (List.getElem?_eq_getElem hlt) l (by rw [hq1]; exact hi) T.bytes[j] (by rw [hq2]; exact List.getElem?_eq_getElem hjl)
  rw [List.getElem?_map, List.getElem?_eq_getElem hjl] at hj
  simp only [Option.map_some, Option.some.injEq] at hj
  rw [sgn_same fold slash toks T.bytes[j] c hj] at this
  exact this
theorem TabOK.end {fold slash : Bool} {toks : List Tk} {most : Int} {T : Tab} (h : TabOK fold slash toks most T) (i : Nat) (s : List UInt8) (hi : T.sets[i]? = some (runL (freeG slash) (gts fold slash toks) s)) : T.ends[i]? = some (matchG (freeG slash) (gts fold slash toks) s) := by
  rw [h.inv.ends, List.getElem?_map, hi, Option.map_some, runL_end]
theorem TabOK.pos {fold slash : Bool} {toks : List Tk} {most : Int} {T : Tab} (h : TabOK fold slash toks most T) : 0 < T.sets.length ∧ (T.sets.length : Int) ≤ most ∧ T.ends.length = T.sets.length :=
  ⟨(List.getElem?_eq_some_iff.1 h.inv.zero).1, h.inv.few, h.inv.elen⟩
/-- a table and more sets than it may have are not of the same tokens -/
theorem TabOK.not_full {fold slash : Bool} {toks : List Tk} {most : Int} {T : Tab} (h : TabOK fold slash toks most T) : ¬ PFull (freeG slash) (gts fold slash toks) most := by
  rintro ⟨ls, hn, hl, hr⟩
  have all : ∀ s, SomeL (runL (freeG slash) (gts fold slash toks) s) → ∃ i : Nat, T.sets[i]? = some (runL (freeG slash) (gts fold slash toks) s) := by
    intro s
    induction s using snoc_ind with
    | h0 => intro _; exact ⟨0, h.inv.zero⟩
    | h1 s b ih =>
      intro hs
      have hs0 : SomeL (runL (freeG slash) (gts fold slash toks) s) := by
        intro h0
        apply hs
        rw [bits_none] at h0 ⊢
        intro k
        rcases Nat.lt_or_ge (gts fold slash toks).length k with hk | hk
        · exact (runL_set _ _ _).rest k hk
        · rw [(runL_set _ _ _).bit k hk]
          refine match_dead _ _ s (fun i hi => ?_) [b] k hk
          rw [← (runL_set _ _ s).bit i hi]; exact h0 i
      obtain ⟨i, hi⟩ := ih hs0
      obtain ⟨j, _, _, _, _, x, _, hx⟩ := h.step i _ hi b
      rw [← runL_snoc] at hx
      rcases hx with ⟨h0, _⟩ | ⟨_, k, hk, _⟩
      · exact absurd h0 hs
      · exact ⟨k, hk⟩
  have := nodup_le ls T.sets hn (fun l hl => by
    obtain ⟨h1, s, rfl⟩ := hr l hl
    obtain ⟨i, hi⟩ := all s h1
    exact List.mem_of_getElem? hi)
  have := h.inv.few
  omega
end Go.Proofs.YtphfcebacilbbaaDoor
namespace Go.Proofs.YtphfcebacilbbaaDoor
open Go.RowKit
attribute [local irreducible] wordP

/-- a table in memory -/
structure TabAt (w : World) (base gt : Nat) (T : Tab) : Prop where
  tb : AtB w gt 67 (TC T.cls (T.bytes.length : Int) T.vn T.ve)
  on : OwnV 21 w base T.vn (T.next.map (Value.int .i32))
  oe : OwnV 4 w base T.ve (T.ends.map Value.bool)
theorem TabAt.below {w w' : World} {base gt : Nat} {T : Tab} (h : TabAt w base gt T) (hb : Below w.heap.size w w') : TabAt w' base gt T :=
  ⟨h.tb.below hb, h.on.below hb (Nat.le_refl _), h.oe.below hb (Nat.le_refl _)⟩
theorem info_i32 : (Tryd.prog.info? 21).map (fun i => (i.zero, i.size, i.bytes)) = some (some (.int .i32 0), 1, 4) := by kernel_rfl
theorem zero_tab : Tryd.zeroCells67 = (TC (fun _ => 0) 0 (.slice none 0 0) (.slice none 0 0)).toArray := by kernel_rfl
theorem setL_first (n : Nat) : setL (List.replicate (n + 1) 0) 0 = (List.replicate (n + 1) 0).set 0 1 := by
  unfold setL
  rw [List.replicate_succ]
  congr 1
  show UInt8.ofNat ((0 : UInt8).toNat ||| 2 ^ 0) = 1
  decide
set_option maxRecDepth 100000 in
set_option maxHeartbeats 8000000 in
theorem compile_any (toks : List Tk) (fold slash : Bool) (most : Int) (v : Value) (hn : toks.length ≤ 1024) (hm1 : 1 ≤ most) (hm2 : most ≤ 4096) (w : World) (hv : RowsV Tk.cells 6 w v toks) :
    Calls Tryd.prog 9 #[v, .agg #[.bool fold, .bool slash], .int .i64 most] w fun e w' => Below w.heap.size w w' ∧
      ((∃ gt T, e = .returned (.tuple #[.pointer (some ⟨gt, 0, none⟩), .int .i64 0]) ∧ TabOK fold slash toks most T ∧ TabAt w' w.heap.size gt T) ∨
       (e = .returned (.tuple #[.pointer none, .int .i64 7]) ∧ PFull (freeG slash) (gts fold slash toks) most)) := by
  have HV := Lib.hid (fun W (hb : Below w.heap.size w W) => RowsV.below hv hb (Nat.le_refl _))
  obtain ⟨a, cc, rfl, hc⟩ := hv
  have hnI : (toks.length : Int) ≤ 1024 := by omega
  have HN := Lib.hid hn
  clear hc hn
  go_enter Tryd.func9, Tryd.ntmps9
  go_upto_region 5 with (fail)
  have hmm := @run_makeMap Tryd.prog
  go_upto_region 6 with (fail)
  clear hmm
  have HB1 := Lib.hid (((((Below.refl w.heap.size w).alloc (Nat.le_refl _) (.cells #[.bool fold, .bool slash] 36)).alloc (by simp) (.cells Tryd.zeroCells67 67)).alloc (by simp; omega) (.map #[] 0)).alloc (by simp; omega) (.cells #[.slice a toks.length cc, .bool fold, .bool slash, .int .i64 most, .pointer (some ⟨w.heap.size + 1, 0, none⟩), .slice none 0 0, .map (some (w.heap.size + 1 + 1)), .slice none 0 0] 72))
  have HM1 : Hid (Mk0 ((((w.alloc (.cells #[.bool fold, .bool slash] 36)).alloc (.cells Tryd.zeroCells67 67)).alloc (.map #[] 0)).alloc (.cells #[.slice a toks.length cc, .bool fold, .bool slash, .int .i64 most, .pointer (some ⟨w.heap.size + 1, 0, none⟩), .slice none 0 0, .map (some (w.heap.size + 1 + 1)), .slice none 0 0] 72)) w.heap.size (w.heap.size + 1 + 1 + 1) (w.heap.size + 1) (w.heap.size + 1 + 1) (KC (.slice a toks.length cc) fold slash most (w.heap.size + 1) (.slice none 0 0) (w.heap.size + 1 + 1) (.slice none 0 0)) (TC (fun _ => 0) 0 (.slice none 0 0) (.slice none 0 0)) (.slice none 0 0) (.slice none 0 0) (.slice none 0 0) (.slice none 0 0) [] [] [] [] 0 (fun _ => none)) := by
    rw [zero_tab]
    refine ⟨?_, ?_, OwnV.nil _ _ _, OwnV.nil _ _ _, OwnV.nil _ _ _, OwnV.nil _ _ _, ?_, by omega, by omega, by omega⟩
    · exact AtB.new2 _ _ _ _ (by simp)
    · exact ((AtB.new2 _ _ _ _ (by simp)).alloc _).alloc _
    · have := (SMap.made 21 .i32 ((w.alloc (.cells #[.bool fold, .bool slash] 36)).alloc (.cells (TC (fun _ => 0) 0 (.slice none 0 0) (.slice none 0 0)).toArray 67)))
      rw [show ((w.alloc (.cells #[.bool fold, .bool slash] 36)).alloc (.cells (TC (fun _ => 0) 0 (.slice none 0 0) (.slice none 0 0)).toArray 67)).heap.size = w.heap.size + 1 + 1 by simp] at this
      exact this.alloc _
  generalize (((w.alloc (.cells #[.bool fold, .bool slash] 36)).alloc (.cells Tryd.zeroCells67 67)).alloc (.map #[] 0)).alloc (.cells #[.slice a toks.length cc, .bool fold, .bool slash, .int .i64 most, .pointer (some ⟨w.heap.size + 1, 0, none⟩), .slice none 0 0, .map (some (w.heap.size + 1 + 1)), .slice none 0 0] 72) = W1 at *
  generalize hgm : w.heap.size + 1 + 1 + 1 = gm at *
  generalize hgs : w.heap.size + 1 + 1 = gs at *
  generalize hgt : w.heap.size + 1 = gt at *
  have HGM := Lib.hid hgm
  clear hgm hgs hgt
  obtain ⟨nq, hnq⟩ : ∃ nq, nq = toks.length / 8 := ⟨_, rfl⟩
  have e8 : (toks.length : Int) / 8 = (nq : Int) := by omega
  have hnqI : (nq : Int) ≤ 128 := by omega
  have HNQ := Lib.hid hnq
  clear hnq
  have hbase1 : w.heap.size ≤ W1.heap.size := HB1.out.size
  have HSP := Lib.hid (split_any toks a cc (.slice none 0 0) (by have := HN.out; omega) W1 hbase1 (fun W hb => HV.out W (HB1.out.trans hb)) HM1.out)
  clear HM1 hbase1
  go_wp2_with fail
  refine HSP.out.mono ?_
  rintro e w1 ⟨rfl, hb1, vb, cls, bytes, MB, hm1', hcl⟩
  have HCL := Lib.hid hcl
  have HM := Lib.hid hm1'
  have HB := Lib.hid (HB1.out.trans hb1)
  clear HSP HB1 hb1 hm1' hcl
  have hmk : ∀ W, (Instr.makeSlice 69 (.int .i64 ((nq : Int) + 1)) (.int .i64 ((nq : Int) + 1))).run Tryd.prog W = .ok (.slice (some ⟨W.heap.size, 0, none⟩) (nq + 1) (nq + 1)) (W.alloc (.cells (zerosA (nq + 1)) 5)) := fun W => mk_bytes (nq + 1) (nq + 1) (Nat.le_refl _) (by omega) W
  have HZ := Lib.hid (zeros_at w1 (nq + 1))
  have HZB := Lib.hid ((Below.refl w1.heap.size w1).alloc (Nat.le_refl _) (.cells (zerosA (nq + 1)) 5))
  have HMF := Lib.hid (fun W (hb : Below w1.heap.size w1 W) => HM.out.same hb)
  have HBF := Lib.hid (fun W (hb : Below w1.heap.size w1 W) => HB.out.trans (hb.mono HB.out.size))
  have lgz : gm < w1.heap.size := HM.out.kc.lt
  go_upto_region 8 with (fail)
  have HVG : Hid (∀ a' n c, Value.slice a toks.length cc = .slice (some a') n c → 0 < toks.length → a'.block ≠ w1.heap.size) := by
    obtain ⟨a', c', e0, hc⟩ := HV.out w1 HB.out
    injection e0 with e1 e2 e3
    subst e1; subst e3
    intro a2 n c e hp
    obtain ⟨b', off', e4, hb', _⟩ := hc hp
    injection e with e5
    rw [e4] at e5
    injection e5 with e5
    rw [← e5]
    simp only
    omega
  generalize w1.alloc (.cells (zerosA (nq + 1)) 5) = W2 at *
  generalize w1.heap.size = gz at *
  have f0 := HZ.out.fz 0
  have b0 : W2.cell? ⟨gz, 0, none⟩ = some (.int .u8 0) := by rw [HZ.out.cell, List.replicate_succ]; rfl
  have HS3 : Hid (SetAtB (W2.setCell ⟨gz, 0, none⟩ (.int .u8 1)) gz ((List.replicate (nq + 1) 0).set 0 1)) := by
    unfold Hid SetAtB; rw [List.map_set]; exact HZ.out.set 0 (.int .u8 1)
  have HB3 := Lib.hid (below_set (i := 0) (v := .int .u8 1) HZB.out (Nat.le_refl _))
  clear hmk
  go_upto_region 9 with (fail)
  clear f0 b0 HZ HZB
  generalize W2.setCell ⟨gz, 0, none⟩ (.int .u8 1) = W3 at *
  have hlen : ((List.replicate (nq + 1) (0 : UInt8)).set 0 1).length = nq + 1 := by simp
  have hq := close_any gm gz fold slash toks (.slice a toks.length cc) ((List.replicate (nq + 1) 0).set 0 1) (nq + 1) W3 (HV.out _ (HBF.out _ HB3.out)) (by have := HN.out; omega) ((HMF.out _ HB3.out).kc.cell 0) HS3.out (by rw [hlen, HNQ.out]) (by omega) HVG.out gz (Nat.le_refl _)
  rw [hlen] at hq
  have HQ := Lib.hid hq
  have HF : Hid (closeL (gts fold slash toks) ((List.replicate (nq + 1) 0).set 0 1) = firstL (gts fold slash toks)) := by unfold Hid firstL; rw [gts_len, ← HNQ.out, setL_first]
  have HFL : Hid ((firstL (gts fold slash toks)).length = nq + 1) := by have := (first_set (freeG slash) (gts fold slash toks)).len; rw [gts_len, ← HNQ.out] at this; exact this
  clear hq hlen HVG
  go_wp2_with fail
  refine HQ.out.mono ?_
  rintro e w4 ⟨rfl, hb4, _⟩
  rw [HF.out]
  have HB4 := Lib.hid (HB3.out.trans hb4)
  have HST := Lib.hid (state_any a cc toks.length (firstL (gts fold slash toks)) (by rw [HFL.out]; omega) (sets := []) (ends := []) (M := fun _ => none) ⟨fun i s h => by simp at h, fun _ _ => rfl⟩ (by have := HN.out; omega) (by rw [HFL.out, HNQ.out]; omega) rfl (by decide) w4 (HBF.out _ HB4.out).size (HMF.out _ HB4.out))
  clear HQ hb4 HB3 HS3 HFL HF HM lgz
  go_wp2_with fail
  refine HST.out.mono ?_
  rintro e w5 ⟨x5, ok5, vt5, ve5, sets5, ends5, M5, rfl, hb5, hm5, hi5, _, hs5⟩
  have HI5 := Lib.hid (PInv.first (fr := freeG slash) (L := gts fold slash toks) (bytes := bytes) hm1 (by rw [gts_len]; exact hs5))
  have HM5 := Lib.hid hm5
  have HX5 := Lib.hid hi5
  have HB5 := Lib.hid ((HBF.out _ HB4.out).trans hb5)
  clear HST HB4 HMF HBF hs5 hm5 hi5 hb5
  go_wp2_with fail
  go_loopw [10] (fun i wr => ∃ (k : Nat) (sets : List (List UInt8)) (ends : List Bool) (next : List Int) (vt vn ve : Value) (M : List UInt8 → Option Int), i = .int .i64 k ∧ k ≤ sets.length ∧ Mk wr w.heap.size gm gt gs (.slice a toks.length cc) fold slash most cls (bytes.length : Int) vb vt vn ve bytes sets ends next M ∧ IdxM sets M ∧ PInv (freeG slash) (gts fold slash toks) bytes most sets ends next ∧ next.length = k * bytes.length ∧ Below w.heap.size w wr) (fun i _ => 4097 - (RowKit.intOf i).toNat)
  case atStart => exact ⟨0, sets5, ends5, [], vt5, .slice none 0 0, ve5, M5, rfl, Nat.zero_le _, HM5.out, HX5.out, HI5.out, by simp, HB5.out⟩
  case round =>
    obtain ⟨k, sets, ends, next, vt, vn, ve, M, rfl, hk, hm, hi, hp, hnl, hX⟩ := hrel
    have HM := Lib.hid hm
    have HI := Lib.hid hi
    have HP := Lib.hid hp
    have HNL := Lib.hid hnl
    have HX := Lib.hid hX
    clear hm hi hp hnl hX
    obtain ⟨ab, cb, hvb⟩ := HM.out.ob.shape
    rw [List.length_map] at hvb
    obtain ⟨at_, ct, hvt⟩ := HM.out.ot.shape
    rw [List.length_map] at hvt
    subst hvb; subst hvt
    have hfew : sets.length ≤ 4096 := by have := HP.out.few; omega
    have c7 : wr.cell? ⟨gm, 7, none⟩ = some (.slice at_ sets.length ct) := HM.out.kc.cell 7
    by_cases hlt : k < sets.length
    · have hltI : (k : Int) < (sets.length : Int) := by omega
      have c5 : wr.cell? ⟨gm, 5, none⟩ = some (.slice ab bytes.length cb) := HM.out.kc.cell 5
      have HFW := Lib.hid hfew
      have hklI : (k : Int) ≤ 4096 := by omega
      obtain ⟨l0, hl0⟩ : ∃ l0, sets[k]? = some l0 := ⟨_, List.getElem?_eq_getElem hlt⟩
      have HL0 := Lib.hid hl0
      clear hl0 hfew
      clear HM5 HI5 HX5 HB5
      go_wp2_with fail
      go_loopw [62] (fun i wx => ∃ (j : Nat) (sets : List (List UInt8)) (ends : List Bool) (next : List Int) (vt vn ve : Value) (M : List UInt8 → Option Int), i = .int .i64 j ∧ j ≤ bytes.length ∧ sets[k]? = some l0 ∧ Mk wx w.heap.size gm gt gs (.slice a toks.length cc) fold slash most cls (bytes.length : Int) (.slice ab bytes.length cb) vt vn ve bytes sets ends next M ∧ IdxM sets M ∧ PInv (freeG slash) (gts fold slash toks) bytes most sets ends next ∧ next.length = k * bytes.length + j ∧ Below w.heap.size w wx) (fun i _ => bytes.length - (RowKit.intOf i).toNat)
      case atStart => exact ⟨0, sets, ends, next, _, vn, ve, M, rfl, Nat.zero_le _, HL0.out, HM.out, HI.out, HP.out, HNL.out, HX.out⟩
      case round =>
        clear HM HI HP HNL HX HL0 HFW hltI c5 c7 hlt hk
        obtain ⟨j, sets, ends, next, vt, vn, ve, M, rfl, hj, hl0, hm, hi, hp, hnl, hX⟩ := hrel
        have HM := Lib.hid hm
        have HI := Lib.hid hi
        have HP := Lib.hid hp
        have HNL := Lib.hid hnl
        have HX := Lib.hid hX
        have HL0 := Lib.hid hl0
        clear hm hi hp hnl hX hl0
        by_cases hjl : j < bytes.length
        · have hjI : (j : Int) < (bytes.length : Int) := by omega
          have HBL := Lib.hid (show bytes.length ≤ 256 from HCL.out.few)
          have hbl2 : (bytes.length : Int) ≤ 256 := by have := HBL.out; omega
          obtain ⟨g, c, hv, _, _, _, hcell, _⟩ := HM.out.ob.at (by rw [List.length_map]; omega)
          rw [List.length_map] at hv hcell
          injection hv with e1 e2 e3
          subst e1; subst e3
          obtain ⟨b, hb⟩ : ∃ b, b = bytes[j] := ⟨_, rfl⟩
          have cbj : wr.cell? ⟨g, j, none⟩ = some (.int .u8 b.toNat) := by rw [hcell j hjl, List.getElem?_map, List.getElem?_eq_getElem hjl, hb]; rfl
          have hkl : k < sets.length := (List.getElem?_eq_some_iff.1 HL0.out).1
          obtain ⟨g2, c2, hv2, _, _, _, hcell2, _⟩ := HM.out.ot.at (by rw [List.length_map]; omega)
          rw [List.length_map] at hv2 hcell2
          subst hv2
          have ctk : wr.cell? ⟨g2, k, none⟩ = some (.string (S l0)) := by rw [hcell2 k hkl, List.getElem?_map, HL0.out]; rfl
          have c7 : wr.cell? ⟨gm, 7, none⟩ = some (.slice (some ⟨g2, 0, none⟩) sets.length c2) := HM.out.kc.cell 7
          have hkI : (k : Int) < (sets.length : Int) := by omega
          have HJB : Hid (bytes[j]? = some b) := by unfold Hid; rw [hb]; exact List.getElem?_eq_getElem hjl
          have HNB : Hid (next.length ≤ 1000000000) := by
            unfold Hid; rw [HNL.out]
            have : k * bytes.length ≤ 4096 * 256 := Nat.mul_le_mul (by omega) HBL.out
            have := HBL.out
            omega
          have HFW : Hid (sets.length < 100000) := by unfold Hid; have := HP.out.few; omega
          have HLL : Hid (l0.length = toks.length / 8 + 1) := by
            unfold Hid
            obtain ⟨_, s, hs⟩ := HP.out.reach l0 (List.mem_of_getElem? HL0.out)
            rw [hs, runL_len, gts_len]
          have HSTEP := Lib.hid (step_any gm fold slash toks (.slice a toks.length cc) l0 b wr (HV.out _ HX.out) (by have := HN.out; omega) (HM.out.kc.cell 0) (HM.out.kc.cell 1) (HM.out.kc.cell 2) HLL.out)
          clear hcell hcell2 hb
          go_wp2_with fail
          refine HSTEP.out.mono ?_
          rintro e w2 ⟨rfl, hb2⟩
          have HB2 := Lib.hid (HX.out.trans (hb2.mono HX.out.size))
          have HST := Lib.hid (state_any a cc toks.length (stepL (freeG slash) (gts fold slash toks) b l0) (by rw [stepL_len, HLL.out]; have := HN.out; omega) HI.out (by have := HN.out; omega) (by rw [stepL_len, HLL.out]; omega) HP.out.elen HFW.out w2 HB2.out.size (HM.out.same hb2))
          clear HSTEP hb2 cbj ctk c7
          go_wp2_with fail
          refine HST.out.mono ?_
          rintro e w3 ⟨x, ok, vt', ve', sets', ends', M', rfl, hb3, hm3, hi3, _, hs3⟩
          have hs3 : StateR most (gts fold slash toks).length sets ends (stepL (freeG slash) (gts fold slash toks) b l0) x ok sets' ends' := by rw [gts_len]; exact hs3
          have HB3 := Lib.hid (HB2.out.trans hb3)
          have HM3 := Lib.hid hm3
          have HI3 := Lib.hid hi3
          have HS3 := Lib.hid hs3
          clear HST HM HI hb3 hm3 hi3 hs3
          cases ok
          · have HPF := Lib.hid (HP.out.full HL0.out HS3.out)
            clear HS3 HP
            go_wp2_with fail
            go_ret2
            exact ⟨HB3.out, .inr ⟨rfl, HPF.out⟩⟩
          · have HP3 := Lib.hid (HP.out.go HL0.out HJB.out HNL.out HS3.out)
            have HL3 : Hid (sets'[k]? = some l0) := by
              unfold Hid
              rcases HS3.out with ⟨_, _, _, h3, _⟩ | ⟨_, _, _, h3, _⟩ | ⟨_, _, _, _, h0, _⟩ | ⟨_, _, _, _, _, h4, _⟩
              · rw [h3]; exact HL0.out
              · rw [h3]; exact HL0.out
              · cases h0
              · rw [h4, List.getElem?_append_left hkl]; exact HL0.out
            clear HS3 HP HL0 HJB
            obtain ⟨an, cn, hvn⟩ := HM3.out.on.shape
            rw [List.length_map] at hvn
            subst hvn
            go_upto_region 19 with (fail)
            have HMA := Lib.hid HM3.out.alloc
            have lB : w.heap.size ≤ w3.heap.size := HB3.out.size
            have HBA := Lib.hid (fun o => HB3.out.alloc lB o)
            have c4 : w3.cell? ⟨gm, 4, none⟩ = some (.pointer (some ⟨gt, 0, none⟩)) := HM3.out.kc.cell 4
            have t7 : w3.cell? ⟨gt, 257, none⟩ = some (.slice an next.length cn) := by rw [HM3.out.tb.cell]; exact TC_next ..
            have c4a : (w3.alloc (.cells #[.int .i32 x] 21)).cell? ⟨gm, 4, none⟩ = some (.pointer (some ⟨gt, 0, none⟩)) := (HMA.out _).kc.cell 4
            have t7a : (w3.alloc (.cells #[.int .i32 x] 21)).cell? ⟨gt, 257, none⟩ = some (.slice an next.length cn) := by rw [(HMA.out _).tb.cell]; exact TC_next ..
            have HL9 : Hid ((next.map (Value.int .i32) ++ [Value.int .i32 x]).length = next.length + 1) := Lib.hid (by simp)
            have hne3 : w3.heap.size ≠ gt := by have := HM3.out.tb.lt; omega
            go_region_law (refine step_app_v 64 21 (.int .i32 0) 4 Tryd.underlying64 info_i32 rfl (by decide) rfl _ _ rfl w.heap.size _ (next.map (Value.int .i32)) (.int .i32 x) rfl rfl (by first | exact (HMA.out _).on.drew | exact (HMA.out _).on) _ rfl (by go_simp) (by rw [List.length_map]; exact HNB.out) (by simp; omega) ?_; intro v' w' hO hb hG; obtain ⟨a', c', hv'⟩ := hO.shape; rw [HL9.out] at hv'; subst hv'; have mm := Lib.hid ((show Mk0 _ w.heap.size gm gt gs _ _ _ _ _ _ _ _ _ _ _ _ by first | exact (HMA.out _).drew | exact HMA.out _).appN (next' := next ++ [x]) (by rw [List.map_append]; exact hO) hG); have f7 : w'.frozen? ⟨gt, 257, none⟩ = false := mm.out.tb.fz 257; have k7 : w'.cell? ⟨gt, 257, none⟩ = some (.slice an next.length cn) := (by rw [mm.out.tb.cell]; exact TC_next ..); have k4 : w'.cell? ⟨gm, 4, none⟩ = some (.pointer (some ⟨gt, 0, none⟩)) := mm.out.kc.cell 4; have hbb := Lib.hid hb)
            all_goals go_wp2_with fail
            all_goals
              go_roundw
              case rel =>
                refine ⟨j + 1, sets', ends', next ++ [x], vt', .slice a' (next.length + 1) c', ve', M', by go_num, hjl, HL3.out, ?_, HI3.out, HP3.out, ?_, ?_⟩
                · have := mm.out.setT 257 (.slice a' (next.length + 1) c')
                  rw [TC_setNext] at this
                  exact this
                · rw [List.length_append, HNL.out]; simp; omega
                · have z : Below w.heap.size w w' := by first | exact (HBA.out _).trans hbb.out | exact (HBA.out _).drew.trans hbb.out
                  exact below_set z mm.out.lt
              case measure => simp [RowKit.intOf]; omega
        · have hje : j = bytes.length := by omega
          have hkl : k < sets.length := (List.getElem?_eq_some_iff.1 HL0.out).1
          have HJE := Lib.hid hje
          have hfw : sets.length ≤ 4096 := by have := HP.out.few; omega
          clear hje
          go_wp2_with fail
          go_roundw
          case rel => exact ⟨k + 1, sets, ends, next, vt, vn, ve, M, by go_num, hkl, HM.out, HI.out, HP.out, by rw [HNL.out, HJE.out, Nat.add_mul, Nat.one_mul], HX.out⟩
          case measure => simp [RowKit.intOf]; omega
    · have hke : k = sets.length := by omega
      have c4 : wr.cell? ⟨gm, 4, none⟩ = some (.pointer (some ⟨gt, 0, none⟩)) := HM.out.kc.cell 4
      have HKE := Lib.hid hke
      clear hke hfew
      go_wp2_with fail
      go_ret2
      exact ⟨HX.out, .inl ⟨gt, ⟨cls, vn, ve, bytes, sets, ends, next⟩, rfl, ⟨HP.out, by rw [← HKE.out]; exact HNL.out, MB, HCL.out⟩, ⟨HM.out.tb, HM.out.on, HM.out.oe⟩⟩⟩
end Go.Proofs.YtphfcebacilbbaaDoor
namespace Go.Proofs.YtphfcebacilbbaaDoor
open Go.RowKit
attribute [local irreducible] wordP

set_option maxRecDepth 100000 in
set_option maxHeartbeats 8000000 in
theorem walk_any {base gt : Nat} {fold slash : Bool} {toks : List Tk} {most : Int} {T : Tab} (hT : TabOK fold slash toks most T) (hmost : most ≤ 4096) (f : Nat) (cap : Array Value) (I : Nat → World → Prop) (s : List UInt8) (hs : s.length ≤ 1000000)
    (hE : ∀ args W, (callFunc f args).run Tryd.prog W = .ok (.enter f args) W)
    (hI : ∀ k W, I k W → TabAt W base gt T)
    (hC : ∀ k W, k ≤ s.length → I k W → Calls Tryd.prog f (#[.int .i64 k, .bool (matchG (freeG slash) (gts fold slash toks) (s.take k))] ++ cap) W fun e W' => e = .returned (.tuple #[]) ∧ I (k + 1) W')
    (hD : ∀ k W, I k W → I k W.drew)
    (w : World) (h0 : I 0 w) :
    Calls Tryd.prog 34 #[.pointer (some ⟨gt, 0, none⟩), .string (S s), .func (.func f) #[] cap] w fun e w' => e = .returned (.tuple #[]) ∧ ∃ m, m ≤ s.length ∧ I (m + 1) w' ∧ ∀ k, m < k → k ≤ s.length → matchG (freeG slash) (gts fold slash toks) (s.take k) = false := by
  have HI := Lib.hid hI
  have HC := Lib.hid hC
  have HD := Lib.hid hD
  have H0 := Lib.hid h0
  have HS := Lib.hid hs
  clear hI hC hD h0 hs
  go_enter Tryd.func34, Tryd.ntmps34
  go_wp2_with fail
  go_loopw [6, 7] (fun n i wr => ∃ (k j : Nat), n = .int .i32 j ∧ i = .int .i64 k ∧ k ≤ s.length ∧ T.sets[j]? = some (runL (freeG slash) (gts fold slash toks) (s.take k)) ∧ I k wr) (fun n i _ => s.length - (RowKit.intOf i).toNat)
  case atStart => exact ⟨0, 0, rfl, rfl, Nat.zero_le _, by rw [List.take_zero]; exact hT.inv.zero, H0.out⟩
  case round =>
    obtain ⟨k, j, rfl, rfl, hk, hj, hi⟩ := hrel
    have HJ := Lib.hid hj
    have HII := Lib.hid hi
    have HTA := Lib.hid (HI.out _ _ hi)
    have HEN := Lib.hid (hT.end j _ hj)
    have hjl : j < T.sets.length := (List.getElem?_eq_some_iff.1 hj).1
    obtain ⟨g, c, hv, _, _, _, hcell, _⟩ := HTA.out.oe.at (by rw [List.length_map]; have := hT.pos; omega)
    rw [List.length_map] at hv hcell
    have cj : wr.cell? ⟨g, j, none⟩ = some (.bool (matchG (freeG slash) (gts fold slash toks) (s.take k))) := by
      rw [hcell j (by have := hT.pos; omega), List.getElem?_map, HEN.out]; rfl
    have c8 : wr.cell? ⟨gt, 258, none⟩ = some (.slice (some ⟨g, 0, none⟩) T.ends.length c) := by rw [HTA.out.tb.cell, TC_ends, hv]
    have hjI : (j : Int) < (T.ends.length : Int) := by have := hT.pos; omega
    have hj4 : (j : Int) < 4096 := by have := hT.pos; omega
    have HCC := Lib.hid (HC.out k wr hk hi)
    clear hj hi hcell hv
    generalize matchG (freeG slash) (gts fold slash toks) (s.take k) = mk at *
    go_wp2_with fail
    refine HCC.out.mono ?_
    rintro e w1 ⟨rfl, hi1⟩
    have HI1 := Lib.hid hi1
    clear HCC cj c8 hi1 HTA HII
    by_cases hks : k = s.length
    · have hksI : (k : Int) = (s.length : Int) := by omega
      have HKS := Lib.hid hks
      clear hks
      go_wp2_with fail
      (try simp only [Exit.inBlock, Exit.then]); refine bodyPost_ret (results_none rfl _ _ _) rfl ?_
      exact ⟨rfl, k, hk, HI1.out, fun k' h1 h2 => by have := HKS.out; omega⟩
    · have hkl : k < s.length := by omega
      have hklI : (k : Int) < (s.length : Int) := by omega
      have hne : ((k : Int) == (s.length : Int)) = false := by
        rw [beq_eq_false_iff_ne]; omega
      have hs9 : (s.length : Int) ≤ 1000000 := by have := HS.out; omega
      obtain ⟨j2, hcls, hj2, hB, hlt, x, hx, hsx⟩ := hT.step j _ HJ.out s[k]
      obtain ⟨b, hb⟩ : ∃ b, b = s[k] := ⟨_, rfl⟩
      have hkS : k < (S s).size := by rw [S_size]; exact hkl
      have hidx : (S s)[k]'hkS = b := by rw [S_get, hb]
      have hbl := b.toNat_lt
      rw [← hb] at hcls hsx
      have hsx : StepX T.sets (runL (freeG slash) (gts fold slash toks) (s.take (k + 1))) x := by
        rw [List.take_succ_eq_append_getElem hkl, runL_snoc, ← hb]; exact hsx
      have HTA := HI.out _ _ HI1.out
      obtain ⟨g2, c2, hv2, _, _, _, hcell2, _⟩ := HTA.on.at (by rw [List.length_map]; omega)
      rw [List.length_map] at hv2 hcell2
      obtain ⟨B, hBe⟩ : ∃ B, B = T.bytes.length := ⟨_, rfl⟩
      rw [← hBe] at hj2 hB hlt hx
      obtain ⟨p, hp⟩ : ∃ p, p = j * B := ⟨_, rfl⟩
      rw [← hp] at hlt hx
      have hmul : (j : Int) * (B : Int) = (p : Int) := by rw [hp]; push_cast; rfl
      have t7 : w1.cell? ⟨gt, 257, none⟩ = some (.slice (some ⟨g2, 0, none⟩) T.next.length c2) := by rw [HTA.tb.cell, TC_next, hv2]
      have t6 : w1.cell? ⟨gt, 256, none⟩ = some (.int .i64 (B : Int)) := by rw [HTA.tb.cell, TC_rows, hBe]
      have tc : w1.cell? ⟨gt, b.toNat, none⟩ = some (.int .u8 (j2 : Int)) := by rw [HTA.tb.cell, TC_class _ _ _ _ _ hbl, hcls]
      have cx : w1.cell? ⟨g2, p + j2, none⟩ = some (.int .i32 x) := by rw [hcell2 _ hlt, List.getElem?_map, hx]; rfl
      have hp4 : p ≤ 4096 * 256 := by rw [hp]; exact Nat.mul_le_mul (by omega) hB
      have hpI : (p : Int) ≤ 1048576 := by omega
      have hj2I : (j2 : Int) < 256 := by omega
      have hltI : (p : Int) + (j2 : Int) < (T.next.length : Int) := by omega
      have hbI : (b.toNat : Int) < 256 := by omega
      have HB := Lib.hid hb
      have HSX := Lib.hid hsx
      clear hx hsx hlt hp4 hp hBe hB hj2 hcls hb hcell2 hv2 HTA hks
      go_upto_region 5 with (fail)
      go_region
      have HI2 := Lib.hid (HD.out _ _ HI1.out)
      rcases HSX.out with ⟨h0, h1⟩ | ⟨h0, k2, h2, h1⟩
      · subst h1
        have HZ := Lib.hid h0
        clear h0 HI1 HSX hidx hkS
        go_wp2_with fail
        (try simp only [Exit.inBlock, Exit.then]); refine bodyPost_ret (results_none rfl _ _ _) rfl ?_
        refine ⟨rfl, k, hk, HI2.out, fun k' hk1 hk2 => ?_⟩
        have e : s.take k' = s.take (k + 1) ++ (s.take k').drop (k + 1) := by
          have := List.take_append_drop (k + 1) (s.take k')
          rw [List.take_take, Nat.min_eq_left (by omega)] at this
          exact this.symm
        rw [e]
        exact dead_match _ _ _ _ (fun h => h HZ.out)
      · subst h1
        have hn1 : ((k2 : Int) == -1) = false := by rw [beq_eq_false_iff_ne]; omega
        have H2 := Lib.hid h2
        clear h0 h2 HI1 HSX hidx hkS
        go_wp2_with fail
        go_roundw
        case rel => exact ⟨k + 1, k2, rfl, by go_num, hkl, H2.out, HI2.out⟩
        case measure => simp [RowKit.intOf]; omega
end Go.Proofs.YtphfcebacilbbaaDoor
namespace Go.Proofs.YtphfcebacilbbaaDoor
open Go.RowKit
attribute [local irreducible] wordP

/-- the last place below k that is a match -/
def LastM (m : Nat → Bool) (k : Nat) (best : Int) (is : Bool) : Prop := (is = false ∧ best = 0 ∧ ∀ i, i < k → m i = false) ∨ (is = true ∧ ∃ b : Nat, b < k ∧ best = (b : Int) ∧ m b = true ∧ ∀ i, b < i → i < k → m i = false)
theorem LastM.zero (m : Nat → Bool) : LastM m 0 0 false := .inl ⟨rfl, rfl, fun i h => absurd h (Nat.not_lt_zero i)⟩
theorem LastM.yes {m : Nat → Bool} {k : Nat} (hm : m k = true) : LastM m (k + 1) (k : Int) true := .inr ⟨rfl, k, Nat.lt_succ_self k, rfl, hm, fun i h1 h2 => by omega⟩
theorem LastM.no {m : Nat → Bool} {k : Nat} {best : Int} {is : Bool} (h : LastM m k best is) (hm : m k = false) : LastM m (k + 1) best is := by
  rcases h with ⟨h1, h2, h3⟩ | ⟨h1, b, h2, h3, h4, h5⟩
  · refine .inl ⟨h1, h2, fun i hi => ?_⟩
    by_cases e : i = k
    · rw [e]; exact hm
    · exact h3 i (by omega)
  · refine .inr ⟨h1, b, by omega, h3, h4, fun i hi1 hi2 => ?_⟩
    by_cases e : i = k
    · rw [e]; exact hm
    · exact h5 i hi1 (by omega)
theorem LastM.end {m : Nat → Bool} {k n : Nat} {best : Int} {is : Bool} (h : LastM m k best is) (hk : k ≤ n) (hz : ∀ i, k ≤ i → i < n → m i = false) : LastM m n best is := by
  rcases h with ⟨h1, h2, h3⟩ | ⟨h1, b, h2, h3, h4, h5⟩
  · exact .inl ⟨h1, h2, fun i hi => by rcases Nat.lt_or_ge i k with e | e; exact h3 i e; exact hz i e hi⟩
  · exact .inr ⟨h1, b, by omega, h3, h4, fun i hi1 hi2 => by rcases Nat.lt_or_ge i k with e | e; exact h5 i hi1 e; exact hz i e hi2⟩
theorem LastM.full {m : Nat → Bool} {n : Nat} {best : Int} {is : Bool} (h : LastM m (n + 1) best is) : (is && (best == (n : Int))) = m n := by
  rcases h with ⟨rfl, _, h3⟩ | ⟨rfl, b, h2, rfl, h4, h5⟩
  · rw [h3 n (Nat.lt_succ_self n)]; rfl
  · rw [Bool.true_and]
    by_cases e : b = n
    · subst e; rw [h4]; simp
    · have : ((b : Int) == (n : Int)) = false := by rw [beq_eq_false_iff_ne]; omega
      rw [this, h5 n (by omega) (Nat.lt_succ_self n)]
/-- all places below k that are matches -/
def allM (m : Nat → Bool) (k : Nat) : List Nat := (List.range k).filter m
theorem allM_succ (m : Nat → Bool) (k : Nat) : allM m (k + 1) = if m k then allM m k ++ [k] else allM m k := by
  unfold allM
  rw [List.range_succ, List.filter_append]
  cases h : m k <;> simp [h]
theorem allM_end (m : Nat → Bool) (k n : Nat) (hk : k ≤ n) (hz : ∀ i, k ≤ i → i < n → m i = false) : allM m n = allM m k := by
  induction n with
  | zero => have : k = 0 := by omega
            rw [this]
  | succ n ih =>
    by_cases e : k = n + 1
    · rw [e]
    · rw [allM_succ, hz n (by omega) (Nat.lt_succ_self n)]
      exact ih (by omega) (fun i h1 h2 => hz i h1 (by omega))
theorem allM_len (m : Nat → Bool) (k : Nat) : (allM m k).length ≤ k := by
  have := List.length_filter_le m (List.range k)
  rw [List.length_range] at this
  exact this
theorem info_i64 : (Tryd.prog.info? 3).map (fun i => (i.zero, i.size, i.bytes)) = some (some (.int .i64 0), 1, 8) := by kernel_rfl
def iv (i : Nat) : Value := .int .i64 (i : Int)
/-- a block of one value -/
abbrev OneAt (w : World) (g : Nat) (T : TypeId) (v : Value) : Prop := AtB w g T [v]
set_option maxRecDepth 100000 in
set_option maxHeartbeats 2000000 in
theorem long1_any (gi gb k : Nat) (e : Bool) (best : Int) (is : Bool) (B : Nat) (hB1 : B ≤ gi) (hB2 : B ≤ gb) (w : World) (h1 : OneAt w gi 3 (.int .i64 best)) (h2 : OneAt w gb 4 (.bool is)) :
    Calls Tryd.prog 41 #[.int .i64 k, .bool e, .pointer (some ⟨gi, 0, none⟩), .pointer (some ⟨gb, 0, none⟩)] w fun r w' => r = .returned (.tuple #[]) ∧ Below B w w' ∧ ∃ best' is', OneAt w' gi 3 (.int .i64 best') ∧ OneAt w' gb 4 (.bool is') ∧ ((e = true ∧ best' = (k : Int) ∧ is' = true) ∨ (e = false ∧ best' = best ∧ is' = is)) := by
  have hne : gi ≠ gb := h1.apart h2 (by decide)
  have c1 := h1.cell 0
  have c2 := h2.cell 0
  have f1 := h1.fz 0
  have f2 := h2.fz 0
  have H1 := Lib.hid h1
  have H2 := Lib.hid h2
  simp only [List.getElem?_cons_zero] at c1 c2
  clear h1 h2
  cases e
  · go_enter Tryd.func41, Tryd.ntmps41
    go_wp2_with fail
    go_end0
    exact ⟨by trivial, Below.refl _ _, best, is, H1.out, H2.out, .inr ⟨by first | rfl | trivial, rfl, rfl⟩⟩
  · go_enter Tryd.func41, Tryd.ntmps41
    go_wp2_with fail
    go_end0
    have x1 := H1.out.set 0 (.int .i64 k)
    have x2 := H2.out.setOther gi 0 (.int .i64 k) hne
    exact ⟨by trivial, below_set (below_set (Below.refl _ _) hB1) hB2, k, true, x1.setOther gb 0 (.bool true) (fun e => hne e.symm), x2.set 0 (.bool true), .inl ⟨by first | rfl | trivial, rfl, rfl⟩⟩
set_option maxRecDepth 100000 in
set_option maxHeartbeats 1000000 in
theorem longest_any {base gt : Nat} {fold slash : Bool} {toks : List Tk} {most : Int} {T : Tab} (hT : TabOK fold slash toks most T) (hmost : most ≤ 4096) (s : List UInt8) (hs : s.length ≤ 1000000) (w : World) (hA : TabAt w base gt T) :
    Calls Tryd.prog 26 #[.pointer (some ⟨gt, 0, none⟩), .string (S s)] w fun e w' => Below w.heap.size w w' ∧ ∃ best is, e = .returned (.tuple #[.int .i64 best, .bool is]) ∧ LastM (fun k => matchG (freeG slash) (gts fold slash toks) (s.take k)) (s.length + 1) best is := by
  have HA := Lib.hid hA
  have HS := Lib.hid hs
  have HW := Lib.hid (walk_any hT hmost 41 #[.pointer (some ⟨w.heap.size, 0, none⟩), .pointer (some ⟨w.heap.size + 1, 0, none⟩)]
    (fun k W => Below w.heap.size w W ∧ ∃ best is, OneAt W w.heap.size 3 (.int .i64 best) ∧ OneAt W (w.heap.size + 1) 4 (.bool is) ∧ LastM (fun k => matchG (freeG slash) (gts fold slash toks) (s.take k)) k best is) s hs (fun _ _ => rfl)
    (fun k W h => hA.below h.1)
    (fun k W hk h => by
      obtain ⟨hb, best, is, x1, x2, hl⟩ := h
      refine (long1_any w.heap.size (w.heap.size + 1) k _ best is w.heap.size (Nat.le_refl _) (by omega) W x1 x2).mono ?_
      rintro r W' ⟨rfl, hb', best', is', y1, y2, hy⟩
      refine ⟨rfl, hb.trans hb', best', is', y1, y2, ?_⟩
      rcases hy with ⟨h1, rfl, rfl⟩ | ⟨h1, rfl, rfl⟩
      · exact LastM.yes h1
      · exact hl.no h1)
    (fun k W h => ⟨h.1.drew, h.2⟩))
  have hmf : ∀ (fn : Fn) (first cap : Array Value) (w : World), (Instr.makeFunc fn first cap).run Tryd.prog w = .ok (.func fn first cap) w := fun _ _ _ _ => rfl
  clear hA hs
  go_enter Tryd.func26, Tryd.ntmps26
  go_upto_region 2 with (fail)
  have HB0 := Lib.hid (((Below.refl w.heap.size w).alloc (Nat.le_refl _) (.cells #[.int .i64 0] 3)).alloc (by simp) (.cells #[.bool false] 4))
  have H1 : Hid (OneAt ((w.alloc (.cells #[.int .i64 0] 3)).alloc (.cells #[.bool false] 4)) w.heap.size 3 (.int .i64 0)) := Lib.hid ((AtB.new w 3 [.int .i64 0]).alloc _)
  have H2 : Hid (OneAt ((w.alloc (.cells #[.int .i64 0] 3)).alloc (.cells #[.bool false] 4)) (w.heap.size + 1) 4 (.bool false)) := Lib.hid (AtB.new2 (w.alloc (.cells #[.int .i64 0] 3)) (w.heap.size + 1) 4 [.bool false] (by simp))
  generalize (w.alloc (.cells #[.int .i64 0] 3)).alloc (.cells #[.bool false] 4) = W0 at *
  have HQ := Lib.hid (HW.out W0 ⟨HB0.out, 0, false, H1.out, H2.out, LastM.zero _⟩)
  clear HW HB0 H1 H2
  go_wp2_with fail
  refine HQ.out.mono ?_
  rintro e w1 ⟨rfl, m, hm, ⟨hb, best, is, x1, x2, hl⟩, hz⟩
  have c1 := x1.cell 0
  have c2 := x2.cell 0
  simp only [List.getElem?_cons_zero] at c1 c2
  have HB1 := Lib.hid hb
  have HL := Lib.hid (hl.end (n := s.length + 1) (by omega) (fun i h1 h2 => hz i (by omega) (by omega)))
  clear HQ hb hl hz x1 x2
  go_wp2_with fail
  go_region
  go_wp2_with fail
  go_ret2
  exact ⟨HB1.out.drew, best, is, rfl, HL.out⟩
set_option maxRecDepth 100000 in
set_option maxHeartbeats 2000000 in
theorem tmatch_any {base gt : Nat} {fold slash : Bool} {toks : List Tk} {most : Int} {T : Tab} (hT : TabOK fold slash toks most T) (hmost : most ≤ 4096) (s : List UInt8) (hs : s.length ≤ 1000000) (w : World) (hA : TabAt w base gt T) :
    Calls Tryd.prog 11 #[.pointer (some ⟨gt, 0, none⟩), .string (S s)] w fun e w' => e = .returned (.bool (matchG (freeG slash) (gts fold slash toks) s)) ∧ Below w.heap.size w w' := by
  have HQ := Lib.hid (longest_any hT hmost s hs w hA)
  have HS := Lib.hid hs
  clear hA hs
  go_enter Tryd.func11, Tryd.ntmps11
  go_wp2_with fail
  refine HQ.out.mono ?_
  rintro e w1 ⟨hb, best, is, rfl, hl⟩
  have HF := hl.full
  simp only [List.take_length] at HF
  have HF := Lib.hid HF
  have HB := Lib.hid hb
  clear HQ hl hb
  cases is
  · go_wp2_with fail
    go_ret
    exact ⟨by rw [← HF.out]; rfl, HB.out⟩
  · have HF2 : Hid ((best == (s.length : Int)) = matchG (freeG slash) (gts fold slash toks) s) := by have := HF.out; rw [Bool.true_and] at this; exact this
    go_wp2_with fail
    go_ret
    exact ⟨by rw [← HF2.out]; rfl, HB.out⟩
set_option maxRecDepth 100000 in
theorem states_any {base gt : Nat} {T : Tab} (w : World) (hA : TabAt w base gt T) :
    Calls Tryd.prog 10 #[.pointer (some ⟨gt, 0, none⟩)] w fun e w' => e = .returned (.int .i64 (T.ends.length : Int)) ∧ w' = w := by
  obtain ⟨a, c, hv⟩ := hA.oe.shape
  rw [List.length_map] at hv
  have c8 : w.cell? ⟨gt, 258, none⟩ = some (.slice a T.ends.length c) := by rw [hA.tb.cell, TC_ends, hv]
  clear hA hv
  go_enter Tryd.func10, Tryd.ntmps10
  go_wp2_with fail
  go_ret
  exact ⟨rfl, rfl⟩
set_option maxRecDepth 100000 in
set_option maxHeartbeats 2000000 in
theorem ends1_any (go k : Nat) (e : Bool) (v : Value) (l : List Value) (B : Nat) (hB : B ≤ go) (w : World) (hBw : B ≤ w.heap.size) (hl : l.length ≤ 2000000) (h1 : OneAt w go 58 v) (h2 : OwnV 3 w B v l) :
    Calls Tryd.prog 35 #[.int .i64 k, .bool e, .pointer (some ⟨go, 0, none⟩)] w fun r w' => r = .returned (.tuple #[]) ∧ Below B w w' ∧ ∃ v', OneAt w' go 58 v' ∧ OwnV 3 w' B v' (if e then l ++ [iv k] else l) := by
  have H1 := Lib.hid h1
  have H2 := Lib.hid h2
  have HL := Lib.hid hl
  obtain ⟨a, c, hv⟩ := h2.shape
  subst hv
  have c1 := h1.cell 0
  simp only [List.getElem?_cons_zero] at c1
  clear h1 h2 hl
  cases e
  · go_enter Tryd.func35, Tryd.ntmps35
    go_wp2_with fail
    go_end0
    exact ⟨by trivial, Below.refl _ _, _, H1.out, H2.out⟩
  · have HL9 : Hid ((l ++ [iv k]).length = l.length + 1) := Lib.hid (by simp)
    go_enter Tryd.func35, Tryd.ntmps35
    go_wp2_with (at_builtin; refine app_v 58 3 (.int .i64 0) 8 Tryd.underlying58 info_i64 rfl (by decide) rfl (.tmp 6) (.tmp 8) rfl B (.slice a l.length c) l (iv k) rfl rfl H2.out rfl (by have := HL.out; omega) hBw ?_; intro v' w' hO hb hG; obtain ⟨a3, c3, hv'⟩ := hO.shape; rw [HL9.out] at hv'; subst hv'; have mm := Lib.hid (AtB.kept (by decide) H1.out H2.out hG); have f5 : w'.frozen? ⟨go, 0, none⟩ = false := mm.out.fz 0; have k5 : w'.cell? ⟨go, 0, none⟩ = some (.slice a l.length c) := mm.out.cell 0; have hbb := Lib.hid hb; have HO := Lib.hid hO)
    go_end0
    exact ⟨by trivial, below_set hbb.out hB, _, mm.out.set 0 _, OwnV.setAt (by decide) HO.out mm.out⟩
set_option maxRecDepth 100000 in
set_option maxHeartbeats 1000000 in
theorem ends_any {base gt : Nat} {fold slash : Bool} {toks : List Tk} {most : Int} {T : Tab} (hT : TabOK fold slash toks most T) (hmost : most ≤ 4096) (s : List UInt8) (hs : s.length ≤ 1000000) (w : World) (hA : TabAt w base gt T) :
    Calls Tryd.prog 20 #[.pointer (some ⟨gt, 0, none⟩), .string (S s)] w fun e w' => Below w.heap.size w w' ∧ ∃ v, e = .returned v ∧ OwnV 3 w' w.heap.size v ((allM (fun k => matchG (freeG slash) (gts fold slash toks) (s.take k)) (s.length + 1)).map iv) := by
  have HS := Lib.hid hs
  have HW := Lib.hid (walk_any hT hmost 35 #[.pointer (some ⟨w.heap.size, 0, none⟩)]
    (fun k W => (Below w.heap.size w W ∧ k ≤ s.length + 1) ∧ ∃ v, OneAt W w.heap.size 58 v ∧ OwnV 3 W w.heap.size v ((allM (fun k => matchG (freeG slash) (gts fold slash toks) (s.take k)) k).map iv)) s hs (fun _ _ => rfl)
    (fun k W h => hA.below h.1.1)
    (fun k W hk h => by
      obtain ⟨⟨hb, hk1⟩, v, x1, x2⟩ := h
      refine (ends1_any w.heap.size k _ v _ w.heap.size (Nat.le_refl _) W hb.size (by rw [List.length_map]; have := allM_len (fun k => matchG (freeG slash) (gts fold slash toks) (s.take k)) k; omega) x1 x2).mono ?_
      rintro r W' ⟨rfl, hb', v', y1, y2⟩
      refine ⟨rfl, ⟨hb.trans hb', by omega⟩, v', y1, ?_⟩
      rw [allM_succ]
      cases h : matchG (freeG slash) (gts fold slash toks) (s.take k)
      · rw [h] at y2; exact y2
      · rw [h] at y2; rw [if_pos rfl, List.map_append]; exact y2)
    (fun k W h => ⟨⟨h.1.1.drew, h.1.2⟩, h.2⟩))
  have hmf : ∀ (fn : Fn) (first cap : Array Value) (w : World), (Instr.makeFunc fn first cap).run Tryd.prog w = .ok (.func fn first cap) w := fun _ _ _ _ => rfl
  clear hA hs
  go_enter Tryd.func20, Tryd.ntmps20
  go_upto_region 2 with (fail)
  have HB0 := Lib.hid ((Below.refl w.heap.size w).alloc (Nat.le_refl _) (.cells #[.slice none 0 0] 58))
  have H1 : Hid (OneAt (w.alloc (.cells #[.slice none 0 0] 58)) w.heap.size 58 (.slice none 0 0)) := Lib.hid (AtB.new w 58 [.slice none 0 0])
  generalize w.alloc (.cells #[.slice none 0 0] 58) = W0 at *
  have HQ := Lib.hid (HW.out W0 ⟨⟨HB0.out, by omega⟩, _, H1.out, OwnV.nil _ _ _⟩)
  clear HW HB0 H1
  go_wp2_with fail
  refine HQ.out.mono ?_
  rintro e w1 ⟨rfl, m, hm, ⟨⟨hb, _⟩, v, x1, x2⟩, hz⟩
  have c1 := x1.cell 0
  simp only [List.getElem?_cons_zero] at c1
  have HB1 := Lib.hid hb
  rw [← allM_end _ (m + 1) (s.length + 1) (by omega) (fun i h1 h2 => hz i (by omega) (by omega))] at x2
  have HX2 := Lib.hid x2
  clear HQ hb hz x1 x2
  obtain ⟨a, c, hv⟩ := HX2.out.shape
  rw [List.length_map] at hv
  subst hv
  go_wp2_with fail
  go_ret
  exact ⟨HB1.out, _, rfl, HX2.out⟩
end Go.Proofs.YtphfcebacilbbaaDoor
namespace Go.Proofs.YtphfcebacilbbaaDoor
open Go.RowKit
attribute [local irreducible] wordP

def toks16 : List Tk := [.byte 97, .star, .byte 98]
abbrev L16 : List GT := gts false false toks16
theorem parse16 : parseG [97, 42, 98] 4 0 [] = some (toks16, 0, 0) := by simp [parseG, tokF, toks16]
theorem step16 : ∀ n, n < 256 → ∀ l ∈ ([[1], [6], [14], [0]] : List (List UInt8)), stepL (freeG false) L16 (UInt8.ofNat n) l ∈ ([[1], [6], [14], [0]] : List (List UInt8)) := by decide +kernel
theorem first16 : runL (freeG false) L16 [] = [1] := by decide +kernel
theorem run16 (s : List UInt8) : runL (freeG false) L16 s ∈ ([[1], [6], [14], [0]] : List (List UInt8)) := by
  induction s using snoc_ind with
  | h0 => rw [first16]; decide
  | h1 s b ih =>
    rw [runL_snoc]
    have := step16 b.toNat b.toNat_lt _ ih
    rw [show UInt8.ofNat b.toNat = b by simp] at this
    exact this
theorem count16 (ls : List (List UInt8)) (hn : ls.Nodup) (hr : ∀ l ∈ ls, SomeL l ∧ ∃ s, l = runL (freeG false) L16 s) : ls.length ≤ 3 := by
  refine nodup_le ls [[1], [6], [14]] hn (fun l hl => ?_)
  obtain ⟨h1, s, h2⟩ := hr l hl
  have := run16 s
  rw [← h2] at this
  simp only [List.mem_cons, List.not_mem_nil, or_false] at this ⊢
  rcases this with h | h | h | h
  · exact .inl h
  · exact .inr (.inl h)
  · exact .inr (.inr h)
  · exfalso; apply h1; rw [h]; decide
theorem ends16 : allM (fun k => matchG (freeG false) L16 (([97, 120, 98, 98] : List UInt8).take k)) 5 = [3, 4] := by
  have e : (fun k => matchG (freeG false) L16 (([97, 120, 98, 98] : List UInt8).take k)) = (fun k => bitL (runL (freeG false) L16 (([97, 120, 98, 98] : List UInt8).take k)) 3) := by
    funext k; exact (runL_end _ _ _).symm
  rw [e]
  decide +kernel
set_option maxRecDepth 100000 in
set_option maxHeartbeats 1000000 in
/-- two rows of the same two numbers -/
theorem same2 (g1 g2 c1 c2 : Nat) (w : World) (h10 : w.cell? ⟨g1, 0, none⟩ = some (.int .i64 3)) (h11 : w.cell? ⟨g1, 1, none⟩ = some (.int .i64 4)) (h20 : w.cell? ⟨g2, 0, none⟩ = some (.int .i64 3)) (h21 : w.cell? ⟨g2, 1, none⟩ = some (.int .i64 4)) :
    Calls Tryd.prog 19 #[.slice (some ⟨g1, 0, none⟩) 2 c1, .slice (some ⟨g2, 0, none⟩) 2 c2] w fun e w' => e = .returned (.bool true) ∧ Below w.heap.size w w' := by
  have H := Lib.hid (fun W (hb : Below w.heap.size w W) => (⟨cellB hb h10, cellB hb h11, cellB hb h20, cellB hb h21⟩ : _ ∧ _ ∧ _ ∧ _))
  clear h10 h11 h20 h21
  go_enter Tryd.func19, Tryd.ntmps19
  go_wp2_with fail
  go_loopw [5] (fun i wr => ∃ k : Nat, i = .int .i64 k ∧ k ≤ 2 ∧ Below w.heap.size w wr) (fun i _ => 2 - (RowKit.intOf i).toNat)
  case atStart => exact ⟨0, rfl, by decide, Below.refl _ _⟩
  case round =>
    obtain ⟨k, rfl, hk, hb⟩ := hrel
    obtain ⟨d10, d11, d20, d21⟩ := H.out _ hb
    have hk3 : k = 0 ∨ k = 1 ∨ k = 2 := by omega
    rcases hk3 with rfl | rfl | rfl
    · go_wp2_with fail
      go_region
      go_wp2_with fail
      go_roundw
      case rel => exact ⟨1, rfl, by decide, hb.drew⟩
      case measure => simp [RowKit.intOf]
    · go_wp2_with fail
      go_region
      go_wp2_with fail
      go_roundw
      case rel => exact ⟨2, rfl, by decide, hb.drew⟩
      case measure => simp [RowKit.intOf]
    · go_wp2_with fail
      go_ret
      exact ⟨rfl, hb⟩
set_option maxRecDepth 100000 in
set_option maxHeartbeats 2000000 in
theorem awake16 (m : Int) (w : World) (hm : w.cell? ⟨2, 0, none⟩ = some (.int .i64 m)) :
    Calls Tryd.prog 7 #[] w fun e w' => e = .returned (.bool true) ∧ Below w.heap.size w w' := by
  have HP := Lib.hid (GParse_any [97, 42, 98] (by decide) w m hm)
  rw [show ([97, 42, 98] : List UInt8).length + 1 = 4 from rfl, parse16] at HP
  have HC := Lib.hid (fun v W hv => compile_any toks16 false false 100 v (by decide) (by decide) (by decide) W hv)
  go_enter Tryd.func7, Tryd.ntmps7
  go_wp2_with fail
  refine HP.out.mono ?_
  rintro e w1 ⟨v, rfl, hown, hb1⟩
  have hr1 := hown.rows Tk.cells_len
  go_wp2_with fail
  refine (HC.out v _ hr1).mono ?_
  rintro e w2 ⟨hb2, h2⟩
  have hx2 := hb1.trans (hb2.mono hb1.size)
  rcases h2 with ⟨gt, T, rfl, hok, hat⟩ | ⟨rfl, ls, hl1, hl2, hl3⟩
  · have h3 := count16 T.sets hok.inv.nodup hok.inv.reach
    have h4 := hok.pos
    have hS := Lib.hid (fun W (hA : TabAt W w1.heap.size gt T) => states_any W hA)
    have HE := Lib.hid (ends_any hok (by decide) [97, 120, 98, 98] (by decide) w2 hat)
    rw [show ([97, 120, 98, 98] : List UInt8).length + 1 = 5 from rfl, ends16] at HE
    have hn8 : (T.ends.length : Int) ≤ 8 := by omega
    have hn1 : (1 : Int) ≤ (T.ends.length : Int) := by omega
    clear h3 h4
    go_wp2_with fail
    refine (hS.out _ hat).mono ?_
    rintro e w3 ⟨rfl, rfl⟩
    go_wp2_with fail
    refine (hS.out _ hat).mono ?_
    rintro e w4 ⟨rfl, rfl⟩
    go_wp2_with fail
    refine HE.out.mono ?_
    rintro e w5 ⟨hb5, v5, rfl, hO⟩
    obtain ⟨g5, c5, rfl, _, hg5, _, hc5, _⟩ := hO.at (by decide)
    have hx5 := hx2.trans (hb5.mono hx2.size)
    have d0 : w5.cell? ⟨g5, 0, none⟩ = some (.int .i64 3) := hc5 0 (by decide)
    have d1 : w5.cell? ⟨g5, 1, none⟩ = some (.int .i64 4) := hc5 1 (by decide)
    have hbA := (Below.refl w5.heap.size w5).alloc (Nat.le_refl _) (.cells #[.int .i64 3, .int .i64 4] 3)
    have HSM := Lib.hid (same2 g5 w5.heap.size c5 2 (w5.alloc (.cells #[.int .i64 3, .int .i64 4] 3)) (cellB hbA d0) (cellB hbA d1) (by simp) (by simp))
    have HX := Lib.hid (hx5.trans (hbA.mono hx5.size))
    clear d0 d1 hbA hc5 HE hS HC HP
    go_wp2_with fail
    refine HSM.out.mono ?_
    rintro e w6 ⟨rfl, hb6⟩
    go_wp2_with fail
    go_ret
    exact ⟨rfl, HX.out.trans (hb6.mono HX.out.size)⟩
  · exfalso
    have := count16 ls hl1 hl3
    omega
end Go.Proofs.YtphfcebacilbbaaDoor
