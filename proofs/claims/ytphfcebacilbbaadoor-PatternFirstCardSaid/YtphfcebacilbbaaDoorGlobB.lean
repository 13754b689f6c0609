/- A glob: Match. -/
import Derived.Test.YtphfcebacilbbaaDoorGlobA
import Derived.Test.YtphfcebacilbbaaDoorRowk
import Derived.Deep.RegionHeld3
namespace Go.Proofs.YtphfcebacilbbaaDoor
open Go.RowKit
attribute [local irreducible] wordP

theorem Tk.cells_len (t : Tk) : t.cells.length = 6 := rfl
theorem gt_star (fold slash : Bool) (t : Tk) : (t.gt fold slash).isStar = (t.kind == 4) := by cases t <;> rfl
theorem gt_tells (fold slash : Bool) (t : Tk) (b : UInt8) : (t.gt fold slash).tells b = oneG fold slash t b := by cases t <;> rfl
theorem gt_is_star (fold slash : Bool) (t : Tk) (h : t.kind = 4) : t.gt fold slash = .star := by cases t <;> first | rfl | (exfalso; simp [Tk.kind] at h; done)
theorem other_47 (c : UInt8) (h : otherB c = 47) : c = 47 := by
  have := all_bytes (fun c => !(otherB c == 47) || c == 47) (by decide +kernel) c
  simp only [Bool.or_eq_true, Bool.not_eq_true', beq_eq_false_iff_ne, beq_iff_eq] at this
  rcases this with h2 | h2
  · exact absurd h h2
  · exact h2
theorem gt_strict (fold slash : Bool) (t : Tk) : Strict (freeG slash) (t.gt fold slash) := by
  intro b c hb hf hc
  rw [gt_tells] at hb hc
  unfold freeG at hf ⊢
  simp only [Bool.or_eq_false_iff] at hf ⊢
  obtain ⟨h1, h2⟩ := hf
  have hb47 : b = 47 := by simpa using h2
  subst hb47
  refine ⟨h1, ?_⟩
  cases t with
  | byte x =>
    have hx : x = 47 := by
      simp only [oneG, Bool.or_eq_true, Bool.and_eq_true, beq_iff_eq] at hb
      rcases hb with h | ⟨_, h⟩
      · exact h.symm
      · exact other_47 x h.symm
    subst hx
    simp only [oneG, Bool.or_eq_true, Bool.and_eq_true, beq_iff_eq] at hc
    have ho : otherB 47 = 47 := by decide
    rcases hc with h | ⟨_, h⟩
    · rw [h]; decide
    · rw [h, ho]; decide
  | any => simp [oneG, freeG, h1] at hb
  | set p => simp [oneG, freeG, h1] at hb
  | star => simp [oneG] at hb
/-- the walk's measure: the last star, how far it went, the token -/
def muG (n m a b c : Nat) : Nat := a * ((m + 2) * (n + 2)) + b * (n + 2) + c
theorem muG_a {n m a b c a' b' c' : Nat} (h : a' < a) (hb : b' ≤ m + 1) (hc : c' ≤ n + 1) : muG n m a' b' c' < muG n m a b c := by
  unfold muG
  have h1 : (a' + 1) * ((m + 2) * (n + 2)) ≤ a * ((m + 2) * (n + 2)) := Nat.mul_le_mul_right _ h
  have h2 : b' * (n + 2) ≤ (m + 1) * (n + 2) := Nat.mul_le_mul_right _ hb
  have h3 : (m + 2) * (n + 2) = (m + 1) * (n + 2) + (n + 2) := by rw [← Nat.succ_mul]
  rw [Nat.succ_mul] at h1
  generalize a' * ((m + 2) * (n + 2)) = x at *
  generalize a * ((m + 2) * (n + 2)) = y at *
  generalize (m + 1) * (n + 2) = z at *
  generalize b' * (n + 2) = u at *
  generalize b * (n + 2) = v at *
  omega
theorem muG_b {n m a b c b' c' : Nat} (h : b' < b) (hc : c' ≤ n + 1) : muG n m a b' c' < muG n m a b c := by
  unfold muG
  have h2 : (b' + 1) * (n + 2) ≤ b * (n + 2) := Nat.mul_le_mul_right _ h
  rw [Nat.succ_mul] at h2
  omega
theorem muG_c {n m a b c c' : Nat} (h : c' < c) : muG n m a b c' < muG n m a b c := by unfold muG; omega
/-- where the walk stands: no star so far, or behind one; z: one more than the last star, f: how far it went -/
def GState (fr : UInt8 → Bool) (l : List GT) (s : List UInt8) (r : Bool) (i k z f : Nat) : Prop :=
  i ≤ l.length ∧ k ≤ s.length ∧ z ≤ l.length ∧ f ≤ s.length ∧ ((z = 0 ∧ f = 0 ∧ r = matchG fr (l.drop i) (s.drop k)) ∨ (1 ≤ z ∧ GlobAt fr l s r i k (z - 1) f))
variable {fr : UInt8 → Bool} {l : List GT} {s : List UInt8} {r : Bool} {i k z f : Nat}
theorem GState.start (h : r = matchG fr l s) : GState fr l s r 0 0 0 0 := ⟨Nat.zero_le _, Nat.zero_le _, Nat.zero_le _, Nat.zero_le _, Or.inl ⟨rfl, rfl, by simpa using h⟩⟩
theorem GState.star (hst : ∀ t ∈ l, Strict fr t) (H : GState fr l s r i k z f) (hi : l[i]? = some .star) : GState fr l s r (i + 1) k (i + 1) k ∧ z < i + 1 := by
  obtain ⟨h1, h2, h3, h4, h5⟩ := H
  have hil := (List.getElem?_eq_some_iff.1 hi).1
  rcases h5 with ⟨rfl, rfl, h⟩ | ⟨hz, h⟩
  · exact ⟨⟨hil, h2, hil, h2, Or.inr ⟨by omega, new_star l s r i k hi h2 h⟩⟩, by omega⟩
  · have := h.lt
    exact ⟨⟨hil, h2, hil, h2, Or.inr ⟨by omega, again_star l s r i k _ f hst h hi⟩⟩, by omega⟩
theorem GState.one (H : GState fr l s r i k z f) (t : GT) (b : UInt8) (hi : l[i]? = some t) (hk : s[k]? = some b) (hn : t.isStar = false) (ho : t.tells b = true) : GState fr l s r (i + 1) (k + 1) z f := by
  obtain ⟨h1, h2, h3, h4, h5⟩ := H
  refine ⟨(List.getElem?_eq_some_iff.1 hi).1, (List.getElem?_eq_some_iff.1 hk).1, h3, h4, ?_⟩
  rcases h5 with ⟨h6, h7, h⟩ | ⟨hz, h⟩
  · exact Or.inl ⟨h6, h7, h.trans (one_step l s i k t b hi hk hn ho)⟩
  · exact Or.inr ⟨hz, h.one l s r i k _ f t b hi hk hn ho⟩
theorem GState.done (H : GState fr l s r i k z f) (hk : k = s.length) (hi : i = l.length) : r = true := by
  have hd := Go.Proofs.YtphfcebacilbbaaDoor.done (fr := fr) l s i k hk hi
  obtain ⟨h1, h2, h3, h4, h5⟩ := H
  rcases h5 with ⟨_, _, h⟩ | ⟨_, h⟩
  · rw [h, hd]
  · rw [h.res, hd, Bool.true_or]
theorem GState.back (H : GState fr l s r i k z f) (hm : matchG fr (l.drop i) (s.drop k) = false) (hz : 1 ≤ z) (b : UInt8) (hb : s[f]? = some b) (hf : fr b = true) : GState fr l s r z (f + 1) z (f + 1) := by
  obtain ⟨h1, h2, h3, h4, h5⟩ := H
  have hfl := (List.getElem?_eq_some_iff.1 hb).1
  rcases h5 with ⟨h6, _⟩ | ⟨_, h⟩
  · omega
  · have := h.back l s r i k _ f hm b hb hf
    rw [show z - 1 + 1 = z by omega] at this
    exact ⟨h3, hfl, h3, hfl, Or.inr ⟨hz, this⟩⟩
theorem GState.no (H : GState fr l s r i k z f) (hm : matchG fr (l.drop i) (s.drop k) = false) (hn : z = 0 ∨ ∀ b, s[f]? = some b → fr b = false) : r = false := by
  obtain ⟨h1, h2, h3, h4, h5⟩ := H
  rcases h5 with ⟨_, _, h⟩ | ⟨hz, h⟩
  · rw [h, hm]
  · rcases hn with hn | hn
    · omega
    · exact h.no l s r i k _ f hm hn
end Go.Proofs.YtphfcebacilbbaaDoor
