/- Plain laws of globs: what some tokens match; the walk back to the last star finds it. -/
import Derived.Test.YtphfcebacilbbaaDoorKit
namespace Go.Proofs.YtphfcebacilbbaaDoor
open Go.RowKit

/-- a token by what bytes it matches: a star, or one byte -/
inductive GT where
  | star : GT
  | one (f : UInt8 → Bool) : GT
def GT.isStar : GT → Bool
  | .star => true
  | .one _ => false
def GT.tells : GT → UInt8 → Bool
  | .star, _ => false
  | .one f, b => f b
/-- do tokens match all of a text? fr: the bytes that a star may take -/
def matchG (fr : UInt8 → Bool) : List GT → List UInt8 → Bool
  | [], s => s.isEmpty
  | .star :: l, [] => matchG fr l []
  | .star :: l, c :: s => matchG fr l (c :: s) || (fr c && matchG fr (.star :: l) s)
  | .one _ :: _, [] => false
  | .one f :: l, c :: s => f c && matchG fr l s
termination_by l s => l.length + s.length
variable {fr : UInt8 → Bool}
theorem star_iff (l : List GT) : ∀ s : List UInt8, matchG fr (.star :: l) s = true ↔ ∃ k, k ≤ s.length ∧ (∀ b ∈ s.take k, fr b = true) ∧ matchG fr l (s.drop k) = true
  | [] => by
    rw [matchG]
    constructor
    · intro h; exact ⟨0, Nat.le_refl _, by simp, h⟩
    · rintro ⟨k, _, _, h⟩; simpa using h
  | c :: s => by
    rw [matchG, Bool.or_eq_true, Bool.and_eq_true, star_iff l s]
    constructor
    · rintro (h | ⟨h1, k, h2, h3, h4⟩)
      · exact ⟨0, Nat.zero_le _, by simp, h⟩
      · refine ⟨k + 1, by simpa using h2, ?_, h4⟩
        intro b hb
        rw [List.take_succ_cons, List.mem_cons] at hb
        rcases hb with rfl | hb
        · exact h1
        · exact h3 b hb
    · rintro ⟨k, h1, h2, h3⟩
      cases k with
      | zero => exact Or.inl h3
      | succ k => exact Or.inr ⟨h2 c (by simp), k, by simpa using h1, fun b hb => h2 b (by rw [List.take_succ_cons]; exact List.mem_cons_of_mem _ hb), h3⟩
theorem one_cons (f : UInt8 → Bool) (l : List GT) (c : UInt8) (s : List UInt8) : matchG fr (.one f :: l) (c :: s) = (f c && matchG fr l s) := by rw [matchG]
theorem one_nil (f : UInt8 → Bool) (l : List GT) : matchG fr (.one f :: l) [] = false := by rw [matchG]
theorem none_iff (s : List UInt8) : matchG fr [] s = s.isEmpty := by rw [matchG]
theorem match_append (l2 : List GT) : ∀ (l1 : List GT) (s : List UInt8), matchG fr (l1 ++ l2) s = true ↔ ∃ k, k ≤ s.length ∧ matchG fr l1 (s.take k) = true ∧ matchG fr l2 (s.drop k) = true
  | [], s => by
    simp only [List.nil_append, none_iff]
    constructor
    · intro h; exact ⟨0, Nat.zero_le _, by simp, h⟩
    · rintro ⟨k, h1, h2, h3⟩
      have : k = 0 ∨ s = [] := by
        rw [List.isEmpty_iff] at h2
        simpa using h2
      rcases this with rfl | rfl
      · exact h3
      · simpa using h3
  | .star :: l, s => by
    rw [List.cons_append, star_iff]
    constructor
    · rintro ⟨k, h1, h2, h3⟩
      obtain ⟨j, h4, h5, h6⟩ := (match_append l2 l _).1 h3
      rw [List.length_drop] at h4
      refine ⟨k + j, by omega, (star_iff _ _).2 ⟨k, by rw [List.length_take]; omega, ?_, ?_⟩, by rw [← List.drop_drop]; exact h6⟩
      · rw [List.take_take, Nat.min_eq_left (by omega)]; exact h2
      · rw [List.drop_take, Nat.add_sub_cancel_left]; exact h5
    · rintro ⟨j, h1, h2, h3⟩
      obtain ⟨k, h4, h5, h6⟩ := (star_iff _ _).1 h2
      rw [List.length_take] at h4
      refine ⟨k, by omega, ?_, (match_append l2 l _).2 ⟨j - k, by rw [List.length_drop]; omega, ?_, ?_⟩⟩
      · rw [List.take_take, Nat.min_eq_left (by omega)] at h5; exact h5
      · rw [← List.drop_take]; exact h6
      · rw [List.drop_drop, show k + (j - k) = j by omega]; exact h3
  | .one f :: l, [] => by
    rw [List.cons_append, one_nil]
    constructor
    · intro h; cases h
    · rintro ⟨k, _, h, _⟩
      rw [List.take_nil, one_nil] at h
      cases h
  | .one f :: l, c :: s => by
    rw [List.cons_append, one_cons, Bool.and_eq_true, match_append l2 l s]
    constructor
    · rintro ⟨h1, k, h2, h3, h4⟩
      exact ⟨k + 1, by simpa using h2, by rw [List.take_succ_cons, one_cons, h1, h3]; rfl, h4⟩
    · rintro ⟨k, h1, h2, h3⟩
      cases k with
      | zero => rw [List.take_zero, one_nil] at h2; cases h2
      | succ k =>
        rw [List.take_succ_cons, one_cons, Bool.and_eq_true] at h2
        exact ⟨h2.1, k, by simpa using h1, h2.2, h3⟩
/-- tokens without a star match a text of their own length, byte by byte -/
theorem seg_iff : ∀ (l : List GT) (s : List UInt8), (∀ t ∈ l, t.isStar = false) → (matchG fr l s = true ↔ s.length = l.length ∧ ∀ (j : Nat) (t : GT) (b : UInt8), l[j]? = some t → s[j]? = some b → t.tells b = true)
  | [], s, _ => by
    rw [none_iff, List.isEmpty_iff]
    constructor
    · rintro rfl; exact ⟨rfl, fun j t b h => by simp at h⟩
    · rintro ⟨h, _⟩; exact List.length_eq_zero_iff.1 h
  | .star :: l, s, h => by have := h .star (by simp); cases this
  | .one f :: l, [], h => by
    rw [one_nil]
    constructor
    · intro h; cases h
    · rintro ⟨h, _⟩; simp at h
  | .one f :: l, c :: s, h => by
    rw [one_cons, Bool.and_eq_true, seg_iff l s (fun t ht => h t (List.mem_cons_of_mem _ ht))]
    constructor
    · rintro ⟨h1, h2, h3⟩
      refine ⟨by simp [h2], ?_⟩
      intro j t b ht hb
      cases j with
      | zero => cases ht; cases hb; exact h1
      | succ j => exact h3 j t b ht hb
    · rintro ⟨h1, h2⟩
      exact ⟨h2 0 _ _ rfl rfl, by simpa using h1, fun j t b ht hb => h2 (j + 1) t b ht hb⟩
/-- a token that tells a byte that no star may take tells no byte that one may -/
def Strict (fr : UInt8 → Bool) (t : GT) : Prop := ∀ b c, t.tells b = true → fr b = false → t.tells c = true → fr c = false
theorem back_none (seg rest : List GT) (u v : List UInt8) (hseg : ∀ t ∈ seg, t.isStar = false) (hst : ∀ t ∈ seg, Strict fr t) (hu : matchG fr seg u = true) (d : Nat) (hdl : d ≤ (u ++ v).length) (hd : ∀ b ∈ (u ++ v).take d, fr b = true)
    (h : matchG fr (.star :: (seg ++ .star :: rest)) ((u ++ v).drop d) = true) : matchG fr (.star :: rest) v = true := by
  obtain ⟨e, he, hf, h⟩ := (star_iff _ _).1 h
  obtain ⟨m, hm, hs, h⟩ := (match_append _ _ _).1 h
  obtain ⟨hul, hup⟩ := (seg_iff seg u hseg).1 hu
  obtain ⟨hsl, hsp⟩ := (seg_iff seg _ hseg).1 hs
  rw [List.length_take] at hsl
  have hml : m = seg.length := by omega
  subst hml
  rw [show List.drop e (List.drop d (u ++ v)) = List.drop (d + e) (u ++ v) from List.drop_drop] at hs h hsp hm
  rw [List.length_drop] at hm he
  have hD : ∀ j b, j < d + e → (u ++ v)[j]? = some b → fr b = true := by
    intro j b hj hb
    by_cases h1 : j < d
    · exact hd b (List.mem_of_getElem? (i := j) (by rw [List.getElem?_take, if_pos h1]; exact hb))
    · refine hf b (List.mem_of_getElem? (i := j - d) ?_)
      rw [List.getElem?_take, if_pos (by omega), List.getElem?_drop, show d + (j - d) = j by omega]; exact hb
  have hDl : d + e ≤ (u ++ v).length := by omega
  generalize d + e = D at *
  clear hd hf
  obtain ⟨g, hg, hgf, h⟩ := (star_iff _ _).1 h
  by_cases hD0 : D = 0
  · subst hD0
    rw [List.drop_zero, List.drop_left' hul] at hg hgf h
    exact (star_iff _ _).2 ⟨g, hg, hgf, h⟩
  have key : ∀ j b, j < seg.length → (u ++ v)[D + j]? = some b → fr b = true := by
    intro j
    induction j using Nat.strongRecOn with
    | ind j ih =>
      intro b hj hb
      cases hfb : fr b with
      | true => rfl
      | false =>
        exfalso
        have ht : seg[j]? = some seg[j] := List.getElem?_eq_getElem hj
        have htm := List.getElem_mem hj
        have h1 : (seg[j]).tells b = true := hsp j _ b ht (by rw [List.getElem?_take, if_pos hj, List.getElem?_drop]; exact hb)
        have hju : j < u.length := by omega
        have hu2 : u[j]? = some u[j] := List.getElem?_eq_getElem hju
        have h2 := hup j _ _ ht hu2
        have h3 := hst _ htm b _ h1 hfb h2
        have h4 : (u ++ v)[j]? = some u[j] := by rw [List.getElem?_append_left hju]; exact hu2
        by_cases hjD : j < D
        · rw [hD j _ hjD h4] at h3; cases h3
        · have := ih (j - D) (by omega) u[j] (by omega) (by rw [show D + (j - D) = j by omega]; exact h4)
          rw [this] at h3; cases h3
  have hv : v = (u ++ v).drop seg.length := (List.drop_left' hul).symm
  rw [List.length_drop, List.length_drop] at hg
  refine (star_iff _ _).2 ⟨D + g, ?_, ?_, ?_⟩
  · rw [hv, List.length_drop]; omega
  · intro b hb
    obtain ⟨j, hj⟩ := List.mem_iff_getElem?.1 hb
    rw [List.getElem?_take] at hj
    split at hj
    · rename_i hjl
      have hz : (u ++ v)[seg.length + j]? = some b := by rw [← List.getElem?_drop, ← hv]; exact hj
      by_cases h1 : seg.length + j < D
      · exact hD _ _ h1 hz
      · by_cases h2 : j < D
        · exact key (seg.length + j - D) b (by omega) (by rw [show D + (seg.length + j - D) = seg.length + j by omega]; exact hz)
        · refine hgf b (List.mem_of_getElem? (i := j - D) ?_)
          rw [List.getElem?_take, if_pos (by omega), List.drop_drop, List.getElem?_drop, show D + seg.length + (j - D) = seg.length + j by omega]
          exact hz
    · cases hj
  · rw [hv, List.drop_drop]
    rw [List.drop_drop, List.drop_drop] at h
    rw [show seg.length + (D + g) = D + (seg.length + g) by omega]
    exact h
/-- where the walk stands: the tokens from i on and the text from k on, or one byte more for the last star -/
structure GlobAt (fr : UInt8 → Bool) (l : List GT) (s : List UInt8) (r : Bool) (i k st far : Nat) : Prop where
  il : i ≤ l.length
  kl : k ≤ s.length
  at' : l[st]? = some .star
  lt : st < i
  sum : far + i = k + st + 1
  le : far ≤ k
  seg : ∀ j t b, st < j → j < i → l[j]? = some t → s[far + j - (st + 1)]? = some b → t.isStar = false ∧ t.tells b = true
  res : r = (matchG fr (l.drop i) (s.drop k) || ((s[far]?).any fr && matchG fr (l.drop st) (s.drop (far + 1))))
theorem drop_get {α : Type} (l : List α) (i : Nat) (t : α) (h : l[i]? = some t) : l.drop i = t :: l.drop (i + 1) := by
  obtain ⟨hi, rfl⟩ := List.getElem?_eq_some_iff.1 h
  exact List.drop_eq_getElem_cons hi
/-- a star at i: all stands as behind a star -/
theorem new_star (l : List GT) (s : List UInt8) (r : Bool) (i k : Nat) (hi : l[i]? = some .star) (hk : k ≤ s.length) (h : r = matchG fr (l.drop i) (s.drop k)) : GlobAt fr l s r (i + 1) k i k := by
  refine ⟨(List.getElem?_eq_some_iff.1 hi).1, hk, hi, by omega, by omega, by omega, fun j t b h1 h2 => by omega, ?_⟩
  rw [h, drop_get l i _ hi]
  by_cases hlt : k < s.length
  · have e : s[k]? = some s[k] := List.getElem?_eq_getElem hlt
    rw [drop_get s k _ e, matchG, e]
    rfl
  · have e : s[k]? = none := List.getElem?_eq_none (by omega)
    rw [List.drop_eq_nil_of_le (by omega : s.length ≤ k), matchG, e]
    simp
theorem again_star (l : List GT) (s : List UInt8) (r : Bool) (i k st far : Nat) (hst : ∀ t ∈ l, Strict fr t) (H : GlobAt fr l s r i k st far) (hi : l[i]? = some .star) : GlobAt fr l s r (i + 1) k i k := by
  refine new_star l s r i k hi H.kl ?_
  rw [H.res]
  cases hm : matchG fr (l.drop i) (s.drop k) with
  | true => rfl
  | false =>
    rw [Bool.false_or, Bool.and_eq_false_iff]
    by_cases ha : (s[far]?).any fr = true
    · right
      cases hx : matchG fr (l.drop st) (s.drop (far + 1)) with
      | false => rfl
      | true =>
        exfalso
        have hlt := H.lt
        have hsum := H.sum
        have hle := H.le
        have hkl := H.kl
        have hil := H.il
        have hseg : l.drop st = .star :: ((l.drop (st + 1)).take (i - (st + 1)) ++ .star :: l.drop (i + 1)) := by
          rw [drop_get l st _ H.at', ← drop_get l i _ hi]
          congr 1
          conv => lhs; rw [← List.take_append_drop (i - (st + 1)) (l.drop (st + 1))]
          rw [List.drop_drop, show st + 1 + (i - (st + 1)) = i by omega]
        have hs : s.drop far = (s.drop far).take (k - far) ++ s.drop k := by
          conv => lhs; rw [← List.take_append_drop (k - far) (s.drop far)]
          rw [List.drop_drop, show far + (k - far) = k by omega]
        have hns : ∀ t ∈ (l.drop (st + 1)).take (i - (st + 1)), t.isStar = false := by
          intro t ht
          obtain ⟨j, hj⟩ := List.mem_iff_getElem?.1 ht
          rw [List.getElem?_take] at hj
          split at hj
          · rename_i hjl
            rw [List.getElem?_drop] at hj
            have hb : s[far + j]? = some s[far + j] := List.getElem?_eq_getElem (by omega)
            exact (H.seg (st + 1 + j) t _ (by omega) (by omega) hj (by rw [show far + (st + 1 + j) - (st + 1) = far + j by omega]; exact hb)).1
          · cases hj
        have hu : matchG fr ((l.drop (st + 1)).take (i - (st + 1))) ((s.drop far).take (k - far)) = true := by
          rw [seg_iff _ _ hns]
          refine ⟨by simp only [List.length_take, List.length_drop]; omega, ?_⟩
          intro j t b ht hb
          rw [List.getElem?_take] at ht hb
          split at ht
          · rename_i hjl
            rw [if_pos (by omega), List.getElem?_drop] at hb
            rw [List.getElem?_drop] at ht
            exact (H.seg (st + 1 + j) t b (by omega) (by omega) ht (by rw [show far + (st + 1 + j) - (st + 1) = far + j by omega]; exact hb)).2
          · cases ht
        have := back_none (fr := fr) _ (l.drop (i + 1)) ((s.drop far).take (k - far)) (s.drop k) hns (fun t ht => hst t (List.mem_of_mem_drop (List.mem_of_mem_take ht))) hu 1 ?_ ?_ ?_
        · rw [← drop_get l i _ hi, hm] at this; cases this
        · rw [← hs, List.length_drop]
          have : far < s.length := by
            cases hx2 : s[far]? with
            | none => rw [hx2] at ha; cases ha
            | some b => exact (List.getElem?_eq_some_iff.1 hx2).1
          omega
        · rw [← hs]
          intro b hb
          obtain ⟨j, hj⟩ := List.mem_iff_getElem?.1 hb
          rw [List.getElem?_take] at hj
          split at hj
          · have : j = 0 := by omega
            subst this
            rw [List.getElem?_drop, Nat.add_zero] at hj
            rw [hj] at ha
            exact ha
          · cases hj
        · rw [← hs, ← hseg, List.drop_drop]; exact hx
    · left; simpa using ha
theorem one_step (l : List GT) (s : List UInt8) (i k : Nat) (t : GT) (b : UInt8) (hi : l[i]? = some t) (hk : s[k]? = some b) (hn : t.isStar = false) (ho : t.tells b = true) : matchG fr (l.drop i) (s.drop k) = matchG fr (l.drop (i + 1)) (s.drop (k + 1)) := by
  rw [drop_get l i _ hi, drop_get s k _ hk]
  cases t with
  | star => cases hn
  | one f => rw [one_cons, show f b = true from ho, Bool.true_and]
theorem GlobAt.one (l : List GT) (s : List UInt8) (r : Bool) (i k st far : Nat) (H : GlobAt fr l s r i k st far) (t : GT) (b : UInt8) (hi : l[i]? = some t) (hk : s[k]? = some b) (hn : t.isStar = false) (ho : t.tells b = true) : GlobAt fr l s r (i + 1) (k + 1) st far := by
  have hlt := H.lt
  have hsum := H.sum
  have hle := H.le
  refine ⟨(List.getElem?_eq_some_iff.1 hi).1, (List.getElem?_eq_some_iff.1 hk).1, H.at', by omega, by omega, by omega, ?_, ?_⟩
  · intro j t' b' h1 h2 h3 h4
    by_cases hj : j < i
    · exact H.seg j t' b' h1 hj h3 h4
    · have : j = i := by omega
      subst this
      rw [hi] at h3; cases h3
      rw [show far + j - (st + 1) = k by omega, hk] at h4; cases h4
      exact ⟨hn, ho⟩
  · rw [H.res, one_step l s i k t b hi hk hn ho]
/-- nothing goes on from here -/
theorem stuck (l : List GT) (s : List UInt8) (i k : Nat) (hns : ∀ t, l[i]? = some t → t.isStar = false) (hne : ¬ (k = s.length ∧ i = l.length)) (hk : k ≤ s.length) (hi : i ≤ l.length)
    (hno : ∀ t b, l[i]? = some t → s[k]? = some b → t.tells b = false) : matchG fr (l.drop i) (s.drop k) = false := by
  by_cases h1 : i < l.length
  · have e : l[i]? = some l[i] := List.getElem?_eq_getElem h1
    rw [drop_get l i _ e]
    have hn := hns _ e
    generalize l[i] = t at *
    cases t with
    | star => cases hn
    | one f =>
      by_cases h2 : k < s.length
      · have e2 : s[k]? = some s[k] := List.getElem?_eq_getElem h2
        rw [drop_get s k _ e2, one_cons, show f s[k] = false from hno _ _ e e2, Bool.false_and]
      · rw [List.drop_eq_nil_of_le (by omega : s.length ≤ k), one_nil]
  · rw [List.drop_eq_nil_of_le (by omega : l.length ≤ i), none_iff]
    by_cases h2 : k < s.length
    · rw [List.drop_eq_getElem_cons h2]; rfl
    · exact absurd ⟨by omega, by omega⟩ hne
theorem done (l : List GT) (s : List UInt8) (i k : Nat) (hk : k = s.length) (hi : i = l.length) : matchG fr (l.drop i) (s.drop k) = true := by
  rw [List.drop_eq_nil_of_le (by omega : l.length ≤ i), none_iff, List.drop_eq_nil_of_le (by omega : s.length ≤ k)]; rfl
/-- back to the star, which takes one byte more -/
theorem GlobAt.back (l : List GT) (s : List UInt8) (r : Bool) (i k st far : Nat) (H : GlobAt fr l s r i k st far) (hm : matchG fr (l.drop i) (s.drop k) = false) (b : UInt8) (hb : s[far]? = some b) (hf : fr b = true) : GlobAt fr l s r (st + 1) (far + 1) st (far + 1) := by
  have := new_star (fr := fr) l s r st (far + 1) H.at' (List.getElem?_eq_some_iff.1 hb).1 (by rw [H.res, hm, hb]; simp [hf])
  exact this
theorem GlobAt.no (l : List GT) (s : List UInt8) (r : Bool) (i k st far : Nat) (H : GlobAt fr l s r i k st far) (hm : matchG fr (l.drop i) (s.drop k) = false) (hn : ∀ b, s[far]? = some b → fr b = false) : r = false := by
  rw [H.res, hm, Bool.false_or]
  cases h : s[far]? with
  | none => rfl
  | some b => simp [hn b h]
/-- the places at which what the tokens match ends, one token more -/
theorem ends_star (l : List GT) (s : List UInt8) (b : UInt8) : matchG fr (l ++ [.star]) (s ++ [b]) = (matchG fr l (s ++ [b]) || (fr b && matchG fr (l ++ [.star]) s)) := by
  have ast : ∀ v : List UInt8, matchG fr [.star] v = true ↔ ∀ x ∈ v, fr x = true := by
    intro v
    rw [star_iff]
    constructor
    · rintro ⟨k, h1, h2, h3⟩ x hx
      rw [none_iff, List.isEmpty_iff, List.drop_eq_nil_iff] at h3
      rw [List.take_of_length_le h3] at h2
      exact h2 x hx
    · intro h
      exact ⟨v.length, Nat.le_refl _, by rw [List.take_length]; exact h, by rw [List.drop_length, none_iff]; rfl⟩
  rw [Bool.eq_iff_iff, Bool.or_eq_true, Bool.and_eq_true, match_append, match_append]
  constructor
  · rintro ⟨k, h1, h2, h3⟩
    rw [List.length_append, List.length_singleton] at h1
    by_cases hk : k = s.length + 1
    · left
      rw [List.take_of_length_le (by simp; omega)] at h2
      exact h2
    · right
      rw [List.drop_append_of_le_length (by omega), ast] at h3
      rw [List.take_append_of_le_length (by omega)] at h2
      exact ⟨h3 b (by simp), k, by omega, h2, (ast _).2 fun x hx => h3 x (by simp [hx])⟩
  · rintro (h | ⟨hb, k, h1, h2, h3⟩)
    · exact ⟨(s ++ [b]).length, Nat.le_refl _, by rw [List.take_length]; exact h, by rw [List.drop_length, ast]; simp⟩
    · refine ⟨k, by simp; omega, ?_, ?_⟩
      · rw [List.take_append_of_le_length h1]; exact h2
      · rw [List.drop_append_of_le_length h1, ast]
        rw [ast] at h3
        intro x hx
        rcases List.mem_append.1 hx with hx | hx
        · exact h3 x hx
        · rw [List.mem_singleton.1 hx]; exact hb
theorem ends_star_nil (l : List GT) : matchG fr (l ++ [.star]) [] = matchG fr l [] := by
  rw [Bool.eq_iff_iff, match_append]
  constructor
  · rintro ⟨k, _, h, _⟩; simpa using h
  · intro h; exact ⟨0, Nat.le_refl _, by simpa using h, by rw [List.drop_nil, matchG, none_iff]; rfl⟩
theorem ends_one (l : List GT) (f : UInt8 → Bool) (s : List UInt8) (b : UInt8) : matchG fr (l ++ [.one f]) (s ++ [b]) = (matchG fr l s && f b) := by
  rw [Bool.eq_iff_iff, Bool.and_eq_true, match_append]
  constructor
  · rintro ⟨k, h1, h2, h3⟩
    have h4 := ((seg_iff (fr := fr) [.one f] _ (by intro t ht; rw [List.mem_singleton.1 ht]; rfl)).1 h3)
    have h5 := h4.1
    rw [List.length_drop, List.length_append, List.length_singleton, List.length_singleton] at h5
    have hk : k = s.length := by omega
    subst hk
    rw [List.drop_left] at h3
    rw [List.take_left] at h2
    rw [one_cons, Bool.and_eq_true] at h3
    exact ⟨h2, h3.1⟩
  · rintro ⟨h1, h2⟩
    refine ⟨s.length, by simp, by rw [List.take_left]; exact h1, ?_⟩
    rw [List.drop_left, one_cons, h2, none_iff]; rfl
theorem ends_one_nil (l : List GT) (f : UInt8 → Bool) : matchG fr (l ++ [.one f]) [] = false := by
  cases h : matchG fr (l ++ [.one f]) [] with
  | false => rfl
  | true =>
    obtain ⟨k, _, _, h3⟩ := (match_append _ _ _).1 h
    rw [List.drop_nil, one_nil] at h3
    cases h3
end Go.Proofs.YtphfcebacilbbaaDoor
