import Derived.Lib.ItoaNum
namespace Go.Proofs.YtjldphpdfckjnaaDoor
open Go.Lib

def dg (c : UInt8) : Bool := decide (48 ≤ c.toNat ∧ c.toNat ≤ 57)
def decN (l : List UInt8) : Nat := l.foldl (fun v c => 10 * v + (c.toNat - 48)) 0
theorem decN_snoc (l : List UInt8) (c : UInt8) : decN (l ++ [c]) = 10 * decN l + (c.toNat - 48) := by
  unfold decN; rw [List.foldl_append]; rfl
def AllDg (l : List UInt8) : Prop := ∀ c ∈ l, dg c = true
theorem decN_lt : ∀ (n : Nat) (l : List UInt8), AllDg l → l.length = n → decN l < 10 ^ n
  | 0, l, _, h => by
    have : l = [] := List.eq_nil_of_length_eq_zero h
    subst this; decide
  | n + 1, l, hl, h => by
    have hne : l ≠ [] := by intro e; subst e; cases h
    have e := List.dropLast_concat_getLast hne
    have h1 := decN_lt n l.dropLast (fun c hc => hl c ((List.dropLast_sublist l).subset hc)) (by simp; omega)
    have h2 := of_decide_eq_true (hl _ (List.getLast_mem hne))
    rw [← e, decN_snoc, Nat.pow_succ]
    omega

theorem head_app (l r : List UInt8) (h : l ≠ []) : (l ++ r).head? = l.head? := by
  cases l with
  | nil => exact absurd rfl h
  | cons => rfl

/-- the numeral's laws -/
theorem dig_byte (k : Nat) (h : k < 10) : (UInt8.ofNat (48 + k)).toNat = 48 + k := by
  rw [UInt8.toNat_ofNat', Nat.mod_eq_of_lt (by omega)]
theorem digs_dg : ∀ u : Nat, AllDg (decDigits u) := by
  intro u
  induction u using Nat.strongRecOn with
  | _ u ih =>
    rw [decDigits]
    by_cases h : u < 10
    · rw [dif_pos h]
      intro c hc
      rw [List.mem_singleton.1 hc]
      unfold dg; rw [dig_byte u h]; simp; omega
    · rw [dif_neg h]
      intro c hc
      rcases List.mem_append.1 hc with g | g
      · exact ih _ (by omega) c g
      · rw [List.mem_singleton.1 g]
        unfold dg; rw [dig_byte _ (Nat.mod_lt _ (by omega))]; simp; omega
theorem digs_val : ∀ u : Nat, decN (decDigits u) = u := by
  intro u
  induction u using Nat.strongRecOn with
  | _ u ih =>
    rw [decDigits]
    by_cases h : u < 10
    · rw [dif_pos h]
      show 10 * 0 + ((UInt8.ofNat (48 + u)).toNat - 48) = u
      rw [dig_byte u h]; omega
    · rw [dif_neg h, decN_snoc, ih _ (by omega), dig_byte _ (Nat.mod_lt _ (by omega))]
      omega
theorem digs_ne (u : Nat) : decDigits u ≠ [] := by
  rw [decDigits]
  by_cases h : u < 10
  · rw [dif_pos h]; simp
  · rw [dif_neg h]; simp
theorem digs_len : ∀ (k u : Nat), u < 10 ^ (k + 1) → (decDigits u).length ≤ k + 1
  | 0, u, h => by rw [decDigits, dif_pos (by simpa using h)]; simp
  | k + 1, u, h => by
    rw [decDigits]
    by_cases h1 : u < 10
    · rw [dif_pos h1]; simp
    · rw [dif_neg h1, List.length_append, List.length_singleton]
      have := digs_len k (u / 10) (by rw [Nat.pow_succ] at h; omega)
      omega
/-- a numeral of more than one digit begins with no nought -/
theorem digs_head : ∀ u : Nat, 0 < u → (decDigits u).head? ≠ some 48 := by
  intro u
  induction u using Nat.strongRecOn with
  | _ u ih =>
    intro hu
    rw [decDigits]
    by_cases h : u < 10
    · rw [dif_pos h]
      intro e
      have e := Option.some.inj e
      have := congrArg UInt8.toNat e
      rw [dig_byte u h] at this
      have h48 : (48 : UInt8).toNat = 48 := rfl
      rw [h48] at this
      omega
    · rw [dif_neg h]
      have h1 := ih (u / 10) (by omega) (by omega)
      rw [List.head?_append]
      cases hd : (decDigits (u / 10)).head? with
      | none => exact absurd (List.head?_eq_none_iff.1 hd) (digs_ne _)
      | some c => rw [hd] at h1; simpa using h1
/-- digits without a nought ahead are their number's numeral -/
theorem digs_of : ∀ (n : Nat) (l : List UInt8), l.length = n → AllDg l → l ≠ [] → (l.head? = some 48 → l.length = 1) → decDigits (decN l) = l
  | 0, l, h, _, hne, _ => absurd (List.eq_nil_of_length_eq_zero h) hne
  | n + 1, l, h, hd, hne, h0 => by
    have e := List.dropLast_concat_getLast hne
    have hg := of_decide_eq_true (hd _ (List.getLast_mem hne))
    have hb : UInt8.ofNat (48 + ((l.getLast hne).toNat - 48)) = l.getLast hne := by
      rw [show 48 + ((l.getLast hne).toNat - 48) = (l.getLast hne).toNat by omega]
      exact UInt8.ofNat_toNat
    by_cases h1 : n = 0
    · subst h1
      have : l.dropLast = [] := List.eq_nil_of_length_eq_zero (by simp; omega)
      rw [← e, this, List.nil_append]
      have hv : decN [l.getLast hne] = (l.getLast hne).toNat - 48 := by unfold decN; simp
      rw [hv, decDigits, dif_pos (by omega), hb]
    · have hne' : l.dropLast ≠ [] := by
        intro g
        have := congrArg List.length g
        simp at this
        omega
      have hh : l.dropLast.head? = l.head? := by
        rw [← head_app _ [l.getLast hne] hne', e]
      have ih := digs_of n l.dropLast (by simp; omega) (fun c hc => hd c ((List.dropLast_sublist l).subset hc)) hne' (by
        rw [hh]; intro g; have := h0 g; omega)
      have hpos : 0 < decN l.dropLast := by
        rcases Nat.eq_zero_or_pos (decN l.dropLast) with z | z
        · exfalso
          rw [z] at ih
          have e0 : decDigits 0 = [48] := by rw [decDigits, dif_pos (by omega)]; rfl
          rw [e0] at ih
          rw [← ih] at hh
          have := h0 hh.symm
          omega
        · exact z
      rw [← e, decN_snoc, decDigits, dif_neg (by omega)]
      rw [show (10 * decN l.dropLast + ((l.getLast hne).toNat - 48)) / 10 = decN l.dropLast by omega, show (10 * decN l.dropLast + ((l.getLast hne).toNat - 48)) % 10 = (l.getLast hne).toNat - 48 by omega, ih, hb]

/-- how many digits stand ahead, so many at most -/
def preD : Nat → List UInt8 → Nat
  | 0, _ => 0
  | _ + 1, [] => 0
  | k + 1, c :: l => if dg c = true then preD k l + 1 else 0
theorem preD_eq : ∀ (f k : Nat) (s : List UInt8), (∀ j, j < k → ∃ c, s[j]? = some c ∧ dg c = true) → k ≤ f → (k = f ∨ s[k]? = none ∨ ∃ c, s[k]? = some c ∧ dg c = false) → preD f s = k
  | 0, k, s, _, h, _ => by rw [preD]; omega
  | f + 1, k, [], hj, _, _ => by
    rw [preD]
    rcases Nat.eq_zero_or_pos k with z | z
    · exact z.symm
    · obtain ⟨c, hc, _⟩ := hj 0 z; cases hc
  | f + 1, k, c :: l, hj, hk, he => by
    rw [preD]
    rcases Nat.eq_zero_or_pos k with z | z
    · subst z
      rcases he with g | g | ⟨c', g, gd⟩
      · omega
      · cases g
      · have : c' = c := by simpa using g.symm
        subst this
        rw [if_neg (by rw [gd]; decide)]
    · obtain ⟨c', hc, hd⟩ := hj 0 z
      have : c' = c := by simpa using hc.symm
      subst this
      rw [if_pos hd]
      have := preD_eq f (k - 1) l (fun j hj' => by have := hj (j + 1) (by omega); simpa using this) (by omega) (by
        obtain ⟨m, rfl⟩ : ∃ m, k = m + 1 := ⟨k - 1, by omega⟩
        rcases he with g | g | g
        · exact .inl (by omega)
        · exact .inr (.inl (by simpa using g))
        · exact .inr (.inr (by simpa using g)))
      omega
theorem preD_spec : ∀ (f : Nat) (s : List UInt8), preD f s ≤ f ∧ preD f s ≤ s.length ∧ AllDg (s.take (preD f s)) ∧ (preD f s = f ∨ s[preD f s]? = none ∨ ∃ c, s[preD f s]? = some c ∧ dg c = false)
  | 0, s => by rw [preD]; exact ⟨by omega, by omega, by intro c hc; simp at hc, .inl rfl⟩
  | f + 1, [] => by rw [preD]; exact ⟨by omega, by simp, by intro c hc; simp at hc, .inr (.inl rfl)⟩
  | f + 1, c :: l => by
    rw [preD]
    by_cases h : dg c = true
    · rw [if_pos h]
      obtain ⟨h1, h2, h3, h4⟩ := preD_spec f l
      refine ⟨by omega, by simp; omega, ?_, ?_⟩
      · intro d hd
        rw [List.take_succ_cons] at hd
        rcases List.mem_cons.1 hd with rfl | g
        · exact h
        · exact h3 d g
      · rcases h4 with g | g | g
        · exact .inl (by omega)
        · exact .inr (.inl (by simpa using g))
        · exact .inr (.inr (by simpa using g))
    · rw [if_neg h]
      exact ⟨by omega, by simp, by intro d hd; simp at hd, .inr (.inr ⟨c, rfl, by simpa using h⟩)⟩

/-- the digits that begin a text -/
def lenF (s : List UInt8) : Nat × Nat × Nat :=
  if 6 < preD 7 s ∨ (1 < preD 7 s ∧ s.head? = some 48) then (0, 0, 2)
  else if preD 7 s = s.length then (0, 0, 3)
  else if preD 7 s = 0 ∨ s[preD 7 s]? ≠ some 58 then (0, 0, 2)
  else (decN (s.take (preD 7 s)), preD 7 s, 0)

/-- the first list, with fuel -/
def takeF : Nat → List UInt8 → Nat → List (List UInt8) → List (List UInt8) × List UInt8 × Nat
  | 0, _, _, _ => ([], [], 3)
  | f + 1, s, all, out =>
    if s.head? = some 10 then (out, s.drop 1, 0)
    else if (lenF s).2.2 ≠ 0 then ([], [], (lenF s).2.2)
    else if 8192 < all + ((lenF s).2.1 + 2 + (lenF s).1) then ([], [], 12)
    else if s.length ≤ (lenF s).2.1 + 1 + (lenF s).1 then ([], [], 3)
    else if s[(lenF s).2.1 + 1 + (lenF s).1]? ≠ some 44 then ([], [], 2)
    else takeF f (s.drop ((lenF s).2.1 + 1 + (lenF s).1 + 1)) (all + ((lenF s).2.1 + 2 + (lenF s).1)) (out ++ [(s.drop ((lenF s).2.1 + 1)).take (lenF s).1])
theorem takeF_fuel : ∀ (f g : Nat) (s : List UInt8) (all : Nat) (out : List (List UInt8)), s.length < f → s.length < g → takeF f s all out = takeF g s all out
  | 0, _, s, _, _, h, _ => absurd h (Nat.not_lt_zero _)
  | _, 0, s, _, _, _, h => absurd h (Nat.not_lt_zero _)
  | f + 1, g + 1, s, all, out, hf, hg => by
    rw [takeF, takeF]
    by_cases h0 : s.length = 0
    · have : s = [] := List.eq_nil_of_length_eq_zero h0
      subst this
      rfl
    · rw [takeF_fuel f g _ _ _ (by rw [List.length_drop]; omega) (by rw [List.length_drop]; omega)]

/-- a text as bytes; a list's -/
def textL (s : List UInt8) : List UInt8 := decDigits s.length ++ [58] ++ s ++ [44]
def textsL (l : List (List UInt8)) : List UInt8 := (l.map textL).flatten
theorem texts_snoc (l : List (List UInt8)) (s : List UInt8) : textsL (l ++ [s]) = textsL l ++ textL s := by
  unfold textsL; rw [List.map_append, List.flatten_append]; simp
theorem text_len (s : List UInt8) : (textL s).length = (decDigits s.length).length + s.length + 2 := by
  unfold textL; simp only [List.length_append, List.length_singleton]; omega

theorem lenF_text (s r : List UInt8) (h : s.length < 1000000) : lenF (textL s ++ r) = (s.length, (decDigits s.length).length, 0) := by
  have hd := digs_dg s.length
  have hl := digs_len 5 s.length (by simpa using h)
  have hne := digs_ne s.length
  have hval := digs_val s.length
  have hhd := digs_head s.length
  have h1len : 1 < (decDigits s.length).length → 0 < s.length := by
    intro g
    rcases Nat.eq_zero_or_pos s.length with z | z
    · rw [z, decDigits, dif_pos (by omega)] at g; simp at g
    · exact z
  have hpos : 0 < (decDigits s.length).length := List.length_pos_iff.2 hne
  unfold textL
  rw [List.append_assoc, List.append_assoc, List.append_assoc]
  generalize decDigits s.length = d at *
  have hk : preD 7 (d ++ ([58] ++ (s ++ ([44] ++ r)))) = d.length := by
    refine preD_eq 7 d.length _ (fun j hj => ⟨d[j], by rw [List.getElem?_append_left hj, List.getElem?_eq_getElem hj], hd _ (List.getElem_mem hj)⟩) (by omega) (.inr (.inr ⟨58, ?_, by decide⟩))
    rw [List.getElem?_append_right (Nat.le_refl _), Nat.sub_self]; rfl
  unfold lenF
  rw [hk]
  rw [if_neg, if_neg, if_neg]
  · rw [List.take_left, hval]
  · intro g
    rcases g with g | g
    · omega
    · apply g
      rw [List.getElem?_append_right (Nat.le_refl _), Nat.sub_self]; rfl
  · simp only [List.length_append, List.length_singleton]; omega
  · intro g
    rcases g with g | ⟨g, g2⟩
    · omega
    · rw [head_app _ _ hne] at g2
      exact hhd (h1len g) g2

/-- a list put is taken -/
theorem takeF_texts (r : List UInt8) : ∀ (l : List (List UInt8)) (f all : Nat) (out : List (List UInt8)), all + (textsL l).length ≤ 8192 → (textsL l ++ 10 :: r).length < f →
    takeF f (textsL l ++ 10 :: r) all out = (out ++ l, r, 0)
  | [], 0, _, _, _, h => absurd h (Nat.not_lt_zero _)
  | [], f + 1, all, out, _, _ => by
    show takeF (f + 1) (10 :: r) all out = _
    rw [takeF, if_pos List.head?_cons, List.append_nil]; rfl
  | _ :: _, 0, _, _, _, h => absurd h (Nat.not_lt_zero _)
  | s :: l, f + 1, all, out, h1, h2 => by
    have e : textsL (s :: l) = textL s ++ textsL l := rfl
    rw [e] at h1 h2 ⊢
    rw [List.append_assoc] at h2 ⊢
    have hL := text_len s
    have h3 : (textL s ++ (textsL l ++ 10 :: r)).length = (textL s).length + (textsL l ++ 10 :: r).length := List.length_append
    rw [List.length_append] at h1
    have hp := digs_ne s.length
    have hpos : 0 < (decDigits s.length).length := List.length_pos_iff.2 hp
    have hlen := lenF_text s (textsL l ++ 10 :: r) (by omega)
    rw [takeF, hlen]
    have hhead : (textL s ++ (textsL l ++ 10 :: r)).head? ≠ some 10 := by
      unfold textL
      rw [List.append_assoc, List.append_assoc, List.append_assoc, head_app _ _ hp]
      intro g
      have := digs_dg s.length 10 (List.mem_of_head? g)
      revert this; decide
    have hsplit : textL s ++ (textsL l ++ 10 :: r) = (decDigits s.length ++ [58]) ++ (s ++ (44 :: (textsL l ++ 10 :: r))) := by
      unfold textL; simp [List.append_assoc]
    rw [if_neg hhead, if_neg (by simp), if_neg (by simp only []; omega), if_neg (by simp only []; omega)]
    simp only []
    rw [if_neg, show (decDigits s.length).length + 1 + s.length + 1 = (textL s).length by omega, List.drop_left, hsplit, List.drop_left' (by simp), List.take_left, takeF_texts r l f _ _ (by omega) (by omega), List.append_assoc]
    · rfl
    · rw [hsplit]
      intro g
      apply g
      rw [← List.append_assoc, List.getElem?_append_right (by simp; omega)]
      have : (decDigits s.length).length + 1 + s.length - (decDigits s.length ++ [58] ++ s).length = 0 := by simp; omega
      rw [this]; rfl
end Go.Proofs.YtjldphpdfckjnaaDoor
