/- Records of an extended header: the plain law. -/
import Derived.Test.YtjldphpdfckjnaaDoorNetP
namespace Go.Proofs.YtjldphpdfckjnaaDoor
open Go.Lib

abbrev PR := List UInt8 × List UInt8
/-- how many digits a number has -/
def dl (n : Nat) : Nat := (decDigits n).length
theorem dl_small (n : Nat) (h : n < 10) : dl n = 1 := by unfold dl; rw [decDigits, dif_pos h]; rfl
theorem dl_ten (n : Nat) (h : ¬ n < 10) : dl n = dl (n / 10) + 1 := by unfold dl; rw [decDigits.eq_1 n, dif_neg h, List.length_append, List.length_singleton]
theorem dl_pos (n : Nat) : 1 ≤ dl n := by have := digs_ne n; unfold dl; exact List.length_pos_iff.2 this
theorem dl_mono : ∀ (n m : Nat), m ≤ n → dl m ≤ dl n := by
  intro n
  induction n using Nat.strongRecOn with
  | _ n ih =>
    intro m h
    by_cases hm : m < 10
    · rw [dl_small m hm]; exact dl_pos n
    · rw [dl_ten m hm, dl_ten n (by omega)]
      have := ih (n / 10) (by omega) (m / 10) (Nat.div_le_div_right h)
      omega
theorem dl_succ : ∀ n : Nat, dl (n + 1) ≤ dl n + 1 := by
  intro n
  induction n using Nat.strongRecOn with
  | _ n ih =>
    by_cases h : n + 1 < 10
    · rw [dl_small _ h]; omega
    · rw [dl_ten _ h]
      have : (n + 1) / 10 ≤ n := by omega
      have := dl_mono n ((n + 1) / 10) this
      omega
/-- adding nine makes one digit more at most -/
theorem dl_add : ∀ (n k : Nat), k ≤ 9 → dl (n + k) ≤ dl n + 1 := by
  intro n k hk
  by_cases h : n + k < 10
  · rw [dl_small _ h]; omega
  · rw [dl_ten _ h]
    by_cases hn : n < 10
    · rw [dl_small ((n + k) / 10) (by omega), dl_small n hn]; omega
    · rw [dl_ten n hn]
      have h1 := dl_succ (n / 10)
      have h2 := dl_mono (n / 10 + 1) ((n + k) / 10) (by omega)
      omega
/-- a number that has one digit more because of so few more: with one more yet it has no digit more -/
theorem dl_step : ∀ (n k : Nat), k ≤ 8 → dl (n + k) = dl n + 1 → dl (n + k + 1) = dl n + 1 := by
  intro n k hk h
  have := dl_add n (k + 1) (by omega)
  have h2 := dl_mono (n + k + 1) (n + k) (by omega)
  rw [show n + k + 1 = n + (k + 1) by omega] at *
  omega
def sizeN (b : Nat) : Nat := b + dl (b + dl b)
theorem sizeN_fix (b : Nat) (hb : dl b ≤ 8) : b + dl (sizeN b) = sizeN b := by
  unfold sizeN
  have h1 := dl_mono (b + dl b) b (by omega)
  have h2 := dl_add b (dl b) (by omega)
  rcases Nat.lt_or_ge (dl b) (dl (b + dl b)) with h | h
  · have h3 := dl_step b (dl b) hb (by omega)
    rw [show dl (b + dl b) = dl b + 1 by omega, ← Nat.add_assoc, h3, Nat.add_assoc]
  · rw [show dl (b + dl b) = dl b by omega]
    omega
theorem sizeN_least (b n : Nat) (hb : dl b ≤ 8) (hn : b < n) (h : b + dl n = n) : sizeN b ≤ n := by
  unfold sizeN
  have h1 := dl_mono n b (by omega)
  have h2 := dl_add b (dl b) (by omega)
  have h3 := dl_mono n (b + dl b) (by omega)
  omega
theorem dl_le (k n : Nat) (h : n < 10 ^ (k + 1)) : dl n ≤ k + 1 := digs_len k n h
theorem sizeN_bound (b : Nat) (h : b ≤ 1000000) : b + 1 ≤ sizeN b ∧ sizeN b ≤ b + 8 := by
  have h1 := dl_le 6 b (by omega)
  have h2 := dl_le 7 (b + dl b) (by omega)
  have := dl_pos (b + dl b)
  unfold sizeN
  omega
def bareP (p : PR) : Nat := p.1.length + p.2.length + 3
def sizeP (p : PR) : Nat := sizeN (bareP p)
def rightP (p : PR) : Bool := !p.1.isEmpty && !(p.1.contains 61)
def recL (p : PR) : List UInt8 := decDigits (sizeP p) ++ (32 :: (p.1 ++ (61 :: (p.2 ++ [10]))))
def recsL (l : List PR) : List UInt8 := (l.map recL).flatten
def totP (l : List PR) : Nat := (l.map sizeP).sum
def printF (l : List PR) : List UInt8 × Nat :=
  if 256 < l.length then ([], 8)
  else if l.all rightP = false then ([], 2)
  else if 65536 < totP l then ([], 12)
  else (recsL l, 0)
theorem rec_len (p : PR) (h : bareP p ≤ 1000000) : (recL p).length = sizeP p := by
  have h1 := dl_le 6 (bareP p) (by omega)
  have h2 : bareP p + dl (sizeP p) = sizeP p := sizeN_fix (bareP p) (by omega)
  have h3 : (decDigits (sizeP p)).length = dl (sizeP p) := rfl
  unfold recL
  rw [List.length_append, h3]
  simp only [List.length_cons, List.length_append, List.length_nil]
  unfold bareP at h2
  omega
theorem recs_snoc (l : List PR) (p : PR) : recsL (l ++ [p]) = recsL l ++ recL p := by unfold recsL; simp
theorem tot_snoc (l : List PR) (p : PR) : totP (l ++ [p]) = totP l + sizeP p := by unfold totP; simp
theorem recs_len (l : List PR) (h : ∀ p ∈ l, bareP p ≤ 1000000) : (recsL l).length = totP l := by
  induction l with
  | nil => rfl
  | cons p l ih =>
    have : recsL (p :: l) = recL p ++ recsL l := rfl
    rw [this, List.length_append, rec_len p (h p (List.mem_cons_self ..)), ih (fun q hq => h q (List.mem_cons_of_mem _ hq))]
    unfold totP; simp
/-- the number that begins a record, and its digits -/
def countF (s : List UInt8) : Nat × Nat :=
  if preD 7 s = 0 ∨ 6 < preD 7 s ∨ s.head? = some 48 ∨ s[preD 7 s]? ≠ some 32 then (0, 0) else (decN (s.take (preD 7 s)), preD 7 s)
/-- the pair of what stands between the blank and the newline -/
def splitP (b : List UInt8) : Option PR :=
  if b.contains 61 = false ∨ b.head? = some 61 then none else some (b.takeWhile (· != 61), (b.dropWhile (· != 61)).drop 1)
def oneF (s : List UInt8) (n : Nat) : Option PR :=
  if s.length ≤ n + 1 ∨ s[s.length - 1]? ≠ some 10 then none else splitP ((s.take (s.length - 1)).drop (n + 1))
def parseF : Nat → List UInt8 → List PR → List PR × Nat
  | 0, _, _ => ([], 2)
  | f + 1, s, out =>
    if s = [] then (out, 0)
    else if out.length = 256 then ([], 8)
    else if (countF s).2 = 0 then ([], 2)
    else if s.length < (countF s).1 then ([], 3)
    else match oneF (s.take (countF s).1) (countF s).2 with
      | none => ([], 2)
      | some p => parseF f (s.drop (countF s).1) (out ++ [p])
def parseQ (s : List UInt8) : List PR × Nat := if 65536 < s.length then ([], 12) else parseF (s.length + 1) s []
theorem head0 (s : List UInt8) (n : Nat) (h : 0 < n) : (s.take n).head? = s.head? := by
  cases s with
  | nil => simp
  | cons c s => cases n with
    | zero => omega
    | succ n => rfl
/-- what a count tells: no nought ahead, so it is its number's own numeral -/
theorem count_ok (s : List UInt8) (h : (countF s).2 ≠ 0) : s.take (countF s).2 = decDigits (countF s).1 ∧ (countF s).2 = dl (countF s).1 ∧ (countF s).2 ≤ 6 ∧ (countF s).2 < s.length ∧ s[(countF s).2]? = some 32 ∧ 1 ≤ (countF s).1 ∧ (countF s).1 < 1000000 := by
  unfold countF at *
  by_cases hc : preD 7 s = 0 ∨ 6 < preD 7 s ∨ s.head? = some 48 ∨ s[preD 7 s]? ≠ some 32
  · rw [if_pos hc] at h; exact absurd rfl h
  · rw [if_neg hc] at *
    have g1 : preD 7 s ≠ 0 := fun e => hc (.inl e)
    have g2 : preD 7 s ≤ 6 := by
      rcases Nat.lt_or_ge 6 (preD 7 s) with e | e
      · exact absurd (.inr (.inl e)) hc
      · exact e
    have g3 : s.head? ≠ some 48 := fun e => hc (.inr (.inr (.inl e)))
    have g4 : s[preD 7 s]? = some 32 := Decidable.byContradiction fun e => hc (.inr (.inr (.inr e)))
    clear hc h
    obtain ⟨_, p2, p3, _⟩ := preD_spec 7 s
    generalize preD 7 s = n at *
    have hlt : n < s.length := by
      rcases Nat.lt_or_ge n s.length with e | e
      · exact e
      · rw [List.getElem?_eq_none e] at g4; cases g4
    have hl : (s.take n).length = n := by rw [List.length_take]; omega
    have hne : s.take n ≠ [] := fun e => by rw [e] at hl; exact g1 hl.symm
    have hh : (s.take n).head? ≠ some 48 := by rw [head0 s n (by omega)]; exact g3
    have hd := digs_of n (s.take n) hl p3 hne (fun e => absurd e hh)
    have hlt2 := decN_lt n (s.take n) p3 hl
    have hpos : 1 ≤ decN (s.take n) := by
      rcases Nat.eq_zero_or_pos (decN (s.take n)) with z | z
      · exfalso
        rw [z] at hd
        have e0 : decDigits 0 = [48] := by rw [decDigits, dif_pos (by omega)]; rfl
        rw [e0] at hd
        rw [← hd] at hh
        exact hh rfl
      · exact z
    have h6 : 10 ^ n ≤ 10 ^ 6 := Nat.pow_le_pow_right (by decide) g2
    refine ⟨hd.symm, ?_, g2, hlt, g4, hpos, by simp at h6 ⊢; omega⟩
    show n = dl (decN (s.take n))
    unfold dl
    rw [hd, hl]
theorem split_ok (b : List UInt8) (p : PR) (h : splitP b = some p) : b = p.1 ++ (61 :: p.2) ∧ rightP p = true := by
  unfold splitP at h
  by_cases hc : b.contains 61 = false ∨ b.head? = some 61
  · rw [if_pos hc] at h; cases h
  · rw [if_neg hc] at h
    injection h with h
    subst h
    have h1 : b.contains 61 = true := by
      cases e : b.contains 61
      · exact absurd (.inl e) hc
      · rfl
    have h2 : b.head? ≠ some 61 := fun e => hc (.inr e)
    have hd : ∃ t, b.dropWhile (· != 61) = 61 :: t := by
      clear h2 hc
      induction b with
      | nil => simp at h1
      | cons c b ih =>
        by_cases e : c = 61
        · subst e; exact ⟨b, rfl⟩
        · rw [List.dropWhile_cons, if_pos (by simpa using e)]
          exact ih (by simpa [Ne.symm e] using h1)
    obtain ⟨t, ht⟩ := hd
    constructor
    · show b = b.takeWhile (· != 61) ++ (61 :: (b.dropWhile (· != 61)).drop 1)
      rw [ht, List.drop_one, List.tail_cons, ← ht, List.takeWhile_append_dropWhile]
    · unfold rightP
      have hn : ∀ c ∈ b.takeWhile (· != 61), c ≠ 61 := by
        intro c hm
        have := List.all_takeWhile (l := b) (p := (· != 61))
        have := List.all_eq_true.1 this c hm
        simpa using this
      rw [Bool.and_eq_true]
      constructor
      · cases b with
        | nil => simp at h1
        | cons c b =>
          have : c ≠ 61 := fun e => h2 (by rw [e]; rfl)
          rw [List.takeWhile_cons, if_pos (by simpa using this)]
          rfl
      · show (!(b.takeWhile (· != 61)).contains 61) = true
        cases e : (b.takeWhile (· != 61)).contains 61
        · rfl
        · exact absurd rfl (hn 61 (by simpa using e))
theorem split_rec (p : PR) (h : rightP p = true) : splitP (p.1 ++ (61 :: p.2)) = some p := by
  unfold rightP at h
  rw [Bool.and_eq_true] at h
  obtain ⟨h1, h2⟩ := h
  have hn : ∀ c ∈ p.1, c ≠ 61 := by
    intro c hc e
    subst e
    have : p.1.contains 61 = true := by simpa using hc
    rw [this] at h2; cases h2
  obtain ⟨a, b⟩ := p
  simp only at h1 hn ⊢
  have ht : (a ++ (61 :: b)).takeWhile (· != 61) = a ∧ (a ++ (61 :: b)).dropWhile (· != 61) = 61 :: b := by
    clear h1 h2
    induction a with
    | nil => exact ⟨rfl, rfl⟩
    | cons c a ih =>
      have hc := hn c (List.mem_cons_self ..)
      obtain ⟨i1, i2⟩ := ih (fun d hd => hn d (List.mem_cons_of_mem _ hd))
      rw [List.cons_append, List.takeWhile_cons, List.dropWhile_cons, if_pos (by simpa using hc), if_pos (by simpa using hc), i1, i2]
      exact ⟨rfl, rfl⟩
  unfold splitP
  rw [if_neg, ht.1, ht.2]
  · rfl
  · rintro (e | e)
    · have : (a ++ (61 :: b)).contains 61 = true := by simp
      rw [this] at e; cases e
    · cases a with
      | nil => cases h1
      | cons c a => exact hn c (List.mem_cons_self ..) (by simpa using e)
theorem count_digs (D t : List UInt8) (hd : AllDg D) (hl : D.length ≤ 6) (hne : D ≠ []) (hh : D.head? ≠ some 48) : countF (D ++ 32 :: t) = (decN D, D.length) := by
  have hp : 0 < D.length := List.length_pos_iff.2 hne
  have e : preD 7 (D ++ 32 :: t) = D.length := by
    refine preD_eq 7 D.length _ (fun j hj => ?_) (by omega) (.inr (.inr ⟨32, ?_, rfl⟩))
    · exact ⟨D[j], by rw [List.getElem?_append_left hj, List.getElem?_eq_getElem hj], hd _ (List.getElem_mem hj)⟩
    · rw [List.getElem?_append_right (Nat.le_refl _), Nat.sub_self]; rfl
  unfold countF
  rw [e, if_neg, List.take_left]
  rintro (h | h | h | h)
  · omega
  · omega
  · rw [head_app D _ hne] at h; exact hh h
  · apply h
    rw [List.getElem?_append_right (Nat.le_refl _), Nat.sub_self]; rfl
theorem count_rec (p : PR) (r : List UInt8) (h : sizeP p < 1000000) (h1 : 1 ≤ sizeP p) : countF (recL p ++ r) = (sizeP p, dl (sizeP p)) := by
  have e : recL p ++ r = decDigits (sizeP p) ++ (32 :: (p.1 ++ (61 :: (p.2 ++ [10])) ++ r)) := by unfold recL; simp
  rw [e, count_digs _ _ (digs_dg _) (dl_le 5 _ (by omega)) (digs_ne _) (digs_head _ h1), digs_val]
  rfl
theorem one_rec (p : PR) (h : rightP p = true) (hb : bareP p ≤ 1000000) : oneF (recL p) (dl (sizeP p)) = some p := by
  have hl := rec_len p hb
  have h2 : bareP p + dl (sizeP p) = sizeP p := by
    have h1 := dl_le 6 (bareP p) (by omega)
    exact sizeN_fix (bareP p) (by omega)
  have e : recL p = (decDigits (sizeP p) ++ [32]) ++ (p.1 ++ (61 :: p.2)) ++ [10] := by unfold recL; simp
  have hb' : (decDigits (sizeP p) ++ [32]).length = dl (sizeP p) + 1 := by rw [List.length_append]; rfl
  unfold oneF
  rw [if_neg]
  · have : (recL p).take ((recL p).length - 1) = (decDigits (sizeP p) ++ [32]) ++ (p.1 ++ (61 :: p.2)) := by
      rw [e, List.length_append, List.length_singleton, Nat.add_sub_cancel, List.take_left]
    rw [this, ← hb', List.drop_left]
    exact split_rec p h
  · rintro (g | g)
    · rw [hl] at g
      unfold bareP at h2
      omega
    · apply g
      rw [e, List.length_append, List.length_singleton, Nat.add_sub_cancel, List.getElem?_append_right (Nat.le_refl _), Nat.sub_self]
      rfl
/-- what was printed is parsed again -/
theorem parse_recs : ∀ (l : List PR) (f : Nat) (out : List PR), l.all rightP = true → (∀ p ∈ l, bareP p ≤ 100000) → out.length + l.length ≤ 256 → (recsL l).length < f → parseF f (recsL l) out = (out ++ l, 0) := by
  intro l
  induction l with
  | nil =>
    intro f out _ _ _ hf
    obtain ⟨g, rfl⟩ : ∃ g, f = g + 1 := ⟨f - 1, by omega⟩
    rw [parseF, if_pos (show recsL [] = [] from rfl), List.append_nil]
  | cons p l ih =>
    intro f out ha hb hl hf
    obtain ⟨g, rfl⟩ : ∃ g, f = g + 1 := ⟨f - 1, by omega⟩
    have e : recsL (p :: l) = recL p ++ recsL l := rfl
    rw [e] at hf ⊢
    have hbp := hb p (List.mem_cons_self ..)
    have hs := sizeN_bound (bareP p) (by omega)
    have hs2 : sizeP p = sizeN (bareP p) := rfl
    have hrl := rec_len p (by omega)
    have hc := count_rec p (recsL l) (by omega) (by omega)
    have hdp := dl_pos (sizeP p)
    rw [List.length_append] at hf
    rw [List.all_cons, Bool.and_eq_true] at ha
    rw [parseF, if_neg (by intro g; have := congrArg List.length g; rw [List.length_append, hrl] at this; simp only [List.length_nil] at this; omega), if_neg (by simp at hl; omega), hc]
    simp only []
    rw [if_neg (by omega), if_neg (by rw [List.length_append]; omega), ← hrl, List.take_left, List.drop_left, hrl, one_rec p ha.1 (by omega)]
    simp only []
    rw [ih g (out ++ [p]) ha.2 (fun q hq => hb q (List.mem_cons_of_mem _ hq)) (by simp at hl ⊢; omega) (by omega), List.append_assoc]
    rfl
/-- what parses: each record is right, and printed it is no longer than it was -/
theorem parse_ok : ∀ (f : Nat) (s : List UInt8) (out l : List PR), out.all rightP = true → out.length ≤ 256 → (∀ p ∈ out, bareP p ≤ 100000) → s.length ≤ 65536 → parseF f s out = (l, 0) →
    l.all rightP = true ∧ l.length ≤ 256 ∧ (∀ p ∈ l, bareP p ≤ 100000) ∧ totP l ≤ totP out + s.length := by
  intro f
  induction f with
  | zero => intro s out l _ _ _ _ h; rw [parseF] at h; cases h
  | succ f ih =>
    intro s out l ha hl hbo hs h
    rw [parseF] at h
    by_cases h0 : s = []
    · rw [if_pos h0] at h
      injection h with h _
      subst h
      exact ⟨ha, hl, hbo, by omega⟩
    · rw [if_neg h0] at h
      by_cases h1 : out.length = 256
      · rw [if_pos h1] at h; cases h
      · rw [if_neg h1] at h
        by_cases h2 : (countF s).2 = 0
        · rw [if_pos h2] at h; cases h
        · rw [if_neg h2] at h
          by_cases h3 : s.length < (countF s).1
          · rw [if_pos h3] at h; cases h
          · rw [if_neg h3] at h
            obtain ⟨c1, c2, c3, c4, c5, c6, c7⟩ := count_ok s h2
            generalize (countF s).1 = v at *
            generalize (countF s).2 = n at *
            cases ho : oneF (s.take v) n with
            | none => rw [ho] at h; cases h
            | some p =>
              rw [ho] at h
              simp only [] at h
              unfold oneF at ho
              have hvl : (s.take v).length = v := by rw [List.length_take]; omega
              by_cases hc : (s.take v).length ≤ n + 1 ∨ (s.take v)[(s.take v).length - 1]? ≠ some 10
              · rw [if_pos hc] at ho; cases ho
              · rw [if_neg hc] at ho
                obtain ⟨d1, d2⟩ := split_ok _ _ ho
                have d3 := congrArg List.length d1
                rw [List.length_drop, List.length_take, hvl, List.length_append, List.length_cons] at d3
                have hvn : ¬ v ≤ n + 1 := fun e => hc (.inl (by omega))
                have hbare : bareP p + dl v = v := by unfold bareP; omega
                have hlt : bareP p < v := by have := dl_pos v; omega
                have hsz : sizeP p ≤ v := sizeN_least (bareP p) v (by have := dl_le 6 (bareP p) (by omega); omega) hlt hbare
                have hbp : bareP p ≤ 100000 := by omega
                obtain ⟨g1, g2, g3, g4⟩ := ih (s.drop v) (out ++ [p]) l (by rw [List.all_append, ha]; simpa using d2) (by simp; omega) (fun q hq => by
                  rcases List.mem_append.1 hq with e | e
                  · exact hbo q e
                  · rw [List.mem_singleton.1 e]; exact hbp) (by rw [List.length_drop]; omega) h
                refine ⟨g1, g2, g3, ?_⟩
                rw [tot_snoc, List.length_drop] at g4
                omega
theorem tot_mem : ∀ (l : List PR) (p : PR), p ∈ l → sizeP p ≤ totP l := by
  intro l
  induction l with
  | nil => intro p h; cases h
  | cons q l ih =>
    intro p h
    have e : totP (q :: l) = sizeP q + totP l := by unfold totP; simp
    rcases List.mem_cons.1 h with rfl | g
    · omega
    · have := ih p g; omega
/-- printed, and parsed again -/
theorem print_parse (l : List PR) (hb : ∀ p ∈ l, bareP p ≤ 100000) (h : (printF l).2 = 0) : parseQ (printF l).1 = (l, 0) := by
  unfold printF at *
  by_cases h1 : 256 < l.length
  · rw [if_pos h1] at h; cases h
  · rw [if_neg h1] at *
    by_cases h2 : l.all rightP = false
    · rw [if_pos h2] at h; cases h
    · rw [if_neg h2] at *
      by_cases h3 : 65536 < totP l
      · rw [if_pos h3] at h; cases h
      · rw [if_neg h3]
        have hl := recs_len l (fun p hp => Nat.le_trans (hb p hp) (by omega))
        unfold parseQ
        simp only []
        rw [if_neg (by omega), parse_recs l _ [] (by simpa using h2) hb (by simp; omega) (by omega), List.nil_append]
/-- parsed, printed, and parsed again -/
theorem parse_print (s : List UInt8) (l : List PR) (h : parseQ s = (l, 0)) : (printF l).2 = 0 ∧ (printF l).1.length ≤ s.length ∧ parseQ (printF l).1 = (l, 0) ∧ (∀ p ∈ l, bareP p ≤ 100000) := by
  unfold parseQ at h
  by_cases h0 : 65536 < s.length
  · rw [if_pos h0] at h; cases h
  · rw [if_neg h0] at h
    obtain ⟨g1, g2, g3, g4⟩ := parse_ok _ s [] l rfl (by simp) (fun p hp => by cases hp) (by omega) h
    have e0 : totP [] = 0 := rfl
    have e : printF l = (recsL l, 0) := by unfold printF; rw [if_neg (by omega), if_neg (by rw [g1]; decide), if_neg (by omega)]
    have hl := recs_len l (fun p hp => Nat.le_trans (g3 p hp) (by omega))
    have h2 := print_parse l g3 (by rw [e])
    refine ⟨by rw [e], ?_, h2, g3⟩
    rw [e]
    show (recsL l).length ≤ _
    omega
/-- more than may be: none is told -/
theorem parse_full : ∀ (l : List PR) (f : Nat) (out : List PR), l.all rightP = true → (∀ p ∈ l, bareP p ≤ 100000) → out.length ≤ 256 → 256 < out.length + l.length → (recsL l).length < f → parseF f (recsL l) out = ([], 8) := by
  intro l
  induction l with
  | nil => intro f out _ _ h1 h2; simp at h2; omega
  | cons p l ih =>
    intro f out ha hb h1 hl hf
    obtain ⟨g, rfl⟩ : ∃ g, f = g + 1 := ⟨f - 1, by omega⟩
    have e : recsL (p :: l) = recL p ++ recsL l := rfl
    rw [e] at hf ⊢
    have hbp := hb p (List.mem_cons_self ..)
    have hs := sizeN_bound (bareP p) (by omega)
    have hs2 : sizeP p = sizeN (bareP p) := rfl
    have hrl := rec_len p (by omega)
    have hc := count_rec p (recsL l) (by omega) (by omega)
    have hdp := dl_pos (sizeP p)
    rw [List.length_append] at hf
    rw [List.all_cons, Bool.and_eq_true] at ha
    rw [parseF, if_neg (by intro g; have := congrArg List.length g; rw [List.length_append, hrl] at this; simp only [List.length_nil] at this; omega)]
    by_cases hq : out.length = 256
    · rw [if_pos hq]
    · rw [if_neg hq, hc]
      simp only []
      rw [if_neg (by omega), if_neg (by rw [List.length_append]; omega), ← hrl, List.take_left, List.drop_left, hrl, one_rec p ha.1 (by omega)]
      simp only []
      exact ih g (out ++ [p]) ha.2 (fun q hq => hb q (List.mem_cons_of_mem _ hq)) (by simp; omega) (by simp at hl ⊢; omega) (by omega)
theorem dl_eq : ∀ (k u : Nat), 10 ^ k ≤ u → u < 10 ^ (k + 1) → dl u = k + 1
  | 0, u, _, h => dl_small u (by simpa using h)
  | k + 1, u, h0, h => by
    have hp : 1 ≤ 10 ^ k := Nat.one_le_pow _ _ (by decide)
    rw [Nat.pow_succ] at h h0
    rw [dl_ten u (by omega), dl_eq k (u / 10) (by omega) (by omega)]
theorem dl5 (u : Nat) (h0 : 10000 ≤ u) (h : u < 100000) : dl u = 5 := dl_eq 4 u (by simpa using h0) (by simpa using h)
theorem sizeN_big (b : Nat) (h0 : 10000 ≤ b) (h : b < 99990) : sizeN b = b + 5 := by
  unfold sizeN; rw [dl5 b h0 (by omega), dl5 (b + 5) (by omega) (by omega)]
theorem one_k : recL ([107], []) = [53, 32, 107, 61, 10] := by
  have e5 : dl 5 = 1 := dl_small 5 (by decide)
  have e4 : dl 4 = 1 := dl_small 4 (by decide)
  have : sizeP ([107], []) = 5 := by
    show 4 + dl (4 + dl 4) = 5
    rw [e4, e5]
  unfold recL
  rw [this, decDigits, dif_pos (by decide)]
  rfl
theorem size_k : sizeP ([107], []) = 5 := by
  show 4 + dl (4 + dl 4) = 5
  rw [dl_small 4 (by decide), dl_small (4 + 1) (by decide)]
theorem print_path : printF [([112, 97, 116, 104], [97])] = ([57, 32, 112, 97, 116, 104, 61, 97, 10], 0) := by
  have hs : sizeP ([112, 97, 116, 104], [97]) = 9 := by
    show 8 + dl (8 + dl 8) = 9
    rw [dl_small 8 (by decide), dl_small (8 + 1) (by decide)]
  unfold printF
  rw [if_neg (by decide), if_neg (by decide), if_neg]
  · show (recL _ ++ [], 0) = _
    unfold recL
    rw [hs, decDigits, dif_pos (by decide)]
    rfl
  · show ¬ 65536 < sizeP _ + 0
    rw [hs]; decide
theorem parse_path : parseQ [49, 48, 32, 112, 97, 116, 104, 61, 97, 10] = ([([112, 97, 116, 104], [97])], 0) := by decide +kernel
end Go.Proofs.YtjldphpdfckjnaaDoor
