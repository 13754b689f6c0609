/- Plain law of BracketTexts: a set's text is a bracket of that set. -/
import Derived.Test.YtjoalambgckchaaBrI
import Derived.Test.YtjoalambgckchaaClassD
namespace Go.Proofs.Ytjoalambgckchaa
open Go.RowKit

/-- a byte that stands for itself in a bracket -/
def plainB (c : UInt8) : Bool := c != 91 && c != 92 && c != 93
/-- no dash but at the end -/
def dashEnd : List UInt8 → Bool
  | [] => true
  | [_] => true
  | c :: d :: l => c != 45 && dashEnd (d :: l)
theorem dashEnd_tail : ∀ l : List UInt8, dashEnd l = true → dashEnd l.tail = true
  | [], _ => rfl
  | [_], _ => rfl
  | _ :: _ :: _, h => (Bool.and_eq_true_iff.1 h).2
theorem pre_cons (c a : UInt8) (t l : List UInt8) : preB (c :: t) (a :: l) = (a == c && preB t l) := by
  unfold preB Lib.hasPrefix; simp [List.isPrefixOf]
theorem pre_nil (t : List UInt8) : preB t [] = true := by unfold preB Lib.hasPrefix; simp
theorem item_plain (gl : Bool) (c : UInt8) (t : List UInt8) (hc : plainB c = true) (ht : (preB t [45] && !preB t [45, 93]) = false) : itemF gl (c :: t) = some (rangeP c.toNat c.toNat, 1) := by
  simp only [plainB, Bool.and_eq_true, bne_iff_ne, ne_eq] at hc
  obtain ⟨⟨h1, h2⟩, h3⟩ := hc
  have e1 : (91 == c) = false := by rw [beq_eq_false_iff_ne]; exact fun e => h1 e.symm
  have e2 : (92 == c) = false := by rw [beq_eq_false_iff_ne]; exact fun e => h2 e.symm
  have hb : byteF gl (c :: t) = some (c, 1) := by
    unfold byteF
    simp only [pre_cons, e1, e2, Bool.false_and, Bool.and_false, Bool.false_eq_true, if_false]
    rfl
  unfold itemF
  rw [hb]
  simp only [pre_cons, e1, Bool.false_and, Bool.false_eq_true, if_false, List.drop_succ_cons, List.drop_zero, ht]
/-- the bytes of some items that stand for themselves -/
def foldC (l : List UInt8) (p : Nat → Bool) : Nat → Bool := l.foldl (fun p c => orP p (rangeP c.toNat c.toNat)) p
theorem foldC_in : ∀ (l : List UInt8) (p : Nat → Bool) (n : Nat), foldC l p n = (p n || ofP l n)
  | [], p, n => by simp [foldC, ofP]
  | c :: l, p, n => by
    have ih := foldC_in l (orP p (rangeP c.toNat c.toNat)) n
    show foldC l (orP p (rangeP c.toNat c.toNat)) n = _
    rw [ih]
    have e : rangeP c.toNat c.toNat n = (c.toNat == n) := by
      rw [Bool.eq_iff_iff]
      simp only [rangeP, Bool.and_eq_true, decide_eq_true_eq, beq_iff_eq]
      omega
    simp only [orP, e, ofP, List.any_cons, Bool.or_assoc]
theorem items_plain (gl : Bool) (behind : List UInt8) : ∀ (l : List UInt8) (f : Nat) (first : Bool) (p : Nat → Bool), l.length < f → (first = true → l ≠ []) → l.all plainB = true → dashEnd l.tail = true → itemsA gl (l ++ 93 :: behind) f first 0 p = some (foldC l p, l.length)
  | [], 0, _, _, h, _, _, _ => absurd h (by simp)
  | [], f + 1, first, p, _, h2, _, _ => by
    cases first with
    | true => exact absurd rfl (h2 rfl)
    | false => rfl
  | c :: l, 0, _, _, h, _, _, _ => absurd h (by simp)
  | c :: l, f + 1, first, p, h, h2, h3, h4 => by
    simp only [List.all_cons, Bool.and_eq_true] at h3
    have hd : (preB (l ++ 93 :: behind) [45] && !preB (l ++ 93 :: behind) [45, 93]) = false := by
      cases l with
      | nil => rfl
      | cons d l' =>
        cases l' with
        | nil => simp only [List.cons_append, List.nil_append, pre_cons, pre_nil]; cases (45 == d) <;> rfl
        | cons e l'' =>
          have h5 := (Bool.and_eq_true_iff.1 (show (d != 45 && dashEnd (e :: l'')) = true from h4)).1
          have h6 : (45 == d) = false := by rw [beq_eq_false_iff_ne]; intro e; simp [← e] at h5
          simp only [List.cons_append, pre_cons, h6, Bool.false_and]
    have h93 : (c == 93 && !first) = false := by
      have : c ≠ 93 := by
        have := h3.1
        simp only [plainB, Bool.and_eq_true, bne_iff_ne] at this
        exact this.2
      simp [this]
    rw [List.cons_append, itemsA]
    simp only [List.getElem?_cons_zero, h93, Bool.false_eq_true, if_false, List.drop_zero, item_plain gl c _ h3.1 hd]
    rw [Nat.zero_add, show (1 : Nat) = 0 + 1 from rfl, itemsA_shift, items_plain gl behind l f false _ (by simpa using h) (by simp) h3.2 (dashEnd_tail _ h4)]
    rfl
/-- one of the signs that turn over, in its own signs -/
theorem item_sign (gl : Bool) (c x : UInt8) (t : List UInt8) (hx : (45 == x) = false) : itemF gl (91 :: 46 :: c :: 46 :: 93 :: x :: t) = some (rangeP c.toNat c.toNat, 5) := by
  have hb : byteF gl (91 :: 46 :: c :: 46 :: 93 :: x :: t) = some (c, 5) := by
    unfold byteF closedF
    simp [pre_cons, pre_nil]
  unfold itemF
  rw [hb]
  simp [pre_cons, pre_nil, hx]
theorem items_item (gl : Bool) (l : List UInt8) (a : UInt8) (t : List UInt8) (ht : l = a :: t) (f : Nat) (first : Bool) (p q : Nat → Bool) (n : Nat) (u v : List UInt8) (hu : l = u ++ v) (hn : u.length = n) (ha : a ≠ 93) (h : itemF gl l = some (q, n)) : itemsA gl l (f + 1) first 0 p = (itemsA gl v f false 0 (orP p q)).map fun r => (r.1, r.2 + n) := by
  have sh : ∀ (u : List UInt8) (k : Nat), itemsA gl (u ++ v) f false (u.length + k) (orP p q) = (itemsA gl v f false k (orP p q)).map fun r => (r.1, r.2 + u.length) := by
    intro u
    induction u with
    | nil => intro k; simp
    | cons b u ih =>
      intro k
      rw [List.cons_append, show (b :: u).length + k = (u.length + k) + 1 by simp; omega, itemsA_shift, ih, Option.map_map]
      congr 1
  rw [itemsA]
  have h0 : l[0]? = some a := by rw [ht]; rfl
  have h93 : (a == 93 && !first) = false := by simp [ha]
  rw [h0]
  simp only [h93, Bool.false_eq_true, if_false, List.drop_zero, h]
  have := sh u 0
  rw [hn, ← hu, Nat.add_zero] at this
  rw [Nat.zero_add, this]
/-- a set's bytes that mean nothing of their own -/
def outP (p : Nat → Bool) : List UInt8 := (bytesP p).filter fun b => !(b == 94 || b == 33 || b == 45)
def oneIf (b : Bool) (l : List UInt8) : List UInt8 := if b then l else []
theorem mem_oneIf (b : Bool) (x y : UInt8) : x ∈ oneIf b [y] ↔ b = true ∧ x = y := by
  unfold oneIf; cases b <;> simp
def insideP (p : Nat → Bool) : List UInt8 :=
  if outP p = [] then
    if ((p 33 || p 94) && !p 45) = true then oneIf (p 33) [91, 46, 33, 46, 93] ++ oneIf (p 94) [91, 46, 94, 46, 93]
    else 45 :: (oneIf (p 33) [33] ++ oneIf (p 94) [94])
  else outP p ++ oneIf (p 33) [33] ++ oneIf (p 94) [94] ++ oneIf (p 45) [45]
def textP (p : Nat → Bool) : List UInt8 := 91 :: (insideP p ++ [93])
theorem turnB_ne (gl : Bool) (a : UInt8) (t : List UInt8) (h1 : a ≠ 94) (h2 : a ≠ 33) : turnB gl (a :: t) = false := by
  have e1 : (94 == a) = false := by rw [beq_eq_false_iff_ne]; exact fun e => h1 e.symm
  have e2 : (33 == a) = false := by rw [beq_eq_false_iff_ne]; exact fun e => h2 e.symm
  unfold turnB
  simp [pre_cons, e1, e2]
theorem parse_inside (gl : Bool) (a : UInt8) (t behind : List UInt8) (h1 : a ≠ 94) (h2 : a ≠ 33) (f : Nat) (hf : f ≤ (a :: t).length + 1) (q : Nat → Bool) (n : Nat) (h : itemsA gl (a :: t ++ 93 :: behind) f true 0 noneP = some (q, n)) : parseP (91 :: (a :: t ++ [93]) ++ behind) 0 gl = some (q, n + 2) := by
  have mono : ∀ (s : List UInt8) (f : Nat) (first : Bool) (k : Nat) (p : Nat → Bool) (r), itemsA gl s f first k p = some r → ∀ d, itemsA gl s (f + d) first k p = some r := by
    intro s f
    induction f with
    | zero => intro _ _ _ _ h; cases h
    | succ f ih =>
      intro first k p r h d
      rw [show f + 1 + d = (f + d) + 1 by omega]
      rw [itemsA] at h ⊢
      cases hk : s[k]? with
      | none => rw [hk] at h; cases h
      | some c =>
        rw [hk] at h
        dsimp only at h ⊢
        by_cases h2 : (c == 93 && !first) = true
        · rw [if_pos h2] at h ⊢; exact h
        · rw [if_neg h2] at h ⊢
          cases hi : itemF gl (s.drop k) with
          | none => rw [hi] at h; cases h
          | some rn =>
            rw [hi] at h
            exact ih _ _ _ _ h d
  have e : 91 :: (a :: t ++ [93]) ++ behind = 91 :: (a :: t ++ 93 :: behind) := by simp
  rw [e]
  unfold parseP
  rw [show (91 :: (a :: t ++ 93 :: behind)).drop (0 + 1) = a :: (t ++ 93 :: behind) from rfl, turnB_ne gl a _ h1 h2]
  simp only [Bool.false_eq_true, if_false, Nat.add_zero]
  rw [itemsA_shift]
  have := mono _ f true 0 noneP _ h ((91 :: (a :: t ++ 93 :: behind)).length + 1 - f)
  rw [show f + ((91 :: (a :: t ++ 93 :: behind)).length + 1 - f) = (91 :: (a :: t ++ 93 :: behind)).length + 1 by simp at hf ⊢; omega] at this
  rw [this]
  rfl
theorem mem_bytesP (p : Nat → Bool) (b : UInt8) : b ∈ bytesP p ↔ p b.toNat = true := by
  have hb := b.toNat_lt
  unfold bytesP bytesTo
  simp only [List.mem_map, List.mem_filter, List.mem_range]
  constructor
  · rintro ⟨n, ⟨h1, h2⟩, rfl⟩
    have : (UInt8.ofNat n).toNat = n := by rw [UInt8.toNat_ofNat', Nat.mod_eq_of_lt h1]
    rw [this]; exact h2
  · intro h
    exact ⟨b.toNat, ⟨by omega, h⟩, by simp⟩
theorem ofP_iff (l : List UInt8) (b : UInt8) : ofP l b.toNat = true ↔ b ∈ l := by
  unfold ofP
  rw [List.any_eq_true]
  constructor
  · rintro ⟨c, h1, h2⟩
    have : c = b := UInt8.toNat_inj.1 (by simpa using h2)
    rw [← this]; exact h1
  · intro h
    exact ⟨b, h, by simp⟩
theorem dashEnd_append : ∀ (l m : List UInt8), (∀ b ∈ l, b ≠ 45) → dashEnd m = true → dashEnd (l ++ m) = true
  | [], m, _, h => h
  | c :: l, m, h, hm => by
    have ih := dashEnd_append l m (fun b hb => h b (List.mem_cons_of_mem _ hb)) hm
    have hc : c ≠ 45 := h c (by simp)
    cases hl : l ++ m with
    | nil => simp [hl, dashEnd]
    | cons d k =>
      rw [List.cons_append, hl]
      rw [hl] at ih
      simp [dashEnd, hc, ih]
theorem text_parse (gl : Bool) (p : Nat → Bool) (behind : List UInt8) (h91 : p 91 = false) (h92 : p 92 = false) (h93 : p 93 = false) (hne : bytesP p ≠ []) :
    ∃ q, parseP (textP p ++ behind) 0 gl = some (q, (textP p).length) ∧ ∀ n, n < 256 → q n = p n := by
  have hout : ∀ b, b ∈ outP p ↔ p b.toNat = true ∧ b ≠ 94 ∧ b ≠ 33 ∧ b ≠ 45 := by
    intro b
    unfold outP
    rw [List.mem_filter, mem_bytesP]
    simp only [Bool.not_eq_true', Bool.or_eq_false_iff, beq_eq_false_iff_ne, ne_eq, and_assoc]
  have hpl : ∀ b : UInt8, p b.toNat = true → plainB b = true := by
    intro b hb
    simp only [plainB, Bool.and_eq_true, bne_iff_ne]
    refine ⟨⟨?_, ?_⟩, ?_⟩ <;> (rintro rfl; simp_all)
  have fin : ∀ q : Nat → Bool, (∀ b : UInt8, q b.toNat = true ↔ p b.toNat = true) → ∀ n, n < 256 → q n = p n := by
    intro q h n hn
    have := h (UInt8.ofNat n)
    rw [UInt8.toNat_ofNat', Nat.mod_eq_of_lt hn] at this
    rw [Bool.eq_iff_iff]; exact this
  have plain : ∀ l : List UInt8, insideP p = l → (∀ a t, l = a :: t → a ≠ 94 ∧ a ≠ 33) → l ≠ [] → l.all plainB = true → dashEnd l.tail = true → (∀ b, b ∈ l ↔ p b.toNat = true) → ∃ q, parseP (textP p ++ behind) 0 gl = some (q, (textP p).length) ∧ ∀ n, n < 256 → q n = p n := by
    intro l hl hh hn ha hd hm
    unfold textP
    rw [hl]
    cases l with
    | nil => exact absurd rfl hn
    | cons a t =>
      obtain ⟨h1, h2⟩ := hh a t rfl
      have := items_plain gl behind (a :: t) ((a :: t).length + 1) true noneP (by omega) (by simp) ha hd
      refine ⟨foldC (a :: t) noneP, (parse_inside gl a t behind h1 h2 _ (by omega) _ _ this).trans (by simp), fin _ fun b => ?_⟩
      rw [foldC_in, ← hm b, ← ofP_iff]
      simp [noneP]
  by_cases ho : outP p = []
  · have hno : ∀ b : UInt8, p b.toNat = true → b = 94 ∨ b = 33 ∨ b = 45 := by
      intro b hb
      have := (hout b).2
      rw [ho] at this
      by_cases h1 : b = 94
      · exact Or.inl h1
      by_cases h2 : b = 33
      · exact Or.inr (Or.inl h2)
      by_cases h3 : b = 45
      · exact Or.inr (Or.inr h3)
      exact absurd (this ⟨hb, h1, h2, h3⟩) (by simp)
    by_cases hs : ((p 33 || p 94) && !p 45) = true
    · have hi : insideP p = oneIf (p 33) [91, 46, 33, 46, 93] ++ oneIf (p 94) [91, 46, 94, 46, 93] := by unfold insideP; rw [if_pos ho, if_pos hs]
      have h45 : p 45 = false := by have := (Bool.and_eq_true_iff.1 hs).2; simpa using this
      have hq : ∀ q : Nat → Bool, (∀ n, q n = ((p 33 && n == 33) || (p 94 && n == 94))) → ∀ n, n < 256 → q n = p n := by
        intro q h
        refine fin q fun b => ?_
        rw [h]
        simp only [Bool.or_eq_true, Bool.and_eq_true, beq_iff_eq]
        constructor
        · rintro (⟨h1, h2⟩ | ⟨h1, h2⟩) <;> rw [h2] <;> exact h1
        · intro hb
          rcases hno b hb with rfl | rfl | rfl
          · exact Or.inr ⟨hb, rfl⟩
          · exact Or.inl ⟨hb, rfl⟩
          · have : p 45 = true := hb
            rw [h45] at this; cases this
      have rng : ∀ (c : Nat) (n : Nat), rangeP (c : Int) (c : Int) n = (n == c) := by
        intro c n
        rw [Bool.eq_iff_iff]
        simp only [rangeP, Bool.and_eq_true, decide_eq_true_eq, beq_iff_eq]
        omega
      unfold textP
      rw [hi]
      cases h33 : p 33 <;> cases h94 : p 94
      · simp [h33, h94] at hs
      · have e := items_item gl (91 :: 46 :: 94 :: 46 :: 93 :: 93 :: behind) 91 _ rfl 1 true noneP _ 5 [91, 46, 94, 46, 93] (93 :: behind) rfl rfl (by decide) (item_sign gl 94 93 behind rfl)
        refine ⟨_, (parse_inside gl 91 [46, 94, 46, 93] behind (by decide) (by decide) 2 (by decide) _ 5 e).trans rfl, hq _ fun n => ?_⟩
        rw [h33, h94]
        show (noneP n || rangeP ((94 : Nat) : Int) ((94 : Nat) : Int) n) = _
        rw [rng]; simp [noneP]
      · have e := items_item gl (91 :: 46 :: 33 :: 46 :: 93 :: 93 :: behind) 91 _ rfl 1 true noneP _ 5 [91, 46, 33, 46, 93] (93 :: behind) rfl rfl (by decide) (item_sign gl 33 93 behind rfl)
        refine ⟨_, (parse_inside gl 91 [46, 33, 46, 93] behind (by decide) (by decide) 2 (by decide) _ 5 e).trans rfl, hq _ fun n => ?_⟩
        rw [h33, h94]
        show (noneP n || rangeP ((33 : Nat) : Int) ((33 : Nat) : Int) n) = _
        rw [rng]; simp [noneP]
      · have e1 := fun p => items_item gl (91 :: 46 :: 94 :: 46 :: 93 :: 93 :: behind) 91 _ rfl 1 false p _ 5 [91, 46, 94, 46, 93] (93 :: behind) rfl rfl (by decide) (item_sign gl 94 93 behind rfl)
        have e := items_item gl (91 :: 46 :: 33 :: 46 :: 93 :: 91 :: 46 :: 94 :: 46 :: 93 :: 93 :: behind) 91 _ rfl 2 true noneP _ 5 [91, 46, 33, 46, 93] (91 :: 46 :: 94 :: 46 :: 93 :: 93 :: behind) rfl rfl (by decide) (item_sign gl 33 91 _ rfl)
        rw [e1] at e
        refine ⟨_, (parse_inside gl 91 [46, 33, 46, 93, 91, 46, 94, 46, 93] behind (by decide) (by decide) 3 (by decide) _ 10 e).trans rfl, hq _ fun n => ?_⟩
        rw [h33, h94]
        show ((noneP n || rangeP ((33 : Nat) : Int) ((33 : Nat) : Int) n) || rangeP ((94 : Nat) : Int) ((94 : Nat) : Int) n) = _
        rw [rng, rng]; simp [noneP]
    · have h45 : p 45 = true := by
        cases h45 : p 45 with
        | true => rfl
        | false =>
          exfalso
          apply hne
          rw [List.eq_nil_iff_forall_not_mem]
          intro b hb
          rw [mem_bytesP] at hb
          rw [h45] at hs
          rcases hno b hb with rfl | rfl | rfl
          · apply hs; rw [show p 94 = true from hb]; simp
          · apply hs; rw [show p 33 = true from hb]; simp
          · rw [show p 45 = true from hb] at h45; cases h45
      refine plain (45 :: (oneIf (p 33) [33] ++ oneIf (p 94) [94])) (by unfold insideP; rw [if_pos ho, if_neg hs]) ?_ (by simp) ?_ ?_ ?_
      · intro a t h; injection h with h; subst h; decide
      · cases p 33 <;> cases p 94 <;> rfl
      · cases p 33 <;> cases p 94 <;> rfl
      · intro b
        constructor
        · intro hb
          simp only [List.mem_cons, List.mem_append] at hb
          rcases hb with rfl | hb | hb
          · exact h45
          · obtain ⟨h1, rfl⟩ := (mem_oneIf _ _ _).1 hb; exact h1
          · obtain ⟨h1, rfl⟩ := (mem_oneIf _ _ _).1 hb; exact h1
        · intro hb
          rcases hno b hb with rfl | rfl | rfl
          · rw [show p 94 = true from hb]; simp [oneIf]
          · rw [show p 33 = true from hb]; simp [oneIf]
          · simp
  · refine plain (outP p ++ oneIf (p 33) [33] ++ oneIf (p 94) [94] ++ oneIf (p 45) [45]) (by unfold insideP; rw [if_neg ho]) ?_ (by simp [ho]) ?_ ?_ ?_
    · intro a t h
      cases ho2 : outP p with
      | nil => exact absurd ho2 ho
      | cons c k =>
        rw [ho2] at h
        simp only [List.cons_append] at h
        injection h with h
        subst h
        have := (hout c).1 (by rw [ho2]; simp)
        exact ⟨this.2.1, this.2.2.1⟩
    · rw [List.all_eq_true]
      intro b hb
      simp only [List.mem_append] at hb
      rcases hb with ((hb | hb) | hb) | hb
      · exact hpl b ((hout b).1 hb).1
      · rw [((mem_oneIf _ _ _).1 hb).2]; rfl
      · rw [((mem_oneIf _ _ _).1 hb).2]; rfl
      · rw [((mem_oneIf _ _ _).1 hb).2]; rfl
    · apply dashEnd_tail
      rw [List.append_assoc, List.append_assoc]
      refine dashEnd_append _ _ (fun b hb => ((hout b).1 hb).2.2.2) ?_
      cases p 33 <;> cases p 94 <;> cases p 45 <;> rfl
    · intro b
      simp only [List.mem_append, hout]
      constructor
      · rintro (((h | h) | h) | h)
        · exact h.1
        · obtain ⟨h1, rfl⟩ := (mem_oneIf _ _ _).1 h; exact h1
        · obtain ⟨h1, rfl⟩ := (mem_oneIf _ _ _).1 h; exact h1
        · obtain ⟨h1, rfl⟩ := (mem_oneIf _ _ _).1 h; exact h1
      · intro hb
        by_cases h1 : b = 94
        · subst h1; rw [show p 94 = true from hb]; simp [oneIf]
        by_cases h2 : b = 33
        · subst h2; rw [show p 33 = true from hb]; simp [oneIf]
        by_cases h3 : b = 45
        · subst h3; rw [show p 45 = true from hb]; simp [oneIf]
        exact Or.inl (Or.inl (Or.inl ⟨hb, h1, h2, h3⟩))
end Go.Proofs.Ytjoalambgckchaa
