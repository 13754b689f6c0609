import Derived.Test.YtpfblnegaipgdaaDoorNetE
namespace Go.Proofs.YtpfblnegaipgdaaDoor
open Go.Lib

theorem split_at (s : List UInt8) (k : Nat) (c : UInt8) (h : s[k]? = some c) : s = s.take k ++ c :: s.drop (k + 1) := by
  have hk : k < s.length := by
    rcases Nat.lt_or_ge k s.length with g | g
    · exact g
    · rw [List.getElem?_eq_none g] at h; cases h
  have h2 : s.drop k = c :: s.drop (k + 1) := by
    rw [List.drop_eq_getElem_cons hk]
    rw [List.getElem?_eq_getElem hk] at h
    rw [Option.some.inj h]
  conv => lhs; rw [← List.take_append_drop k s, h2]
theorem lenF_inv (s : List UInt8) (v n : Nat) (h : lenF s = (v, n, 0)) : s = decDigits v ++ 58 :: s.drop (n + 1) ∧ (decDigits v).length = n := by
  have hp := preD_spec 7 s
  unfold lenF at h
  by_cases h1 : 6 < preD 7 s ∨ (1 < preD 7 s ∧ s.head? = some 48)
  · rw [if_pos h1] at h; cases h
  · rw [if_neg h1] at h
    by_cases h2 : preD 7 s = s.length
    · rw [if_pos h2] at h; cases h
    · rw [if_neg h2] at h
      by_cases h3 : preD 7 s = 0 ∨ s[preD 7 s]? ≠ some 58
      · rw [if_pos h3] at h; cases h
      · rw [if_neg h3] at h
        simp only [Prod.mk.injEq, and_true] at h
        obtain ⟨rfl, rfl⟩ := h
        have h4 : s[preD 7 s]? = some 58 := by
          by_cases g : s[preD 7 s]? = some 58
          · exact g
          · exact absurd (.inr g) h3
        have hn0 : preD 7 s ≠ 0 := fun g => h3 (.inl g)
        have hlen : (s.take (preD 7 s)).length = preD 7 s := by rw [List.length_take]; omega
        have hd := digs_of (preD 7 s) (s.take (preD 7 s)) hlen hp.2.2.1 (by intro g; rw [g] at hlen; exact hn0 hlen.symm) (by
          intro g
          rw [hlen]
          rcases Nat.lt_or_ge 1 (preD 7 s) with k | k
          · exfalso
            apply h1
            refine .inr ⟨k, ?_⟩
            rw [List.head?_eq_getElem?] at g ⊢
            rw [List.getElem?_take_of_lt (by omega)] at g
            exact g
          · omega)
        rw [hd]
        exact ⟨split_at s _ _ h4, hlen⟩
theorem takeF_inv : ∀ (f : Nat) (s : List UInt8) (all : Nat) (out : List (List UInt8)), all ≤ 8192 → (takeF f s all out).2.2 = 0 →
    ∃ l, (takeF f s all out).1 = out ++ l ∧ s = textsL l ++ 10 :: (takeF f s all out).2.1 ∧ all + (textsL l).length ≤ 8192
  | 0, s, all, out, _, h => by rw [takeF] at h; cases h
  | f + 1, s, all, out, ha, h => by
    by_cases hnl : s.head? = some 10
    · rw [takeF_nl f s all out hnl]
      refine ⟨[], by simp, ?_, by simpa [textsL] using ha⟩
      cases s with
      | nil => cases hnl
      | cons c t =>
        have : c = 10 := by simpa using hnl
        subst this; rfl
    · by_cases he : (lenF s).2.2 = 0
      · obtain ⟨v, n, hL⟩ : ∃ v n, lenF s = (v, n, 0) := ⟨(lenF s).1, (lenF s).2.1, by rw [← he]⟩
        rw [takeF_step f s all out v n hnl hL] at h ⊢
        obtain ⟨hs, hn⟩ := lenF_inv s v n hL
        by_cases hbig : 8192 < all + (n + 2 + v)
        · rw [if_pos hbig] at h; cases h
        rw [if_neg hbig] at h ⊢
        by_cases hsh : (s.drop (n + 1)).length ≤ v
        · rw [if_pos hsh] at h; cases h
        rw [if_neg hsh] at h ⊢
        by_cases hcm : (s.drop (n + 1))[v]? ≠ some 44
        · rw [if_pos hcm] at h; cases h
        rw [if_neg hcm] at h ⊢
        have hcm : (s.drop (n + 1))[v]? = some 44 := by
          by_cases g : (s.drop (n + 1))[v]? = some 44
          · exact g
          · exact absurd g hcm
        have hsp := split_at _ _ _ hcm
        obtain ⟨l, h1, h2, h3⟩ := takeF_inv f _ _ _ (by omega) h
        have hlen : ((s.drop (n + 1)).take v).length = v := by rw [List.length_take]; omega
        have htx : textL ((s.drop (n + 1)).take v) = decDigits v ++ [58] ++ (s.drop (n + 1)).take v ++ [44] := by unfold textL; rw [hlen]
        refine ⟨(s.drop (n + 1)).take v :: l, by rw [h1, List.append_assoc]; rfl, ?_, ?_⟩
        · have e : textsL ((s.drop (n + 1)).take v :: l) = textL ((s.drop (n + 1)).take v) ++ textsL l := rfl
          rw [e, htx, List.append_assoc, ← h2]
          conv => lhs; rw [hs, hsp]
          simp [List.append_assoc]
        · have e : textsL ((s.drop (n + 1)).take v :: l) = textL ((s.drop (n + 1)).take v) ++ textsL l := rfl
          rw [e, List.length_append, text_len, hlen, hn]
          omega
      · rw [takeF_err f s all out hnl he] at h
        exact absurd h he

def lineL (l : List (List UInt8)) : List UInt8 := textsL l ++ [10]
def linesL (L : List (List (List UInt8))) : List UInt8 := (L.map lineL).flatten
theorem lines_snoc (L : List (List (List UInt8))) (l : List (List UInt8)) : linesL (L ++ [l]) = linesL L ++ lineL l := by
  unfold linesL; rw [List.map_append, List.flatten_append]; simp

/-- a script's lists, with fuel -/
def takeQ (s : List UInt8) : List (List UInt8) × List UInt8 × Nat := takeF (s.length + 1) s 0 []
def listsF : Nat → List UInt8 → List (List (List UInt8)) → List (List (List UInt8)) × Nat × Nat
  | 0, _, _ => ([], 0, 3)
  | f + 1, s, out =>
    if s = [] then (out, 0, 0)
    else if out.length = 1000 then ([], 1000, 8)
    else if (takeQ s).2.2 ≠ 0 then ([], out.length, (takeQ s).2.2)
    else listsF f (takeQ s).2.1 (out ++ [(takeQ s).1])
theorem takeQ_rest (s : List UInt8) (h : (takeQ s).2.2 = 0) : s = lineL (takeQ s).1 ++ (takeQ s).2.1 ∧ (textsL (takeQ s).1).length ≤ 8192 := by
  obtain ⟨l, h1, h2, h3⟩ := takeF_inv (s.length + 1) s 0 [] (by omega) h
  rw [List.nil_append] at h1
  have e : (takeQ s).1 = l := h1
  rw [e]
  refine ⟨?_, by omega⟩
  unfold lineL
  rw [List.append_assoc]
  exact h2
theorem takeQ_lt (s : List UInt8) (h : (takeQ s).2.2 = 0) : (takeQ s).2.1.length < s.length := by
  have := congrArg List.length (takeQ_rest s h).1
  unfold lineL at this
  rw [List.length_append, List.length_append, List.length_singleton] at this
  omega
theorem listsF_inv : ∀ (f : Nat) (s : List UInt8) (out : List (List (List UInt8))), s.length < f → out.length ≤ 1000 → (∀ l ∈ out, (textsL l).length ≤ 8192) → (listsF f s out).2.2 = 0 →
    linesL (listsF f s out).1 = linesL out ++ s ∧ (listsF f s out).1.length ≤ 1000 ∧ (∀ l ∈ (listsF f s out).1, (textsL l).length ≤ 8192) ∧ (listsF f s out).2.1 = 0
  | 0, s, _, h, _, _, _ => absurd h (Nat.not_lt_zero _)
  | f + 1, s, out, hf, ho, hm, h => by
    rw [listsF] at h ⊢
    by_cases h1 : s = []
    · rw [if_pos h1]
      subst h1
      exact ⟨by simp, ho, hm, rfl⟩
    rw [if_neg h1] at h ⊢
    by_cases h2 : out.length = 1000
    · rw [if_pos h2] at h; cases h
    rw [if_neg h2] at h ⊢
    by_cases h3 : (takeQ s).2.2 ≠ 0
    · rw [if_pos h3] at h; exact absurd h h3
    rw [if_neg h3] at h ⊢
    have h3 : (takeQ s).2.2 = 0 := by omega
    obtain ⟨g1, g2⟩ := takeQ_rest s h3
    have glt := takeQ_lt s h3
    obtain ⟨k1, k2, k3, k4⟩ := listsF_inv f (takeQ s).2.1 (out ++ [(takeQ s).1]) (by omega) (by rw [List.length_append, List.length_singleton]; omega) (by
      intro l hl
      rcases List.mem_append.1 hl with g | g
      · exact hm l g
      · rw [List.mem_singleton.1 g]; exact g2) h
    refine ⟨?_, k2, k3, k4⟩
    rw [k1, lines_snoc, List.append_assoc, ← g1]
theorem listsF_bad : ∀ (f : Nat) (s : List UInt8) (out : List (List (List UInt8))), (listsF f s out).2.2 ≠ 0 → (listsF f s out).1 = []
  | 0, _, _, _ => rfl
  | f + 1, s, out, h => by
    rw [listsF] at h ⊢
    by_cases h1 : s = []
    · rw [if_pos h1] at h; exact absurd rfl h
    rw [if_neg h1] at h ⊢
    by_cases h2 : out.length = 1000
    · rw [if_pos h2]
    rw [if_neg h2] at h ⊢
    by_cases h3 : (takeQ s).2.2 ≠ 0
    · rw [if_pos h3]
    rw [if_neg h3] at h ⊢
    exact listsF_bad f _ _ h
theorem listsF_code : ∀ (f : Nat) (s : List UInt8) (out : List (List (List UInt8))), out.length ≤ 1000 → (listsF f s out).2.1 ≤ 1000
  | 0, _, _, _ => by rw [listsF]; simp
  | f + 1, s, out, ho => by
    rw [listsF]
    split
    · simp
    · split
      · simp
      · split
        · exact ho
        · exact listsF_code f _ _ (by rw [List.length_append, List.length_singleton]; omega)
end Go.Proofs.YtpfblnegaipgdaaDoor
