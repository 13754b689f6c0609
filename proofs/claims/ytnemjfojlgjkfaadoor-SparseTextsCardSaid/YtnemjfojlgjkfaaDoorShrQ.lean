/- Maps with holes: shrinking, in plain words. -/
import Derived.Test.YtnemjfojlgjkfaaDoorShrP
namespace Go.Proofs.YtnemjfojlgjkfaaDoor
open Go.RowKit

theorem pieB_snoc (size : Int) (l : Pcs) (q : Int × Int) : ∀ e, pieB size e (l ++ [q]) = true ↔ (pieB size e l = true ∧ (∀ p ∈ l, p.1 + p.2 ≤ q.1) ∧ e ≤ q.1 ∧ 1 ≤ q.2 ∧ q.1 + q.2 ≤ size) := by
  induction l with
  | nil =>
    intro e
    simp only [List.nil_append, pieB]
    split
    · constructor
      · intro h; cases h
      · rintro ⟨_, _, h⟩; omega
    · constructor
      · intro _; exact ⟨trivial, fun p hp => (List.not_mem_nil hp).elim, by omega⟩
      · intro _; rfl
  | cons p l ih =>
    intro e
    rw [List.cons_append]
    simp only [pieB]
    split
    · simp
    · rw [ih]
      simp only [List.mem_cons, forall_eq_or_imp]
      constructor
      · rintro ⟨h1, h2, h3, h4⟩; exact ⟨h1, ⟨h3, h2⟩, by omega, h4⟩
      · rintro ⟨h1, ⟨h3, h2⟩, _, h4⟩; exact ⟨h1, h2, h3, h4⟩
/-- one part more: it goes on the last piece, or is one of its own -/
def extL (l : Pcs) (a n : Int) : Pcs := match l.getLast? with
  | some p => if p.1 + p.2 = a then l.dropLast ++ [(p.1, p.2 + n)] else l ++ [(a, n)]
  | none => l ++ [(a, n)]
theorem ext_new (l : Pcs) (a n : Int) (h : ∀ p, l.getLast? = some p → p.1 + p.2 ≠ a) : extL l a n = l ++ [(a, n)] := by
  unfold extL
  cases hl : l.getLast? with
  | none => rfl
  | some p => dsimp only; rw [if_neg (h p hl)]
theorem ext_on (t : Pcs) (p : Int × Int) (a n : Int) (h : p.1 + p.2 = a) : extL (t ++ [p]) a n = t ++ [(p.1, p.2 + n)] := by
  unfold extL
  rw [List.getLast?_concat]
  dsimp only
  rw [if_pos h, List.dropLast_concat]
theorem snoc_of (l : Pcs) (p : Int × Int) (h : l.getLast? = some p) : l = l.dropLast ++ [p] := by
  obtain ⟨ys, rfl⟩ := List.getLast?_eq_some_iff.1 h
  rw [List.dropLast_concat]
theorem ext_laws (size : Int) (l : Pcs) (a n : Int) (ha : 0 ≤ a) (hn : 1 ≤ n) (hs : a + n ≤ size) (h : pieB size 0 l = true) (hb : ∀ p ∈ l, p.1 + p.2 ≤ a) :
    pieB size 0 (extL l a n) = true ∧ (∀ p ∈ extL l a n, p.1 + p.2 ≤ a + n) ∧ pieLen (extL l a n) = pieLen l + n ∧ (extL l a n).length ≤ l.length + 1 ∧ (∀ x, covB (extL l a n) x = covB l x + clampI (x - a) n) ∧ ∀ x, hitB (extL l a n) x = (hitB l x || decide (a ≤ x ∧ x < a + n)) := by
  by_cases hc : ∃ p, l.getLast? = some p ∧ p.1 + p.2 = a
  · obtain ⟨p, hp, hpa⟩ := hc
    have hl := snoc_of l p hp
    generalize l.dropLast = t at hl
    subst hl
    have hm := pieB_mem size _ _ h p (List.mem_append_right _ (List.mem_cons_self ..))
    obtain ⟨h1, h2, h3, h4, h5⟩ := (pieB_snoc size t p 0).1 h
    rw [ext_on t p a n hpa]
    refine ⟨(pieB_snoc size t _ 0).2 ⟨h1, h2, h3, by dsimp only; omega, by dsimp only; omega⟩, ?_, ?_, ?_, ?_, ?_⟩
    · intro q hq
      rcases List.mem_append.1 hq with hq | hq
      · have := hb q (List.mem_append_left _ hq); omega
      · rw [List.mem_singleton.1 hq]; dsimp only; omega
    · rw [pieLen_append, pieLen_append, pieLen_cons, pieLen_cons]; dsimp only; omega
    · simp
    · intro x
      rw [covB_append, covB_append]
      simp only [covB]
      unfold clampI
      omega
    · intro x
      rw [hitB_append, hitB_append, Bool.or_assoc]
      congr 1
      simp only [hitB, List.any_cons, List.any_nil, Bool.or_false]
      rw [← Bool.decide_or, decide_eq_decide]
      omega
  · rw [ext_new l a n (fun p hp hpa => hc ⟨p, hp, hpa⟩)]
    refine ⟨(pieB_snoc size l _ 0).2 ⟨h, hb, ha, hn, hs⟩, ?_, ?_, ?_, ?_, ?_⟩
    · intro q hq
      rcases List.mem_append.1 hq with hq | hq
      · have := hb q hq; omega
      · rw [List.mem_singleton.1 hq]; dsimp only; omega
    · rw [pieLen_append, pieLen_cons]; dsimp only; show _ = _ + n; rw [show pieLen [] = 0 from rfl]; omega
    · simp
    · intro x
      rw [covB_append]
      simp only [covB]
      omega
    · intro x
      rw [hitB_append]
      congr 1
      simp only [hitB, List.any_cons, List.any_nil, Bool.or_false]
def chunkL (s : List UInt8) (i : Nat) : List UInt8 := (s.drop (512 * i)).take 512
theorem chunk_len (s : List UInt8) (i : Nat) : (chunkL s i).length = min 512 (s.length - 512 * i) := by
  unfold chunkL; rw [List.length_take, List.length_drop]
theorem chunk_at (s : List UInt8) (i x : Nat) (h0 : 512 * i ≤ x) (h1 : x < 512 * i + 512) : (chunkL s i)[x - 512 * i]? = s[x]? := by
  unfold chunkL
  rw [List.getElem?_take_of_lt (by omega), List.getElem?_drop, show 512 * i + (x - 512 * i) = x by omega]
/-- what is found behind so many blocks -/
def shrS (s : List UInt8) : Nat → Pcs × List UInt8
  | 0 => ([], [])
  | i + 1 => if blankB (chunkL s i) = true then shrS s i else (extL (shrS s i).1 (512 * i : Nat) (chunkL s i).length, (shrS s i).2 ++ chunkL s i)
theorem shrS_blank (s : List UInt8) (i : Nat) (h : blankB (chunkL s i) = true) : shrS s (i + 1) = shrS s i := by rw [shrS, if_pos h]
theorem shrS_full (s : List UInt8) (i : Nat) (h : blankB (chunkL s i) = false) : shrS s (i + 1) = (extL (shrS s i).1 (512 * i : Nat) (chunkL s i).length, (shrS s i).2 ++ chunkL s i) := by rw [shrS, if_neg (by rw [h]; decide)]
structure ShrI (s : List UInt8) (i : Nat) : Prop where
  right : pieB s.length 0 (shrS s i).1 = true
  below : ∀ p ∈ (shrS s i).1, p.1 + p.2 ≤ (min (512 * i) s.length : Nat)
  len : pieLen (shrS s i).1 = (shrS s i).2.length
  cnt : (shrS s i).1.length ≤ i
  out : ∀ x : Nat, x < s.length → x < 512 * i → expAt (shrS s i).1 (shrS s i).2 x = (s[x]?).getD 0
theorem blank_at (l : List UInt8) (h : blankB l = true) (j : Nat) : (l[j]?).getD 0 = 0 := by
  cases hj : l[j]? with
  | none => rfl
  | some b =>
    unfold blankB at h
    rw [List.all_eq_true] at h
    have := h b (List.mem_of_getElem? hj)
    simpa using this
theorem shrI (s : List UInt8) : ∀ i, 512 * i < s.length + 512 → ShrI s i := by
  intro i
  induction i with
  | zero => intro _; exact ⟨rfl, fun p hp => (List.not_mem_nil hp).elim, rfl, Nat.le_refl _, fun x _ h => absurd h (by omega)⟩
  | succ i ih =>
    intro hi
    obtain ⟨h1, h2, h3, h4, h5⟩ := ih (by omega)
    have hcl := chunk_len s i
    have hmin : min (512 * i) s.length = 512 * i := by omega
    rw [hmin] at h2
    have hmem := pieB_mem _ _ _ h1
    by_cases hb : blankB (chunkL s i) = true
    · have e := shrS_blank s i hb
      refine ⟨by rw [e]; exact h1, ?_, by rw [e]; exact h3, by rw [e]; omega, ?_⟩
      · intro p hp
        rw [e] at hp
        have := h2 p hp
        omega
      · intro x hx hx2
        rw [e]
        by_cases hlt : x < 512 * i
        · exact h5 x hx hlt
        · rw [← chunk_at s i x (by omega) (by omega), blank_at _ hb]
          unfold expAt
          rw [hit_behind _ _ (fun p hp => by have := h2 p hp; omega)]
          rfl
    · have hbf : blankB (chunkL s i) = false := by simpa using hb
      have e := shrS_full s i hbf
      have hn1 : 1 ≤ (chunkL s i).length := by omega
      obtain ⟨g1, g2, g3, g4, g5, g6⟩ := ext_laws s.length (shrS s i).1 (512 * i : Nat) (chunkL s i).length (by omega) (by omega) (by omega) h1 h2
      refine ⟨by rw [e]; exact g1, ?_, ?_, by rw [e]; show List.length (extL _ _ _) ≤ _; omega, ?_⟩
      · intro p hp
        rw [e] at hp
        have := g2 p hp
        omega
      · rw [e]
        show pieLen (extL _ _ _) = _
        rw [g3, h3, List.length_append]; push_cast; rfl
      · intro x hx hx2
        rw [e]
        show expAt (extL _ _ _) (_ ++ _) x = _
        unfold expAt
        rw [g5, g6]
        by_cases hlt : x < 512 * i
        · rw [decide_eq_false (by omega), Bool.or_false, show clampI ((x : Int) - (512 * i : Nat)) (chunkL s i).length = 0 by unfold clampI; omega, Int.add_zero, ← h5 x hx hlt]
          unfold expAt
          by_cases hh : hitB (shrS s i).1 x = true
          · rw [if_pos hh, if_pos hh]
            have := cov_lt _ (x : Int) (fun p hp => by have := hmem p hp; omega) hh
            have := cov_bound (shrS s i).1 (x : Int) (fun p hp => by have := hmem p hp; omega)
            rw [List.getElem?_append_left (by omega)]
          · rw [if_neg hh, if_neg hh]
        · rw [decide_eq_true (by omega), Bool.or_true, if_pos rfl, cov_behind _ _ (fun p hp => by have := h2 p hp; omega) (fun p hp => by have := hmem p hp; omega), h3, show ((((shrS s i).2.length : Nat) : Int) + clampI ((x : Int) - (512 * i : Nat)) (chunkL s i).length).toNat = (shrS s i).2.length + (x - 512 * i) by unfold clampI; omega]
          rw [List.getElem?_append_right (by omega), Nat.add_sub_cancel_left, chunk_at s i x (by omega) (by omega)]
/-- what is shrunk is expanded to what it was -/
theorem shr_exp (s : List UInt8) (i : Nat) (h0 : s.length ≤ 512 * i) (h1 : 512 * i < s.length + 512) : expL s.length (shrS s i).1 (shrS s i).2 = s := by
  have H := shrI s i h1
  apply List.ext_getElem?
  intro x
  by_cases hx : x < s.length
  · rw [expL_at _ _ _ x hx, H.out x hx (by omega), List.getElem?_eq_getElem hx]; rfl
  · rw [List.getElem?_eq_none (by rw [expL_len]; omega), List.getElem?_eq_none (by omega)]
/-- a block that goes on the last piece: the one ahead of it was full, and had bytes -/
theorem shr_was (s : List UInt8) (i : Nat) (h : 512 * i < s.length) (p : Int × Int) (hp : (shrS s i).1.getLast? = some p) : (p.1 + p.2 = (512 * i : Nat)) ↔ (0 < i ∧ blankB (chunkL s (i - 1)) = false) := by
  cases i with
  | zero => cases hp
  | succ i =>
    have H := shrI s i (by omega)
    have hcl := chunk_len s i
    rw [Nat.add_sub_cancel]
    by_cases hb : blankB (chunkL s i) = true
    · rw [shrS_blank s i hb] at hp
      have := H.below p (List.mem_of_getLast? hp)
      rw [hb]
      constructor
      · intro e; omega
      · rintro ⟨_, e⟩; cases e
    · have hbf : blankB (chunkL s i) = false := by simpa using hb
      rw [shrS_full s i hbf] at hp
      dsimp only at hp
      refine ⟨fun _ => ⟨by omega, hbf⟩, fun _ => ?_⟩
      by_cases hc : ∃ q, (shrS s i).1.getLast? = some q ∧ q.1 + q.2 = (512 * i : Nat)
      · obtain ⟨q, hq, hqa⟩ := hc
        rw [snoc_of _ q hq, ext_on _ q _ _ hqa, List.getLast?_concat] at hp
        cases hp
        dsimp only; omega
      · rw [ext_new _ _ _ (fun q hq hqa => hc ⟨q, hq, hqa⟩), List.getLast?_concat] at hp
        cases hp
        dsimp only; omega
theorem shr_nil (s : List UInt8) (i : Nat) (h : (shrS s i).1 = []) (h0 : 0 < i) : blankB (chunkL s (i - 1)) = true := by
  obtain ⟨j, rfl⟩ : ∃ j, i = j + 1 := ⟨i - 1, by omega⟩
  rw [Nat.add_sub_cancel]
  by_cases hb : blankB (chunkL s j) = true
  · exact hb
  · exfalso
    rw [shrS_full s j (by simpa using hb)] at h
    dsimp only at h
    unfold extL at h
    split at h
    · split at h <;> simp at h
    · simp at h
end Go.Proofs.YtnemjfojlgjkfaaDoor
