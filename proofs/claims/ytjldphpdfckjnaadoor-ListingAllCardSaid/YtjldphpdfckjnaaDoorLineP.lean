/- Lines of lists: the plain law. -/
import Derived.Test.YtjldphpdfckjnaaDoorWhenH
import Derived.Test.YtjldphpdfckjnaaDoorWhenP
import Derived.Test.YtjldphpdfckjnaaDoorLrights2
import Derived.Test.YtjldphpdfckjnaaDoorLquotes2
import Derived.Test.YtjldphpdfckjnaaDoorStrs
import Derived.Lib.ReplaceLaws
import Derived.Lib.ItoaNum
namespace Go.Proofs.YtjldphpdfckjnaaDoor
open Go.RowKit Go.Lib

theorem index_at (c : UInt8) : ∀ (A B : List UInt8), c ∉ A → Lib.index (A ++ c :: B) [c] = (A.length : Int)
  | [], B, _ => by simp [Lib.index]
  | a :: A, B, h => by
    have ha : a ≠ c := fun e => h (e ▸ List.mem_cons_self)
    have ih := index_at c A B (fun m => h (List.mem_cons_of_mem _ m))
    have hp : ([c] : List UInt8).isPrefixOf (a :: (A ++ c :: B)) = false := by
      simp only [List.isPrefixOf, Bool.and_true, beq_eq_false_iff_ne]
      exact fun e => ha e.symm
    have hm : ¬ ((A.length : Int) == -1) = true := fun e => by have := beq_iff_eq.1 e; omega
    rw [List.cons_append, Lib.index, hp, ih, if_neg (by decide), if_neg hm]
    simp
theorem replace_one (c d : UInt8) (hcd : c ≠ d) (A B : List UInt8) (h : c ∉ A) : Lib.replace (A ++ c :: B) [c] [d] 1 = A ++ d :: B := by
  have hi := index_at c A B h
  have hb : (([c] : List UInt8) == [d]) = false := by simp [hcd]
  have hc : 1 ≤ Lib.count (A ++ c :: B) [c] := by rw [count_one, List.count_append, List.count_cons_self]; omega
  have hn : replaceNum (A ++ c :: B) [c] 1 = 1 := by
    unfold replaceNum
    rw [if_neg (by omega)]; rfl
  rw [Lib.replace, hb, if_neg (by decide), hn, replaceK_hit [c] [d] 0 _ _ hi, List.take_left]
  have e : (A ++ c :: B).drop (A.length + ([c] : List UInt8).length) = B := by
    rw [← List.drop_drop, List.drop_left]; rfl
  rw [e, replaceK]
  simp
theorem split_none (c : UInt8) (A : List UInt8) (h : c ∉ A) : Lib.split A [c] = [A] := by
  rw [Lib.split, count_one, List.count_eq_zero_of_not_mem h]; rfl
theorem split_at (c : UInt8) (A B : List UInt8) (h : c ∉ A) : Lib.split (A ++ c :: B) [c] = A :: Lib.split B [c] := by
  have hi := index_at c A B h
  have hm : ¬ ((A.length : Int) == -1) = true := fun e => by have := beq_iff_eq.1 e; omega
  have hc : Lib.count (A ++ c :: B) [c] = Lib.count B [c] + 1 := by
    rw [count_one, count_one, List.count_append, List.count_cons_self, List.count_eq_zero_of_not_mem h]; omega
  rw [Lib.split, hc, splitK, hi, if_neg hm]
  have e : (A ++ c :: B).drop ((A.length : Int).toNat + ([c] : List UInt8).length) = B := by
    rw [Int.toNat_natCast, ← List.drop_drop, List.drop_left]; rfl
  rw [e, Int.toNat_natCast, Nat.add_zero, List.take_left]
  rfl
/-- quoted texts bear no blank; those that are no names no slash -/
theorem quote1_ok (name : Bool) (b : UInt8) : (quote1 name b).all (fun c => c != 32 && (name || c != 47)) = true := by
  cases name
  · exact all_bytes (fun b => (quote1 false b).all (fun c => c != 32 && (false || c != 47))) (by decide +kernel) b
  · exact all_bytes (fun b => (quote1 true b).all (fun c => c != 32 && (true || c != 47))) (by decide +kernel) b
theorem quoteF_ok (name : Bool) (l : List UInt8) : ∀ c ∈ quoteF name l, c ≠ 32 ∧ (name = false → c ≠ 47) := by
  intro c hc
  unfold quoteF at hc
  split at hc
  · rw [List.mem_singleton.1 hc]; exact ⟨by decide, fun _ => by decide⟩
  · obtain ⟨b, _, hb⟩ := List.mem_flatMap.1 hc
    have := List.all_eq_true.1 (quote1_ok name b) c hb
    simp only [Bool.and_eq_true, bne_iff_ne, ne_eq, Bool.or_eq_true] at this
    refine ⟨this.1, fun hn => ?_⟩
    rcases this.2 with h | h
    · rw [hn] at h; cases h
    · exact h
/-- a number's text: digits and a sign -/
def numB (c : UInt8) : Bool := c == 45 || dg c
theorem itoa_num (n : Int) : ∀ c ∈ itoa n, numB c = true := by
  intro c hc
  unfold itoa at hc
  unfold numB
  split at hc
  · rcases List.mem_cons.1 hc with rfl | h
    · rfl
    · rw [digs_dg _ c h]; simp
  · rw [digs_dg _ c hc]; simp
theorem numB_plain (c : UInt8) (h : numB c = true) : plainB c false = true ∧ plainB c true = true ∧ c ≠ 32 ∧ c ≠ 47 := by
  have := all_bytes (fun c => !numB c || (plainB c false && plainB c true && c != 32 && c != 47)) (by decide +kernel) c
  simp only [h, Bool.not_true, Bool.false_or, Bool.and_eq_true, bne_iff_ne, ne_eq] at this
  exact ⟨this.1.1.1, this.1.1.2, this.1.2, this.2⟩
theorem itoa_ne (n : Int) : itoa n ≠ [] := by
  unfold itoa
  split
  · exact List.cons_ne_nil _ _
  · intro e
    have := digs_val n.toNat
    rw [decDigits.eq_1] at e
    split at e
    · cases e
    · exact absurd e (by simp)
theorem quoteL_num (name : Bool) (l : List UInt8) (h : ∀ c ∈ l, numB c = true) : quoteL name l = l := by
  unfold quoteL
  induction l with
  | nil => rfl
  | cons a l ih =>
    have ha : plainB a name = true := by
      have := numB_plain a (h a List.mem_cons_self)
      cases name
      · exact this.1
      · exact this.2.1
    rw [List.flatMap_cons, quote1_yes a name ha, ih (fun c hc => h c (List.mem_cons_of_mem _ hc))]
    rfl
theorem quote_itoa (name : Bool) (n : Int) : quoteF name (itoa n) = itoa n := by
  unfold quoteF
  rw [if_neg (itoa_ne n), quoteL_num name _ (itoa_num n)]
theorem plain_itoa (name : Bool) (n : Int) : plainR name (itoa n) = (itoa n, true) := by
  have := plain_quote name (itoa n)
  rw [quote_itoa] at this
  exact this
theorem itoa_len (n : Int) (h0 : -9223372036854775808 ≤ n) (h1 : n ≤ 9223372036854775807) : (itoa n).length ≤ 20 := by
  unfold itoa
  split
  · have := digs_len 18 n.natAbs (by omega)
    rw [List.length_cons]; omega
  · have := digs_len 18 n.toNat (by omega)
    omega
/-- a name, quoted, or a number -/
def ownerL (name : List UInt8) (id : Int) : List UInt8 := if name = [] then itoa id else quoteF false name
theorem ownerL_ok (name : List UInt8) (id : Int) : (32 : UInt8) ∉ ownerL name id ∧ (47 : UInt8) ∉ ownerL name id := by
  unfold ownerL
  split
  · exact ⟨fun h => (numB_plain _ (itoa_num id _ h)).2.2.1 rfl, fun h => (numB_plain _ (itoa_num id _ h)).2.2.2 rfl⟩
  · exact ⟨fun h => (quoteF_ok false name _ h).1 rfl, fun h => (quoteF_ok false name _ h).2 rfl rfl⟩
/-- what is read of an owner -/
theorem ownerL_read (name : List UInt8) (id : Int) : plainR false (ownerL name id) = (if name = [] then itoa id else name, true) := by
  unfold ownerL
  split
  · exact plain_itoa false id
  · exact plain_quote false name
theorem ownerL_len (name : List UInt8) (id : Int) (h0 : -9223372036854775808 ≤ id) (h1 : id ≤ 9223372036854775807) : (ownerL name id).length ≤ 4 * name.length + 20 := by
  unfold ownerL
  split
  · have := itoa_len id h0 h1; omega
  · have := quoteF_len false name; omega
theorem rights_len (m : Int) (k : UInt8) : (rightsL m k).length = 10 := by
  unfold rightsL threeL; rfl
theorem sign_no32 (k : UInt8) : signB k ≠ 32 := by
  have := all_bytes (fun k => signB k != 32) (by decide +kernel) k
  simpa using this
theorem rights_no32 (m : Int) (k : UInt8) : (32 : UInt8) ∉ rightsL m k := by
  unfold rightsL threeL
  simp only [List.mem_cons, List.mem_append, List.not_mem_nil, or_false, not_or]
  refine ⟨fun e => sign_no32 k e.symm, ?_⟩
  generalize bitI m 11 = x0
  generalize bitI m 10 = x1
  generalize bitI m 9 = x2
  refine ⟨⟨⟨?_, ?_, ?_⟩, ?_, ?_, ?_⟩, ?_, ?_, ?_⟩ <;> (repeat' split) <;> decide
/-- is a time written as a day? -/
def dayB (s n : Int) : Bool := rightB s n && decide (-719162 ≤ s / 86400) && decide (s / 86400 ≤ 2932896)
/-- the same text with a T for the blank -/
def textT (y m d h i s n : Nat) : List UInt8 := (padL 4 y ++ (45 :: (padL 2 m ++ (45 :: padL 2 d)))) ++ (84 :: (padL 2 h ++ (58 :: (padL 2 i ++ (58 :: (padL 2 s ++ tailW n))))))
theorem textW_two (y m d h i s n : Nat) : textW y m d h i s n = (padL 4 y ++ (45 :: (padL 2 m ++ (45 :: padL 2 d)))) ++ (32 :: (padL 2 h ++ (58 :: (padL 2 i ++ (58 :: (padL 2 s ++ tailW n)))))) := by
  unfold textW; simp only [List.append_assoc, List.cons_append]
theorem dg_ne (c : UInt8) (h : dg c = true) : c ≠ 32 := by
  intro e; subst e; cases h
theorem head_no32 (y m d : Nat) : (32 : UInt8) ∉ padL 4 y ++ (45 :: (padL 2 m ++ (45 :: padL 2 d))) := by
  simp only [List.mem_append, List.mem_cons, not_or]
  exact ⟨fun h => dg_ne _ (pad_dg _ _ _ h) rfl, by decide, fun h => dg_ne _ (pad_dg _ _ _ h) rfl, by decide, fun h => dg_ne _ (pad_dg _ _ _ h) rfl⟩
theorem textW_rep (y m d h i s n : Nat) : Lib.replace (textW y m d h i s n) [32] [84] 1 = textT y m d h i s n := by
  rw [textW_two, replace_one 32 84 (by decide) _ _ (head_no32 y m d)]
  rfl
theorem tailW_no32 (n : Nat) (h : n < 1000000000) : (32 : UInt8) ∉ tailW n := by
  unfold tailW
  by_cases h0 : n = 0
  · rw [if_pos h0]; simp
  · rw [if_neg h0]
    intro hm
    rcases List.mem_cons.1 hm with e | hm
    · cases e
    · obtain ⟨hb, _⟩ := fracT_ok n h h0
      obtain ⟨_, _, hdg⟩ := (digB_iff _ _).1 hb
      exact dg_ne _ (hdg _ hm) rfl
theorem textT_no32 (y m d h i s n : Nat) (hn : n < 1000000000) : (32 : UInt8) ∉ textT y m d h i s n := by
  unfold textT
  simp only [List.mem_append, List.mem_cons, not_or]
  refine ⟨?_, by decide, fun h => dg_ne _ (pad_dg _ _ _ h) rfl, by decide, fun h => dg_ne _ (pad_dg _ _ _ h) rfl, by decide, fun h => dg_ne _ (pad_dg _ _ _ h) rfl, tailW_no32 n hn⟩
  have := head_no32 y m d
  simpa only [List.mem_append, List.mem_cons, not_or] using this
/-- a time's word -/
def ClkP (s n : Int) (l : List UInt8) : Prop :=
  (dayB s n = true ∧ ∃ Y M D : Nat, mayB Y M D = true ∧ numI Y M D = s / 86400 ∧ l = textT Y M D ((s % 86400).toNat / 3600) ((s % 86400).toNat / 60 % 60) ((s % 86400).toNat % 60) n.toNat)
  ∨ (dayB s n = false ∧ l = 64 :: (itoa s ++ 46 :: itoa n))
theorem ClkP.uniq {s n : Int} {l l' : List UInt8} (h : ClkP s n l) (h' : ClkP s n l') : l = l' := by
  rcases h with ⟨h1, Y, M, D, h2, h3, rfl⟩ | ⟨h1, rfl⟩
  · rcases h' with ⟨_, Y', M', D', g2, g3, rfl⟩ | ⟨g1, _⟩
    · obtain ⟨e1, e2, e3⟩ := num_inj _ _ _ _ _ _ h2 g2 (h3.trans g3.symm)
      obtain rfl : Y = Y' := by omega
      obtain rfl : M = M' := by omega
      obtain rfl : D = D' := by omega
      rfl
    · rw [h1] at g1; cases g1
  · rcases h' with ⟨g1, _⟩ | ⟨_, rfl⟩
    · rw [h1] at g1; cases g1
    · rfl
theorem ClkP.no32 {s n : Int} {l : List UInt8} (h : ClkP s n l) (hn : dayB s n = true → n.toNat < 1000000000) : (32 : UInt8) ∉ l := by
  rcases h with ⟨h1, Y, M, D, _, _, rfl⟩ | ⟨_, rfl⟩
  · exact textT_no32 _ _ _ _ _ _ _ (hn h1)
  · simp only [List.mem_cons, List.mem_append, not_or]
    exact ⟨by decide, fun h => (numB_plain _ (itoa_num _ _ h)).2.2.1 rfl, by decide, fun h => (numB_plain _ (itoa_num _ _ h)).2.2.1 rfl⟩
/-- what stands ahead of a link -/
def arrowL (k : UInt8) : List UInt8 := if k = 50 then [32, 45, 62, 32] else if k = 49 then [32, 61, 61, 32] else []
/-- how much, or a device's numbers -/
def muchL (k : UInt8) (size ma mi : Int) : List UInt8 := if k = 51 ∨ k = 52 then itoa ma ++ 44 :: itoa mi else itoa size
theorem muchL_ok (k : UInt8) (size ma mi : Int) : (32 : UInt8) ∉ muchL k size ma mi ∧ muchL k size ma mi ≠ [] := by
  unfold muchL
  split
  · simp only [List.mem_append, List.mem_cons, not_or]
    exact ⟨⟨fun h => (numB_plain _ (itoa_num _ _ h)).2.2.1 rfl, by decide, fun h => (numB_plain _ (itoa_num _ _ h)).2.2.1 rfl⟩, by simp⟩
  · exact ⟨fun h => (numB_plain _ (itoa_num _ _ h)).2.2.1 rfl, itoa_ne _⟩
end Go.Proofs.YtjldphpdfckjnaaDoor
