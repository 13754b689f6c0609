/- A bracket's scan: a named class. -/
import Derived.Test.YtphfcebacilbbaaDoorBrB
import Derived.Test.YtphfcebacilbbaaDoorClassG
namespace Go.Proofs.YtphfcebacilbbaaDoor
open Go.RowKit

theorem Own1.cell {b : Nat} {w w' : World} (h : Own1 b w w') {k o : Nat} {u : Value} (hc : w.cell? ⟨k, o, none⟩ = some u) (hne : k ≠ b) : w'.cell? ⟨k, o, none⟩ = some u := by
  have hk : k < w.heap.size := World.block_lt_of_cell? w ⟨k, o, none⟩ hc
  have := h.block k hk (by intro e; injection e with e; exact hne e)
  unfold World.cell? at *
  rw [this]; exact hc
theorem ScB.setP {w : World} {g : Nat} {s : List UInt8} {k : Nat} {gl : Bool} {p : Nat → Bool} (h : ScB w g s k gl p) (q : Nat → Bool) :
    ScB ((((w.setCell ⟨g, 3, none⟩ (.int .u64 (wordP q 0))).setCell ⟨g, 4, none⟩ (.int .u64 (wordP q 1))).setCell ⟨g, 5, none⟩ (.int .u64 (wordP q 2))).setCell ⟨g, 6, none⟩ (.int .u64 (wordP q 3))) g s k gl q := by
  have st : ∀ (w : World) (C : Array Value) (o : Nat) (u : Value), w.heap[g]? = some (.cells C 97 (0, 0)) → (w.setCell ⟨g, o, none⟩ u).heap[g]? = some (.cells (C.setIfInBounds o u) 97 (0, 0)) := by
    intro w C o u h
    unfold World.setCell
    show (w.heap.modify g _)[g]? = _
    rw [Array.getElem?_modify, if_pos rfl, h]
    rfl
  unfold ScB at *
  exact st _ _ 6 _ (st _ _ 5 _ (st _ _ 4 _ (st _ _ 3 _ h)))
theorem index_fits (sub : List UInt8) (hs : sub ≠ []) : ∀ l : List UInt8, 0 ≤ Lib.index l sub → (Lib.index l sub).toNat + sub.length ≤ l.length
  | [], h => by
    cases sub with
    | nil => exact absurd rfl hs
    | cons => simp [Lib.index] at h
  | b :: l, h => by
    have ih := index_fits sub hs l
    unfold Lib.index at h ⊢
    by_cases hp : sub.isPrefixOf (b :: l) = true
    · rw [if_pos hp]
      have := (List.isPrefixOf_iff_prefix.1 hp).length_le
      simpa using this
    · rw [if_neg hp] at h ⊢
      by_cases hm : (Lib.index l sub == -1) = true
      · rw [if_pos hm] at h; omega
      · rw [if_neg hm] at h ⊢
        have hne : Lib.index l sub ≠ -1 := by simpa using hm
        have hge : -1 ≤ Lib.index l sub := Lib.index_ge l sub
        have := ih (by omega)
        simp only [List.length_cons]
        omega
theorem cut_fits (q : List UInt8) (h : (Lib.cut q [58, 93]).2.2 = true) : (Lib.cut q [58, 93]).1.length + 2 ≤ q.length := by
  unfold Lib.cut at h ⊢
  by_cases hi : 0 ≤ Lib.index q [58, 93]
  · rw [if_pos hi]
    have := index_fits [58, 93] (by simp) q hi
    simp only [List.length_take, List.length_cons, List.length_nil] at this ⊢
    omega
  · rw [if_neg hi] at h; cases h
/-- a class's name, behind its opening signs -/
def namedF (q : List UInt8) : Option ((Nat → Bool) × Nat) :=
  if (Lib.cut q [58, 93]).2.2 = true ∧ (namedP (Lib.cut q [58, 93]).1).2 = true then some ((namedP (Lib.cut q [58, 93]).1).1, (Lib.cut q [58, 93]).1.length + 2) else none
def NmQ (g : Nat) (s : List UInt8) (k : Nat) (gl : Bool) (p : Nat → Bool) (r : Option ((Nat → Bool) × Nat)) (w : World) (e : Ending) (w' : World) : Prop :=
  Own1 g w w' ∧ match r with
  | some (c, n) => e = .returned (.bool true) ∧ ScB w' g s (k + n) gl (orP p c) ∧ k + n ≤ s.length ∧ 1 ≤ n
  | none => e = .returned (.bool false)
set_option maxRecDepth 100000 in
set_option maxHeartbeats 1000000 in
theorem scnamed_any (g : Nat) (s : List UInt8) (k : Nat) (gl : Bool) (p : Nat → Bool) (hk : k ≤ s.length) (hs : s.length ≤ 1000000) (w : World) (hw : ScB w g s k gl p) (m : Int) (hm : w.cell? ⟨2, 0, none⟩ = some (.int .i64 m)) :
    Calls Tryd.prog 55 #[.pointer (some ⟨g, 0, none⟩)] w fun e w' => NmQ g s k gl p (namedF (s.drop k)) w e w' := by
  obtain ⟨c0, c1, c2, c3, c4, c5, c6⟩ := hw.cells
  have hd : (S s).extract k s.length = S (s.drop k) := by rw [S_extract, List.take_of_length_le (by rw [List.length_drop]; exact Nat.le_refl _)]
  have hkI : (k : Int) ≤ (s.length : Int) := by omega
  have hql : (s.drop k).length = s.length - k := List.length_drop
  have HC := Lib.hid (show ∀ n : Nat, Calls Tryd.prog 70 #[.string (S (s.drop k)), .string ⟨#[58, 93]⟩] (w.drewN n) fun e w' => e = .returned (.tuple #[.string (S (Lib.cut (s.drop k) [58, 93]).1), .string (S (Lib.cut (s.drop k) [58, 93]).2.1), .bool (Lib.cut (s.drop k) [58, 93]).2.2]) ∧ ∃ m, w' = (w.drewN n).drewN m from fun n => Go.Proofs.Tryd.strings_Cut (S (s.drop k)) ⟨#[58, 93]⟩ m (w.drewN n) (by rw [S_size]; omega) hm)
  have HF := Lib.hid (cut_fits (s.drop k))
  have hnF : namedF (s.drop k) = if (Lib.cut (s.drop k) [58, 93]).2.2 = true ∧ (namedP (Lib.cut (s.drop k) [58, 93]).1).2 = true then some ((namedP (Lib.cut (s.drop k) [58, 93]).1).1, (Lib.cut (s.drop k) [58, 93]).1.length + 2) else none := rfl
  rw [hnF]
  clear hnF
  generalize s.drop k = q at *
  generalize hct : Lib.cut q [58, 93] = ct at *
  obtain ⟨nm, rest, ok⟩ := ct
  have HF := HF.out
  have HN := Lib.hid (fun W => named_any (S nm) W)
  cases ok with
  | false =>
    rw [if_neg (by rintro ⟨h, _⟩; cases h)]
    clear HF HN hct
    go_enter Tryd.func55, Tryd.ntmps55
    go_wp2_with fail
    go_quiet ((go_at_call 70; exact Calls.quiet_of (HC.out _)))
    go_wp2
    go_ret
    exact ⟨(Own1.refl g w).drewN, rfl⟩
  | true =>
    have hfit : nm.length + 2 ≤ q.length := HF rfl
    have hlt := hw.lt
    clear HF hct
    have HN2 := Lib.hid (show ∀ W : World, Calls Tryd.prog 71 #[.string (S nm)] W fun e w' => e = .returned (.tuple #[SetV (namedP nm).1, .bool (namedP nm).2]) ∧ Below W.heap.size W w' from fun W => by
      have := HN.out W
      rw [S_toList] at this
      exact this)
    clear HN
    generalize namedP nm = np at *
    obtain ⟨c, ok2⟩ := np
    have HO := Lib.hid (fun W => or_any p c W)
    generalize hr : (if true = true ∧ ok2 = true then some (c, nm.length + 2) else none) = r
    have HR := Lib.hid hr
    clear hr
    go_enter Tryd.func55, Tryd.ntmps55
    go_wp2_with fail
    go_quiet ((go_at_call 70; exact Calls.quiet_of (HC.out _)))
    go_wp2_with fail
    refine (HN2.out _).mono ?_
    rintro e w1 ⟨rfl, hb1⟩
    have hw1 := (hw.drewN (n := nq)).below hb1 hlt
    have ho1 : Own1 g w w1 := (Own1.refl g w).drewN.trans (Own1.of_below hb1)
    go_wp2_with fail
    have hA : SetAt (w1.alloc (.cells #[.int .u64 (wordP c 0), .int .u64 (wordP c 1), .int .u64 (wordP c 2), .int .u64 (wordP c 3)] 29)) w1.heap.size c := set_alloc w1 c _
    have hlt1 := hw1.lt
    have hw2 := hw1.below ((Below.refl w1.heap.size w1).alloc (Nat.le_refl _) (.cells #[.int .u64 (wordP c 0), .int .u64 (wordP c 1), .int .u64 (wordP c 2), .int .u64 (wordP c 3)] 29)) hlt1
    have ho2 := ho1.trans (Own1.of_below (b := g) ((Below.refl w1.heap.size w1).alloc (Nat.le_refl _) (.cells #[.int .u64 (wordP c 0), .int .u64 (wordP c 1), .int .u64 (wordP c 2), .int .u64 (wordP c 3)] 29)))
    generalize w1.alloc (.cells #[.int .u64 (wordP c 0), .int .u64 (wordP c 1), .int .u64 (wordP c 2), .int .u64 (wordP c 3)] 29) = w2 at *
    generalize w1.heap.size = ga at *
    obtain ⟨a0, a1, a2, a3⟩ := hA.four
    obtain ⟨d0, d1, d2, d3, d4, d5, d6⟩ := hw2.cells
    have hlt2 := hw2.lt
    clear c0 c1 c2 c3 c4 c5 c6 HC HN2 hb1 hw1 ho1 hw
    go_region_law (first | (go_simp; go_at_call 57; rw [← SetV_def, ← SetV_def]; refine (HO.out _).mono ?_; rintro e w3 ⟨rfl, hb3x⟩; have hb3 := ((Below.refl w2.heap.size w2).drew).trans hb3x; have hw3 := hw2.below hb3 hlt2; obtain ⟨e0, e1, e2, e3, e4, e5, e6⟩ := hw3.cells; have f3 := hw3.f 3; have f4 := hw3.f 4; have f5 := hw3.f 5; have f6 := hw3.f 6))
    all_goals (
      have hw4 := hw3.setP (orP p c)
      have ho4 := ((((ho2.trans (Own1.of_below hb3)).set (o := 3) (.int .u64 (wordP (orP p c) 0))).set (o := 4) (.int .u64 (wordP (orP p c) 1))).set (o := 5) (.int .u64 (wordP (orP p c) 2))).set (o := 6) (.int .u64 (wordP (orP p c) 3))
      generalize (((w3.setCell ⟨g, 3, none⟩ (.int .u64 (wordP (orP p c) 0))).setCell ⟨g, 4, none⟩ (.int .u64 (wordP (orP p c) 1))).setCell ⟨g, 5, none⟩ (.int .u64 (wordP (orP p c) 2))).setCell ⟨g, 6, none⟩ (.int .u64 (wordP (orP p c) 3)) = w4 at *
      clear a0 a1 a2 a3 d0 d1 d2 d3 d4 d5 d6 e0 e1 e2 e3 e4 e5 e6 f3 f4 f5 f6 hA hw2 ho2 hw3 hb3 hb3x HO
      obtain ⟨d0, d1, d2, -, -, -, -⟩ := hw4.cells
      have f1 := hw4.f 1
      go_wp2_with fail
      go_ret
      have hw5 := hw4.at' (k + (nm.length + 2))
      push_cast at hw5
      have hR := HR.out
      cases ok2 with
      | true =>
        rw [if_pos ⟨by trivial, rfl⟩] at hR
        subst hR
        exact ⟨ho4.set _, rfl, hw5, by omega, by omega⟩
      | false =>
        rw [if_neg (by rintro ⟨_, h⟩; cases h)] at hR
        subst hR
        exact ⟨ho4.set _, rfl⟩)
end Go.Proofs.YtphfcebacilbbaaDoor
