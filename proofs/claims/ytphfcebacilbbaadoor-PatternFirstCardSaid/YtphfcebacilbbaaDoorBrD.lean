/- A bracket's scan: one item. -/
import Derived.Test.YtphfcebacilbbaaDoorBrC
namespace Go.Proofs.YtphfcebacilbbaaDoor
open Go.RowKit
attribute [local irreducible] wordP

/-- one item: the bytes that it adds, and how long it is -/
def itemF (gl : Bool) (q : List UInt8) : Option ((Nat → Bool) × Nat) :=
  if preB q [91, 58] = true then (namedF (q.drop 2)).map fun r => (r.1, r.2 + 2)
  else if preB q [91, 61] = true then (closedF (q.drop 2) [61, 93]).map fun b => (rangeP b.toNat b.toNat, 5)
  else match byteF gl q with
  | none => none
  | some (a, n) =>
    if (preB (q.drop n) [45] && !preB (q.drop n) [45, 93]) = true then
      if (preB (q.drop (n + 1)) [91, 58] || preB (q.drop (n + 1)) [91, 61]) = true then none
      else match byteF gl (q.drop (n + 1)) with
      | none => none
      | some (b, m) => if b < a then none else some (rangeP a.toNat b.toNat, n + 1 + m)
    else some (rangeP a.toNat a.toNat, n)
theorem range8_any (a b : UInt8) (w : World) :
    Calls Tryd.prog 58 #[.int .u8 a.toNat, .int .u8 b.toNat] w fun e w' => e = .returned (SetV (rangeP a.toNat b.toNat)) ∧ Below w.heap.size w w' :=
  range_any a.toNat b.toNat w (by omega) (by have := a.toNat_lt; omega) (by omega) (by have := b.toNat_lt; omega)
set_option maxRecDepth 100000 in
set_option maxHeartbeats 1000000 in
theorem item_named (g : Nat) (s : List UInt8) (k : Nat) (gl : Bool) (p : Nat → Bool) (hk : k ≤ s.length) (hs : s.length ≤ 1000000) (w : World) (hw : ScB w g s k gl p) (m : Int) (hm : w.cell? ⟨2, 0, none⟩ = some (.int .i64 m)) (hg : 2 ≠ g) (h1 : preB (s.drop k) [91, 58] = true) :
    Calls Tryd.prog 37 #[.pointer (some ⟨g, 0, none⟩)] w fun e w' => NmQ g s k gl p ((namedF ((s.drop k).drop 2)).map fun r => (r.1, r.2 + 2)) w e w' := by
  have h2 := pre_len s [91, 58] k hk h1
  have N1 := Lib.hid (fun W hW => next_yes g s [91, 58] k gl p hk hs h1 W hW)
  rw [List.drop_drop]
  have N2 := Lib.hid (fun W hW hM => scnamed_any g s (k + 2) gl p h2 hs W hW m hM)
  generalize namedF (s.drop (k + 2)) = r at *
  go_enter Tryd.func37, Tryd.ntmps37
  go_wp2_with fail
  refine (N1.out _ hw).mono ?_
  rintro e w1 ⟨rfl, hw1, ho1⟩
  go_wp2_with fail
  refine (N2.out _ hw1 (ho1.cell hm hg)).mono ?_
  rintro e w2 ⟨ho2, hr⟩
  cases r with
  | none =>
    obtain rfl := hr
    go_wp2_with fail
    go_ret
    exact ⟨ho1.trans ho2, rfl⟩
  | some r =>
    obtain ⟨c, n⟩ := r
    obtain ⟨rfl, hw2, hle, hn⟩ := hr
    go_wp2_with fail
    go_ret
    exact ⟨ho1.trans ho2, rfl, by rw [show k + (n + 2) = k + 2 + n by omega]; exact hw2, by show k + (n + 2) ≤ _; omega, by show 1 ≤ n + 2; omega⟩
set_option maxRecDepth 100000 in
set_option maxHeartbeats 1000000 in
theorem item_eq (g : Nat) (s : List UInt8) (k : Nat) (gl : Bool) (p : Nat → Bool) (hk : k ≤ s.length) (hs : s.length ≤ 1000000) (w : World) (hw : ScB w g s k gl p) (h1 : preB (s.drop k) [91, 58] = false) (h2 : preB (s.drop k) [91, 61] = true) :
    Calls Tryd.prog 37 #[.pointer (some ⟨g, 0, none⟩)] w fun e w' => NmQ g s k gl p ((closedF ((s.drop k).drop 2) [61, 93]).map fun b => (rangeP b.toNat b.toNat, 5)) w e w' := by
  have h3 := pre_len s [91, 61] k hk h2
  have N1 := Lib.hid (fun W hW => next_no g s [91, 58] k gl p hk hs h1 W hW)
  have N2 := Lib.hid (fun W hW => next_yes g s [91, 61] k gl p hk hs h2 W hW)
  rw [List.drop_drop]
  have HC : ∃ (b : UInt8) (ok : Bool) (k' : Nat), Hid (∀ W, ScB W g s (k + 2) gl p → Calls Tryd.prog 56 #[.pointer (some ⟨g, 0, none⟩), .string (S [61, 93])] W fun e w' => e = .returned (.tuple #[.int .u8 b.toNat, .bool ok]) ∧ ScB w' g s k' gl p ∧ Own1 g W w') ∧ Hid ((closedF (s.drop (k + 2)) [61, 93]).map (fun b => (rangeP b.toNat b.toNat, 5)) = if ok then some (rangeP b.toNat b.toNat, 5) else none) ∧ Hid (ok = true → k' = k + 5 ∧ k + 5 ≤ s.length) := by
    cases hc : closedF (s.drop (k + 2)) [61, 93] with
    | none => exact ⟨0, false, k + 2, Lib.hid (fun W hW => closed_no g s [61, 93] (k + 2) gl p h3 hs hc W hW), Lib.hid rfl, Lib.hid (fun h => by cases h)⟩
    | some b => 
      refine ⟨b, true, k + 5, Lib.hid (fun W hW => (closed_yes g s [61, 93] (k + 2) gl p h3 hs b hc W hW).mono ?_), Lib.hid rfl, Lib.hid (fun _ => ⟨rfl, ?_⟩)⟩
      · rintro e w' ⟨h1, h2, h3, _⟩
        exact ⟨h1, h2, h3⟩
      · unfold closedF at hc
        by_cases hl : 3 ≤ (s.drop (k + 2)).length ∧ ((s.drop (k + 2)).drop 1).take 2 = [61, 93]
        · have := hl.1
          rw [List.length_drop] at this
          omega
        · rw [if_neg hl] at hc; cases hc
  obtain ⟨b, ok, k', HC, HR, HK⟩ := HC
  generalize (closedF (s.drop (k + 2)) [61, 93]).map (fun b => (rangeP b.toNat b.toNat, 5)) = r at *
  have HRg := Lib.hid (fun W => range8_any b b W)
  have HO := Lib.hid (fun W => or_any p (rangeP b.toNat b.toNat) W)
  clear h1 h2
  go_enter Tryd.func37, Tryd.ntmps37
  go_wp2_with fail
  refine (N1.out _ hw).mono ?_
  rintro e w1 ⟨rfl, hw1, ho1⟩
  go_wp2_with fail
  refine (N2.out _ hw1).mono ?_
  rintro e w2 ⟨rfl, hw2, ho2⟩
  go_wp2_with fail
  refine (HC.out _ hw2).mono ?_
  rintro e wc ⟨rfl, hwc, hoc⟩
  have ho3 := (ho1.trans ho2).trans hoc
  clear hw hw1 hw2 ho1 ho2 hoc N1 N2 HC
  obtain ⟨d0, d1, d2, d3, d4, d5, d6⟩ := hwc.cells
  have hlt := hwc.lt
  go_wp2_with fail
  generalize hP : rangeP b.toNat b.toNat = P at *
  clear hP
  go_region_law (first | (go_simp; go_at_call 58; refine (HRg.out _).mono ?_; rintro e wr ⟨rfl, hbrx⟩; have hbr := ((Below.refl wc.heap.size wc).drew).trans hbrx; have hwr := hwc.below hbr hlt; obtain ⟨r0, r1, r2, r3, r4, r5, r6⟩ := hwr.cells; have hlr := hwr.lt) | (go_simp; go_at_call 57; rw [← SetV_def, ← SetV_def]; refine (HO.out _).mono ?_; rintro e w3 ⟨rfl, hb3x⟩; have hw3 := hwr.below hb3x hlr; obtain ⟨e0, e1, e2, e3, e4, e5, e6⟩ := hw3.cells; have f3 := hw3.f 3; have f4 := hw3.f 4; have f5 := hw3.f 5; have f6 := hw3.f 6))
  all_goals (
    have hw4 := hw3.setP (orP p P)
    have ho4 := (((((ho3.trans (Own1.of_below hbr)).trans (Own1.of_below hb3x)).set (o := 3) (.int .u64 (wordP (orP p P) 0))).set (o := 4) (.int .u64 (wordP (orP p P) 1))).set (o := 5) (.int .u64 (wordP (orP p P) 2))).set (o := 6) (.int .u64 (wordP (orP p P) 3))
    generalize (((w3.setCell ⟨g, 3, none⟩ (.int .u64 (wordP (orP p P) 0))).setCell ⟨g, 4, none⟩ (.int .u64 (wordP (orP p P) 1))).setCell ⟨g, 5, none⟩ (.int .u64 (wordP (orP p P) 2))).setCell ⟨g, 6, none⟩ (.int .u64 (wordP (orP p P) 3)) = w4 at *
    clear d0 d1 d2 d3 d4 d5 d6 e0 e1 e2 e3 e4 e5 e6 r0 r1 r2 r3 r4 r5 r6 f3 f4 f5 f6 hwc hwr hw3 hbr hb3x hbrx HO HRg
    go_wp2_with fail
    go_ret
    have hR := HR.out
    have hK := HK.out
    cases ok with
    | true =>
      obtain ⟨rfl, hle⟩ := hK rfl
      rw [if_pos rfl] at hR
      subst hR
      exact ⟨ho4, rfl, hw4, hle, by show 1 ≤ 5; omega⟩
    | false =>
      rw [if_neg (by simp)] at hR
      subst hR
      exact ⟨ho4, rfl⟩)
end Go.Proofs.YtphfcebacilbbaaDoor
