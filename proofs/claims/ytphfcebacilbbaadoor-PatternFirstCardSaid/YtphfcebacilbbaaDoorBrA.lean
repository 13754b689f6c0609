/- A bracket's scan: where it stands, and what next, closed and byte do to it. -/
import Derived.Test.YtphfcebacilbbaaDoorClassB
import Derived.Test.YtphfcebacilbbaaDoorShelf
import Derived.Deep.QuietTactic
import Derived.BigQuiet
namespace Go.Proofs.YtphfcebacilbbaaDoor
open Go.RowKit

/-- only one block was written -/
def Own1 (b : Nat) (w w' : World) : Prop := w.grownBy w' (some b)
theorem Own1.refl (b : Nat) (w : World) : Own1 b w w := ⟨rfl, rfl, rfl, Nat.le_refl _, fun _ _ _ => rfl⟩
theorem Own1.trans {b : Nat} {w u v : World} (h : Own1 b w u) (k : Own1 b u v) : Own1 b w v :=
  ⟨k.os.trans h.os, k.tape.trans h.tape, k.output.trans h.output, Nat.le_trans h.size k.size, fun i hi hn => (k.block i (Nat.lt_of_lt_of_le hi h.size) hn).trans (h.block i hi hn)⟩
theorem Own1.drew {b : Nat} {w u : World} (h : Own1 b w u) : Own1 b w u.drew := ⟨h.os, h.tape, h.output, h.size, h.block⟩
theorem Own1.drewN {b n : Nat} {w u : World} (h : Own1 b w u) : Own1 b w (u.drewN n) := ⟨h.os, h.tape, h.output, h.size, h.block⟩
theorem Own1.set {b o : Nat} {w u : World} (h : Own1 b w u) (v : Value) : Own1 b w (u.setCell ⟨b, o, none⟩ v) :=
  h.trans ⟨rfl, rfl, rfl, by simp [World.setCell], fun i hi hn => by
    show (u.heap.modify b _)[i]? = _
    rw [Array.getElem?_modify, if_neg (fun e => hn (by rw [e]))]⟩
theorem Own1.below {b B : Nat} {a w w' : World} (h : Own1 b w w') (hb : Below B a w) (hB : B ≤ b) (hw : b < w.heap.size) : Below B a w' :=
  hb.trans ⟨h.os, h.tape, h.output, h.size, fun i hi => h.block i (by omega) (fun e => by injection e; omega)⟩

/-- the number of some digits -/
theorem Own1.of_below {b : Nat} {w w' : World} (h : Below w.heap.size w w') : Own1 b w w' := ⟨h.os, h.tape, h.output, h.size, fun k hk _ => h.block k hk⟩
/-- a scan at a block: the text, the place, a glob's or not, the set -/
def ScB (w : World) (g : Nat) (s : List UInt8) (k : Nat) (gl : Bool) (p : Nat → Bool) : Prop :=
  w.heap[g]? = some (.cells #[.string (S s), .int .i64 k, .bool gl, .int .u64 (wordP p 0), .int .u64 (wordP p 1), .int .u64 (wordP p 2), .int .u64 (wordP p 3)] 97 (0, 0))
section
variable {w : World} {g : Nat} {s : List UInt8} {k : Nat} {gl : Bool} {p : Nat → Bool}
theorem ScB.cells (h : ScB w g s k gl p) : w.cell? ⟨g, 0, none⟩ = some (.string (S s)) ∧ w.cell? ⟨g, 1, none⟩ = some (.int .i64 k) ∧ w.cell? ⟨g, 2, none⟩ = some (.bool gl) ∧ w.cell? ⟨g, 3, none⟩ = some (.int .u64 (wordP p 0)) ∧ w.cell? ⟨g, 4, none⟩ = some (.int .u64 (wordP p 1)) ∧ w.cell? ⟨g, 5, none⟩ = some (.int .u64 (wordP p 2)) ∧ w.cell? ⟨g, 6, none⟩ = some (.int .u64 (wordP p 3)) := by
  unfold ScB at h; simp [World.cell?, h]
theorem ScB.f (h : ScB w g s k gl p) (o : Nat) : w.frozen? ⟨g, o, none⟩ = false := by
  unfold ScB at h; simp [World.frozen?, h]
theorem ScB.lt (h : ScB w g s k gl p) : g < w.heap.size := (Array.getElem?_eq_some_iff.1 h).1
theorem ScB.drewN {n : Nat} (h : ScB w g s k gl p) : ScB (w.drewN n) g s k gl p := h
theorem ScB.below {w' : World} {B : Nat} (h : ScB w g s k gl p) (hb : Below B w w') (hB : g < B) : ScB w' g s k gl p := by
  unfold ScB; rw [hb.block g hB]; exact h
theorem ScB.at' (h : ScB w g s k gl p) (k' : Nat) : ScB (w.setCell ⟨g, 1, none⟩ (.int .i64 k')) g s k' gl p := by
  unfold ScB at *
  unfold World.setCell
  show (w.heap.modify g _)[g]? = _
  rw [Array.getElem?_modify, if_pos rfl, h]
  rfl
end
abbrev preB (q sign : List UInt8) : Bool := Lib.hasPrefix q sign
theorem preB_len (q sign : List UInt8) (h : preB q sign = true) : sign.length ≤ q.length := by
  unfold preB Lib.hasPrefix at h
  exact (List.isPrefixOf_iff_prefix.1 h).length_le
set_option maxRecDepth 100000 in
set_option maxHeartbeats 1000000 in
theorem next_any (g : Nat) (s sign : List UInt8) (k : Nat) (gl : Bool) (p : Nat → Bool) (hk : k ≤ s.length) (hs : s.length ≤ 1000000) (w : World) (hw : ScB w g s k gl p) :
    Calls Tryd.prog 36 #[.pointer (some ⟨g, 0, none⟩), .string (S sign)] w fun e w' => e = .returned (.bool (preB (s.drop k) sign)) ∧ ScB w' g s (if preB (s.drop k) sign = true then k + sign.length else k) gl p ∧ Own1 g w w' := by
  obtain ⟨c0, c1, c2, -, -, -, -⟩ := hw.cells
  have f1 := hw.f 1
  have hd : (S s).extract k s.length = S (s.drop k) := by rw [S_extract, List.take_of_length_le (by rw [List.length_drop]; exact Nat.le_refl _)]
  have HP := Lib.hid (show ∀ W : World, Calls Tryd.prog 54 #[.string (S (s.drop k)), .string (S sign)] W fun e w' => e = .returned (.bool (preB (s.drop k) sign)) ∧ ∃ m, w' = W.drewN m from fun W => by
    refine (Go.Proofs.Tryd.strings_HasPrefix _ _ W).mono ?_
    rintro e w' ⟨rfl, rfl⟩
    exact ⟨rfl, 0, rfl⟩)
  have HL := Lib.hid (preB_len (s.drop k) sign)
  have hql : (s.drop k).length = s.length - k := List.length_drop
  generalize s.drop k = q at *
  have hkI : (k : Int) ≤ (s.length : Int) := by omega
  cases hp : preB q sign
  · rw [hp] at HP
    clear HL hp
    go_enter Tryd.func36, Tryd.ntmps36
    go_wp2_with fail
    go_quiet ((go_at_call 54; exact Calls.quiet_of (HP.out _)))
    go_wp2
    go_ret
    exact ⟨rfl, hw, (Own1.refl g w).drewN⟩
  · have hl := HL.out hp
    rw [hp] at HP
    clear HL hp
    go_enter Tryd.func36, Tryd.ntmps36
    go_wp2_with fail
    go_quiet ((go_at_call 54; exact Calls.quiet_of (HP.out _)))
    go_wp2
    go_ret
    exact ⟨rfl, by have := (hw.drewN (n := nq)).at' (k + sign.length); push_cast at this; exact this, (Own1.refl g w).drewN.set _⟩
/-- one byte, and its closing signs -/
def closedF (q sign : List UInt8) : Option UInt8 := if 3 ≤ q.length ∧ (q.drop 1).take 2 = sign then q.head? else none
set_option maxRecDepth 100000 in
set_option maxHeartbeats 1000000 in
theorem closed_no (g : Nat) (s sign : List UInt8) (k : Nat) (gl : Bool) (p : Nat → Bool) (hk : k ≤ s.length) (hs : s.length ≤ 1000000) (hn : closedF (s.drop k) sign = none) (w : World) (hw : ScB w g s k gl p) :
    Calls Tryd.prog 56 #[.pointer (some ⟨g, 0, none⟩), .string (S sign)] w fun e w' => e = .returned (.tuple #[.int .u8 0, .bool false]) ∧ ScB w' g s k gl p ∧ Own1 g w w' := by
  obtain ⟨c0, c1, c2, -, -, -, -⟩ := hw.cells
  have hql : (s.drop k).length = s.length - k := List.length_drop
  by_cases hl : s.length < k + 3
  · have hlI : (s.length : Int) < (k : Int) + 3 := by omega
    have hd : decide ((s.length : Int) < (k : Int) + 3) = true := decide_eq_true hlI
    clear hn
    go_enter Tryd.func56, Tryd.ntmps56
    go_wp2_with fail
    go_quiet (fail)
    go_wp2
    go_ret2
    exact ⟨rfl, hw, (Own1.refl g w).drewN⟩
  · have he : (S s).extract (k + 1) (k + 3) = S (((s.drop k).drop 1).take 2) := by
      rw [S_extract, List.drop_drop, show k + 3 - (k + 1) = 2 by omega]
    have hne : (((s.drop k).drop 1).take 2 == sign) = false := by
      rw [beq_eq_false_iff_ne]
      intro e
      unfold closedF at hn
      rw [if_pos ⟨by omega, e⟩] at hn
      have : s.drop k = [] := List.head?_eq_none_iff.1 hn
      rw [this] at hql
      simp at hql
      omega
    have hd : decide ((s.length : Int) < (k : Int) + 3) = false := decide_eq_false (by omega)
    have z1 : (0 : Int) ≤ (k : Int) + 1 := by omega
    have z2 : (k : Int) + 1 ≤ (k : Int) + 3 := by omega
    have z3 : (k : Int) + 3 ≤ (s.length : Int) := by omega
    clear hn hql
    generalize ((s.drop k).drop 1).take 2 = mid at *
    go_enter Tryd.func56, Tryd.ntmps56
    go_wp2_with fail
    go_quiet (fail)
    go_wp2
    go_ret2
    exact ⟨rfl, hw, (Own1.refl g w).drewN⟩
set_option maxRecDepth 100000 in
set_option maxHeartbeats 1000000 in
theorem closed_yes (g : Nat) (s sign : List UInt8) (k : Nat) (gl : Bool) (p : Nat → Bool) (hk : k ≤ s.length) (hs : s.length ≤ 1000000) (b : UInt8) (hn : closedF (s.drop k) sign = some b) (w : World) (hw : ScB w g s k gl p) :
    Calls Tryd.prog 56 #[.pointer (some ⟨g, 0, none⟩), .string (S sign)] w fun e w' => e = .returned (.tuple #[.int .u8 b.toNat, .bool true]) ∧ ScB w' g s (k + 3) gl p ∧ Own1 g w w' ∧ k + 3 ≤ s.length := by
  obtain ⟨c0, c1, c2, -, -, -, -⟩ := hw.cells
  have f1 := hw.f 1
  have hql : (s.drop k).length = s.length - k := List.length_drop
  unfold closedF at hn
  by_cases hc : 3 ≤ (s.drop k).length ∧ ((s.drop k).drop 1).take 2 = sign
  · rw [if_pos hc] at hn
    obtain ⟨h3, hm⟩ := hc
    have hl : k + 3 ≤ s.length := by omega
    have hkl : k < s.length := by omega
    have hb : (S s)[k]'(by rw [S_size]; exact hkl) = b := by
      rw [List.head?_eq_getElem?, List.getElem?_drop, Nat.add_zero, List.getElem?_eq_getElem hkl] at hn
      exact Option.some.inj hn
    have he : (S s).extract (k + 1) (k + 3) = S sign := by
      rw [← hm, S_extract, List.drop_drop, show k + 3 - (k + 1) = 2 by omega]
    have hself : (sign == sign) = true := by simp
    have hd : decide ((s.length : Int) < (k : Int) + 3) = false := decide_eq_false (by omega)
    have z1 : (0 : Int) ≤ (k : Int) + 1 := by omega
    have z2 : (k : Int) + 1 ≤ (k : Int) + 3 := by omega
    have z3 : (k : Int) + 3 ≤ (s.length : Int) := by omega
    have z4 : (k : Int) < (s.length : Int) := by omega
    have HB := Lib.hid hb
    clear hn hql h3 hm hb
    go_enter Tryd.func56, Tryd.ntmps56
    go_wp2_with fail
    go_quiet (fail)
    go_wp2_with fail
    go_quiet (fail)
    go_wp2
    go_ret2
    exact ⟨by rw [← HB.out]; rfl, by have := (hw.drewN (n := nq)).at' (k + 3); push_cast at this; exact this, (Own1.refl g w).drewN.set _, hl⟩
  · rw [if_neg hc] at hn; cases hn
end Go.Proofs.YtphfcebacilbbaaDoor
