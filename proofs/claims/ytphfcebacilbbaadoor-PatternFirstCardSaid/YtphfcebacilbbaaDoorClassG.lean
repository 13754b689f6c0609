import Derived.Test.YtphfcebacilbbaaDoorClassD
import Derived.Deep.RegionWith
import Derived.Deep.RegionHeld3
namespace Go.Proofs.YtphfcebacilbbaaDoor
open Go.RowKit
attribute [local irreducible] wordP

theorem SetAt.below {w w' : World} {g B : Nat} {p : Nat → Bool} (h : SetAt w g p) (hb : Below B w w') (hg : g < B) : SetAt w' g p := fun j hj =>
  ⟨(hb.cell (p := ⟨g, j, none⟩) hg).trans (h j hj).1, (hb.frozen (p := ⟨g, j, none⟩) hg).trans (h j hj).2⟩
theorem ZeroAt.below {w w' : World} {g B : Nat} (h : ZeroAt w g) (hb : Below B w w') (hg : g < B) : ZeroAt w' g := fun j hj =>
  ⟨(hb.cell (p := ⟨g, j, none⟩) hg).trans (h j hj).1, (hb.frozen (p := ⟨g, j, none⟩) hg).trans (h j hj).2⟩
theorem ZeroAt.four {w : World} {g : Nat} (h : ZeroAt w g) : (w.cell? ⟨g, 0, none⟩ = some (.int .u64 0) ∧ w.frozen? ⟨g, 0, none⟩ = false) ∧ (w.cell? ⟨g, 1, none⟩ = some (.int .u64 0) ∧ w.frozen? ⟨g, 1, none⟩ = false) ∧ (w.cell? ⟨g, 2, none⟩ = some (.int .u64 0) ∧ w.frozen? ⟨g, 2, none⟩ = false) ∧ (w.cell? ⟨g, 3, none⟩ = some (.int .u64 0) ∧ w.frozen? ⟨g, 3, none⟩ = false) :=
  ⟨h 0 (by decide), h 1 (by decide), h 2 (by decide), h 3 (by decide)⟩
theorem SetAt.four {w : World} {g : Nat} {p : Nat → Bool} (h : SetAt w g p) : w.cell? ⟨g, 0, none⟩ = some (.int .u64 (wordP p 0)) ∧ w.cell? ⟨g, 1, none⟩ = some (.int .u64 (wordP p 1)) ∧ w.cell? ⟨g, 2, none⟩ = some (.int .u64 (wordP p 2)) ∧ w.cell? ⟨g, 3, none⟩ = some (.int .u64 (wordP p 3)) :=
  ⟨(h 0 (by decide)).1, (h 1 (by decide)).1, (h 2 (by decide)).1, (h 3 (by decide)).1⟩
theorem set_alloc (w : World) (p : Nat → Bool) (T : TypeId) : SetAt (w.alloc (.cells #[.int .u64 (wordP p 0), .int .u64 (wordP p 1), .int .u64 (wordP p 2), .int .u64 (wordP p 3)] T)) w.heap.size p := by
  intro j hj
  obtain rfl | rfl | rfl | rfl : j = 0 ∨ j = 1 ∨ j = 2 ∨ j = 3 := by omega
  all_goals exact ⟨by simp, by simp⟩
theorem SetAt.alloc {w : World} {g : Nat} {p : Nat → Bool} (h : SetAt w g p) (hg : g < w.heap.size) (o : Obj) : SetAt (w.alloc o) g p := h.below ((Below.refl _ _).alloc (Nat.le_refl _) o) hg
theorem ZeroAt.alloc {w : World} {g : Nat} (h : ZeroAt w g) (hg : g < w.heap.size) (o : Obj) : ZeroAt (w.alloc o) g := h.below ((Below.refl _ _).alloc (Nat.le_refl _) o) hg
theorem SetAt.drew {w : World} {g : Nat} {p : Nat → Bool} (h : SetAt w g p) : SetAt w.drew g p := h
theorem zero_alloc (w : World) (T : TypeId) : ZeroAt (w.alloc (.cells #[.int .u64 0, .int .u64 0, .int .u64 0, .int .u64 0] T)) w.heap.size := by
  intro j hj
  obtain rfl | rfl | rfl | rfl : j = 0 ∨ j = 1 ∨ j = 2 ∨ j = 3 := by omega
  all_goals exact ⟨by simp, by simp⟩
theorem ZeroAt.lt {w : World} {g : Nat} (h : ZeroAt w g) : g < w.heap.size := World.block_lt_of_cell? w ⟨g, 0, none⟩ (h 0 (by decide)).1
theorem set_store (w : World) (g : Nat) (p : Nat → Bool) (h : ZeroAt w g) : SetAt ((((w.setCell ⟨g, 0, none⟩ (.int .u64 (wordP p 0))).setCell ⟨g, 1, none⟩ (.int .u64 (wordP p 1))).setCell ⟨g, 2, none⟩ (.int .u64 (wordP p 2))).setCell ⟨g, 3, none⟩ (.int .u64 (wordP p 3))) g p := by
  obtain ⟨⟨d0, f0⟩, ⟨d1, f1⟩, ⟨d2, f2⟩, ⟨d3, f3⟩⟩ := h.four
  intro j hj
  obtain rfl | rfl | rfl | rfl : j = 0 ∨ j = 1 ∨ j = 2 ∨ j = 3 := by omega
  all_goals exact ⟨by simp [go_sem, d0, d1, d2, d3], by simp [f0, f1, f2, f3]⟩
abbrev upperP := rangeP 65 90
abbrev lowerP := rangeP 97 122
abbrev digitP := rangeP 48 57
def alnumP : Nat → Bool := orP (orP upperP lowerP) digitP

def namedP (l : List UInt8) : (Nat → Bool) × Bool :=
  if l = [97, 108, 112, 104, 97] then (orP upperP lowerP, true) else
  if l = [100, 105, 103, 105, 116] then (digitP, true) else
  if l = [97, 108, 110, 117, 109] then (alnumP, true) else
  if l = [117, 112, 112, 101, 114] then (upperP, true) else
  if l = [108, 111, 119, 101, 114] then (lowerP, true) else
  if l = [120, 100, 105, 103, 105, 116] then (orP (orP digitP (rangeP 65 70)) (rangeP 97 102), true) else
  if l = [98, 108, 97, 110, 107] then (ofP [32, 9], true) else
  if l = [115, 112, 97, 99, 101] then (orP (rangeP 9 13) (ofP [32]), true) else
  if l = [99, 110, 116, 114, 108] then (orP (rangeP 0 31) (ofP [127]), true) else
  if l = [103, 114, 97, 112, 104] then (rangeP 33 126, true) else
  if l = [112, 114, 105, 110, 116] then (rangeP 32 126, true) else
  if l = [112, 117, 110, 99, 116] then (andP (rangeP 33 126) (notP alnumP), true) else
  (noneP, false)
theorem named_alpha (l : List UInt8)  (h1 : l = [97, 108, 112, 104, 97]) : namedP l = (orP upperP lowerP, true) := by rw [namedP, if_pos h1]
theorem named_digit (l : List UInt8) (h1 : ¬ l = [97, 108, 112, 104, 97]) (h2 : l = [100, 105, 103, 105, 116]) : namedP l = (digitP, true) := by rw [namedP, if_neg h1, if_pos h2]
theorem named_alnum (l : List UInt8) (h1 : ¬ l = [97, 108, 112, 104, 97]) (h2 : ¬ l = [100, 105, 103, 105, 116]) (h3 : l = [97, 108, 110, 117, 109]) : namedP l = (alnumP, true) := by rw [namedP, if_neg h1, if_neg h2, if_pos h3]
theorem named_upper (l : List UInt8) (h1 : ¬ l = [97, 108, 112, 104, 97]) (h2 : ¬ l = [100, 105, 103, 105, 116]) (h3 : ¬ l = [97, 108, 110, 117, 109]) (h4 : l = [117, 112, 112, 101, 114]) : namedP l = (upperP, true) := by rw [namedP, if_neg h1, if_neg h2, if_neg h3, if_pos h4]
theorem named_lower (l : List UInt8) (h1 : ¬ l = [97, 108, 112, 104, 97]) (h2 : ¬ l = [100, 105, 103, 105, 116]) (h3 : ¬ l = [97, 108, 110, 117, 109]) (h4 : ¬ l = [117, 112, 112, 101, 114]) (h5 : l = [108, 111, 119, 101, 114]) : namedP l = (lowerP, true) := by rw [namedP, if_neg h1, if_neg h2, if_neg h3, if_neg h4, if_pos h5]
theorem named_xdigit (l : List UInt8) (h1 : ¬ l = [97, 108, 112, 104, 97]) (h2 : ¬ l = [100, 105, 103, 105, 116]) (h3 : ¬ l = [97, 108, 110, 117, 109]) (h4 : ¬ l = [117, 112, 112, 101, 114]) (h5 : ¬ l = [108, 111, 119, 101, 114]) (h6 : l = [120, 100, 105, 103, 105, 116]) : namedP l = (orP (orP digitP (rangeP 65 70)) (rangeP 97 102), true) := by rw [namedP, if_neg h1, if_neg h2, if_neg h3, if_neg h4, if_neg h5, if_pos h6]
theorem named_blank (l : List UInt8) (h1 : ¬ l = [97, 108, 112, 104, 97]) (h2 : ¬ l = [100, 105, 103, 105, 116]) (h3 : ¬ l = [97, 108, 110, 117, 109]) (h4 : ¬ l = [117, 112, 112, 101, 114]) (h5 : ¬ l = [108, 111, 119, 101, 114]) (h6 : ¬ l = [120, 100, 105, 103, 105, 116]) (h7 : l = [98, 108, 97, 110, 107]) : namedP l = (ofP [32, 9], true) := by rw [namedP, if_neg h1, if_neg h2, if_neg h3, if_neg h4, if_neg h5, if_neg h6, if_pos h7]
theorem named_space (l : List UInt8) (h1 : ¬ l = [97, 108, 112, 104, 97]) (h2 : ¬ l = [100, 105, 103, 105, 116]) (h3 : ¬ l = [97, 108, 110, 117, 109]) (h4 : ¬ l = [117, 112, 112, 101, 114]) (h5 : ¬ l = [108, 111, 119, 101, 114]) (h6 : ¬ l = [120, 100, 105, 103, 105, 116]) (h7 : ¬ l = [98, 108, 97, 110, 107]) (h8 : l = [115, 112, 97, 99, 101]) : namedP l = (orP (rangeP 9 13) (ofP [32]), true) := by rw [namedP, if_neg h1, if_neg h2, if_neg h3, if_neg h4, if_neg h5, if_neg h6, if_neg h7, if_pos h8]
theorem named_cntrl (l : List UInt8) (h1 : ¬ l = [97, 108, 112, 104, 97]) (h2 : ¬ l = [100, 105, 103, 105, 116]) (h3 : ¬ l = [97, 108, 110, 117, 109]) (h4 : ¬ l = [117, 112, 112, 101, 114]) (h5 : ¬ l = [108, 111, 119, 101, 114]) (h6 : ¬ l = [120, 100, 105, 103, 105, 116]) (h7 : ¬ l = [98, 108, 97, 110, 107]) (h8 : ¬ l = [115, 112, 97, 99, 101]) (h9 : l = [99, 110, 116, 114, 108]) : namedP l = (orP (rangeP 0 31) (ofP [127]), true) := by rw [namedP, if_neg h1, if_neg h2, if_neg h3, if_neg h4, if_neg h5, if_neg h6, if_neg h7, if_neg h8, if_pos h9]
theorem named_graph (l : List UInt8) (h1 : ¬ l = [97, 108, 112, 104, 97]) (h2 : ¬ l = [100, 105, 103, 105, 116]) (h3 : ¬ l = [97, 108, 110, 117, 109]) (h4 : ¬ l = [117, 112, 112, 101, 114]) (h5 : ¬ l = [108, 111, 119, 101, 114]) (h6 : ¬ l = [120, 100, 105, 103, 105, 116]) (h7 : ¬ l = [98, 108, 97, 110, 107]) (h8 : ¬ l = [115, 112, 97, 99, 101]) (h9 : ¬ l = [99, 110, 116, 114, 108]) (h10 : l = [103, 114, 97, 112, 104]) : namedP l = (rangeP 33 126, true) := by rw [namedP, if_neg h1, if_neg h2, if_neg h3, if_neg h4, if_neg h5, if_neg h6, if_neg h7, if_neg h8, if_neg h9, if_pos h10]
theorem named_print (l : List UInt8) (h1 : ¬ l = [97, 108, 112, 104, 97]) (h2 : ¬ l = [100, 105, 103, 105, 116]) (h3 : ¬ l = [97, 108, 110, 117, 109]) (h4 : ¬ l = [117, 112, 112, 101, 114]) (h5 : ¬ l = [108, 111, 119, 101, 114]) (h6 : ¬ l = [120, 100, 105, 103, 105, 116]) (h7 : ¬ l = [98, 108, 97, 110, 107]) (h8 : ¬ l = [115, 112, 97, 99, 101]) (h9 : ¬ l = [99, 110, 116, 114, 108]) (h10 : ¬ l = [103, 114, 97, 112, 104]) (h11 : l = [112, 114, 105, 110, 116]) : namedP l = (rangeP 32 126, true) := by rw [namedP, if_neg h1, if_neg h2, if_neg h3, if_neg h4, if_neg h5, if_neg h6, if_neg h7, if_neg h8, if_neg h9, if_neg h10, if_pos h11]
theorem named_punct (l : List UInt8) (h1 : ¬ l = [97, 108, 112, 104, 97]) (h2 : ¬ l = [100, 105, 103, 105, 116]) (h3 : ¬ l = [97, 108, 110, 117, 109]) (h4 : ¬ l = [117, 112, 112, 101, 114]) (h5 : ¬ l = [108, 111, 119, 101, 114]) (h6 : ¬ l = [120, 100, 105, 103, 105, 116]) (h7 : ¬ l = [98, 108, 97, 110, 107]) (h8 : ¬ l = [115, 112, 97, 99, 101]) (h9 : ¬ l = [99, 110, 116, 114, 108]) (h10 : ¬ l = [103, 114, 97, 112, 104]) (h11 : ¬ l = [112, 114, 105, 110, 116]) (h12 : l = [112, 117, 110, 99, 116]) : namedP l = (andP (rangeP 33 126) (notP alnumP), true) := by rw [namedP, if_neg h1, if_neg h2, if_neg h3, if_neg h4, if_neg h5, if_neg h6, if_neg h7, if_neg h8, if_neg h9, if_neg h10, if_neg h11, if_pos h12]
theorem named_none (l : List UInt8) (h1 : ¬ l = [97, 108, 112, 104, 97]) (h2 : ¬ l = [100, 105, 103, 105, 116]) (h3 : ¬ l = [97, 108, 110, 117, 109]) (h4 : ¬ l = [117, 112, 112, 101, 114]) (h5 : ¬ l = [108, 111, 119, 101, 114]) (h6 : ¬ l = [120, 100, 105, 103, 105, 116]) (h7 : ¬ l = [98, 108, 97, 110, 107]) (h8 : ¬ l = [115, 112, 97, 99, 101]) (h9 : ¬ l = [99, 110, 116, 114, 108]) (h10 : ¬ l = [103, 114, 97, 112, 104]) (h11 : ¬ l = [112, 114, 105, 110, 116]) (h12 : ¬ l = [112, 117, 110, 99, 116]) : namedP l = (noneP, false) := by rw [namedP, if_neg h1, if_neg h2, if_neg h3, if_neg h4, if_neg h5, if_neg h6, if_neg h7, if_neg h8, if_neg h9, if_neg h10, if_neg h11, if_neg h12]

set_option maxRecDepth 100000 in
set_option maxHeartbeats 4000000 in
theorem named_any (s : ByteArray) (w : World) :
    Calls Tryd.prog 71 #[.string s] w fun e w' => e = .returned (.tuple #[SetV (namedP s.toList).1, .bool (namedP s.toList).2]) ∧ Below w.heap.size w w' := by
  go_enter Tryd.func71, Tryd.ntmps71
  go_upto_region 1 with fail
  go_cut [4, 5, 6] (fun s4 s5 s6 wx => ∃ g : Nat, s4 = .pointer (some ⟨g, 0, none⟩) ∧ s5 = .pointer (some ⟨g + 1, 0, none⟩) ∧ s6 = .pointer (some ⟨g + 2, 0, none⟩) ∧ SetAt wx g upperP ∧ SetAt wx (g + 1) lowerP ∧ SetAt wx (g + 2) digitP ∧
    ZeroAt wx w.heap.size ∧ Below w.heap.size w wx ∧ w.heap.size < g ∧ g + 2 < wx.heap.size)
  case first =>
    go_wp2_with fail
    refine (range_any 65 90 _ (by decide) (by decide) (by decide) (by decide)).mono ?_
    rintro e w1 ⟨rfl, hb1⟩
    have z1 := hb1.size
    simp only [World.size_alloc] at z1
    have Hz1 := (zero_alloc w 29).below hb1 (by simp)
    go_wp2_with fail
    refine (range_any 97 122 _ (by decide) (by decide) (by decide) (by decide)).mono ?_
    rintro e w2 ⟨rfl, hb2⟩
    have z2 := hb2.size
    go_wp2_with fail
    refine (range_any 48 57 _ (by decide) (by decide) (by decide) (by decide)).mono ?_
    rintro e w3 ⟨rfl, hb3⟩
    have z3 := hb3.size
    go_wp2_with fail
    go_meet
    refine ⟨w3.heap.size, rfl, rfl, rfl, ?_, ?_, ?_, ?_, ?_, by omega, by simp⟩
    · exact ((set_alloc w3 _ _).alloc (by simp) _).alloc (by simp; omega) _
    · have := (set_alloc (w3.alloc (.cells #[.int .u64 (wordP upperP 0), .int .u64 (wordP upperP 1), .int .u64 (wordP upperP 2), .int .u64 (wordP upperP 3)] 29)) lowerP 29).alloc (by simp) (.cells #[.int .u64 (wordP digitP 0), .int .u64 (wordP digitP 1), .int .u64 (wordP digitP 2), .int .u64 (wordP digitP 3)] 29)
      simpa using this
    · have := set_alloc ((w3.alloc (.cells #[.int .u64 (wordP upperP 0), .int .u64 (wordP upperP 1), .int .u64 (wordP upperP 2), .int .u64 (wordP upperP 3)] 29)).alloc (.cells #[.int .u64 (wordP lowerP 0), .int .u64 (wordP lowerP 1), .int .u64 (wordP lowerP 2), .int .u64 (wordP lowerP 3)] 29)) digitP 29
      simpa using this
    · have := (((Hz1.below hb2 (by omega)).below hb3 (by omega)).alloc (by omega) (.cells #[.int .u64 (wordP upperP 0), .int .u64 (wordP upperP 1), .int .u64 (wordP upperP 2), .int .u64 (wordP upperP 3)] 29))
      exact (this.alloc (by simp; omega) _).alloc (by simp; omega) _
    · refine ((Below.refl _ _).alloc (Nat.le_refl _) _).trans ((hb1.mono (by simp)).trans ((hb2.mono (by omega)).trans ((hb3.mono (by omega)).trans ?_)))
      exact (((Below.refl _ _).alloc (by omega) _).alloc (by simp; omega) _).alloc (by simp; omega) _
  case rest =>
    obtain ⟨g, rfl, rfl, rfl, hU, hL, hD, hZ, hB, hg1, hg2⟩ := hcut
    go_upto_region 2 with fail
    go_cut [7] (fun s7 wx => ∃ g7 : Nat, s7 = .pointer (some ⟨g7, 0, none⟩) ∧ SetAt wx g7 alnumP ∧ Below wc.heap.size wc wx ∧ wc.heap.size ≤ g7 ∧ g7 < wx.heap.size)
    case first =>
      have hx0 : Below wc.heap.size wc wc := Below.refl _ _
      obtain ⟨a0, a1, a2, a3⟩ := hU.four
      obtain ⟨b0, b1, b2, b3⟩ := hL.four
      obtain ⟨d0, d1, d2, d3⟩ := hD.four
      have y0 : g < wc.heap.size := by omega
      have r3 : wc.heap.size ≠ g := by omega
      have r4 : wc.heap.size ≠ g + 1 := by omega
      have r5 : wc.heap.size ≠ g + 2 := by omega
      have y1 : g + 1 < wc.heap.size := by omega
      go_region_held3 (fun w' => w'.cell? ⟨g, 0, none⟩ = some (.int .u64 (wordP upperP 0)) ∧ w'.cell? ⟨g, 1, none⟩ = some (.int .u64 (wordP upperP 1)) ∧ w'.cell? ⟨g, 2, none⟩ = some (.int .u64 (wordP upperP 2)) ∧ w'.cell? ⟨g, 3, none⟩ = some (.int .u64 (wordP upperP 3)) ∧ w'.cell? ⟨g + 1, 0, none⟩ = some (.int .u64 (wordP lowerP 0)) ∧ w'.cell? ⟨g + 1, 1, none⟩ = some (.int .u64 (wordP lowerP 1)) ∧ w'.cell? ⟨g + 1, 2, none⟩ = some (.int .u64 (wordP lowerP 2)) ∧ w'.cell? ⟨g + 1, 3, none⟩ = some (.int .u64 (wordP lowerP 3)) ∧ w'.cell? ⟨g + 2, 0, none⟩ = some (.int .u64 (wordP digitP 0)) ∧ w'.cell? ⟨g + 2, 1, none⟩ = some (.int .u64 (wordP digitP 1)) ∧ w'.cell? ⟨g + 2, 2, none⟩ = some (.int .u64 (wordP digitP 2)) ∧ w'.cell? ⟨g + 2, 3, none⟩ = some (.int .u64 (wordP digitP 3))) (go_keep) (first
        | (go_at_call 57; rw [← SetV_def, ← SetV_def]; (with_reducible refine (or_any upperP lowerP _).mono ?_); rintro e w1 ⟨rfl, hb1⟩; have zx0 := hx0.size; have hx1 : Below wc.heap.size wc w1 := hx0.trans ((show Below wc.heap.size _ _ by go_grown).trans (hb1.mono (by first | omega | (simp; done) | (simp; omega)))); obtain ⟨e10, e11, e12, e13⟩ := (hD.below hx1 (by omega)).four; obtain ⟨l10, l11, l12, l13⟩ := (hL.below hx1 (by omega)).four; obtain ⟨u10, u11, u12, u13⟩ := (hU.below hx1 (by omega)).four; have q1 : g + 2 < w1.heap.size := (by have := hx1.size; omega); have r0 : w1.heap.size ≠ g := (by omega); have r1 : w1.heap.size ≠ g + 1 := (by omega); have r2 : w1.heap.size ≠ g + 2 := (by omega); first | (have hn1 := ZeroAt.below (w := (wc.alloc (.cells #[.int .u64 0, .int .u64 0, .int .u64 0, .int .u64 0] 29)).drew) (zero_alloc wc 29) hb1 (by simp); have q10 : wc.heap.size < w1.heap.size := (by have := hb1.size; simp at this; omega); obtain ⟨⟨n10, m10⟩, ⟨n11, m11⟩, ⟨n12, m12⟩, ⟨n13, m13⟩⟩ := hn1.four) | skip)
        | (go_at_call 57; rw [← SetV_def, ← SetV_def]; (with_reducible refine (or_any (orP upperP lowerP) digitP _).mono ?_); rintro e w2 ⟨rfl, hb2⟩; have zx1 := hx1.size; have hx2 : Below wc.heap.size wc w2 := hx1.trans ((show Below wc.heap.size _ _ by go_grown).trans (hb2.mono (by first | omega | (simp; done) | (simp; omega)))); obtain ⟨e20, e21, e22, e23⟩ := (hD.below hx2 (by omega)).four; obtain ⟨l20, l21, l22, l23⟩ := (hL.below hx2 (by omega)).four; obtain ⟨u20, u21, u22, u23⟩ := (hU.below hx2 (by omega)).four; have q2 : g + 2 < w2.heap.size := (by have := hx2.size; omega); first | (have hn2 := ZeroAt.below (zero_alloc w1 29) hb2 (by simp); obtain ⟨⟨n20, m20⟩, ⟨n21, m21⟩, ⟨n22, m22⟩, ⟨n23, m23⟩⟩ := hn2.four) | (have hn2 := hn1.below hb2 q10; obtain ⟨⟨n20, m20⟩, ⟨n21, m21⟩, ⟨n22, m22⟩, ⟨n23, m23⟩⟩ := hn2.four) | skip)
        | (show Oper.upon _ _ _ _ _ _; go_must (exact True.intro)))
      all_goals (go_wp2_with fail; go_meet; have zx2 := hx2.size; have zx1 := hx1.size)
      · exact ⟨w2.heap.size, rfl, set_alloc w2 _ _, hx2.trans ((Below.refl _ _).alloc zx2 _), zx2, by simp⟩
      · exact ⟨w1.heap.size, rfl, set_store w2 _ _ hn2, hx2.trans (by go_grown), hx1.size, by have := hn2.lt; simpa using this⟩
      · exact ⟨wc.heap.size, rfl, set_store w2 _ _ hn2, hx2.trans (by go_grown), Nat.le_refl _, by have := hn2.lt; simpa using this⟩
    case rest =>
      obtain ⟨g7, rfl, h7, hB2, hg3, hg4⟩ := hcut
      obtain ⟨wd, hwd⟩ : ∃ wd, wd = wc := ⟨_, rfl⟩
      rw [← hwd] at h7 hB2 hg4 ⊢
      clear hwd
      have hU2 := hU.below hB2 (by omega)
      have hL2 := hL.below hB2 (by omega)
      have hD2 := hD.below hB2 (by omega)
      have hZ2 := hZ.below hB2 (by omega)
      have hB3 := hB.trans (hB2.mono (by omega))
      have hsz2 := hB2.size
      clear hU hL hD hZ hB2
      by_cases n1 : s.toList = [97, 108, 112, 104, 97]
      · have Hp := Lib.hid (named_alpha _ n1)
        obtain ⟨U0, U1, U2, U3⟩ := hU2.four
        obtain ⟨L0, L1, L2, L3⟩ := hL2.four
        have hz0 := hZ2
        have hx0 : Below w.heap.size w wd := hB3
        have zz0 : w.heap.size < wd.heap.size := by omega
        clear hU2 hL2 hD2 h7 hZ2
        go_wp2_with fail
        rw [← SetV_def, ← SetV_def]
        refine (or_any _ _ _).mono ?_
        rintro e w1 ⟨rfl, hb1⟩
        have hz1 := hz0.below hb1 (by omega)
        have hx1 := hx0.trans (hb1.mono (by omega))
        have zz1 : w.heap.size < w1.heap.size := by have := hb1.size; omega
        obtain ⟨⟨d0, f0⟩, ⟨d1, f1⟩, ⟨d2, f2⟩, ⟨d3, f3⟩⟩ := hz1.four
        go_wp2_with fail
        refine bodyPost_ret (v := .tuple #[SetV (orP upperP lowerP), .bool true]) (by simp [results, Tryd.results71, go_sem, d0, d1, d2, d3]) rfl ⟨by rw [Hp.out], ?_⟩
        repeat (refine Below.setCell ?_ (by simp) _)
        exact hx1
      by_cases n2 : s.toList = [100, 105, 103, 105, 116]
      · have Hp := Lib.hid (named_digit _ n1 n2)
        obtain ⟨D0, D1, D2, D3⟩ := hD2.four
        have hz0 := hZ2
        have hx0 : Below w.heap.size w wd := hB3
        have zz0 : w.heap.size < wd.heap.size := by omega
        clear hU2 hL2 hD2 h7 hZ2
        obtain ⟨⟨d0, f0⟩, ⟨d1, f1⟩, ⟨d2, f2⟩, ⟨d3, f3⟩⟩ := hz0.four
        go_wp2_with fail
        refine bodyPost_ret (v := .tuple #[SetV (digitP), .bool true]) (by simp [results, Tryd.results71, go_sem, d0, d1, d2, d3]) rfl ⟨by rw [Hp.out], ?_⟩
        repeat (refine Below.setCell ?_ (by simp) _)
        exact hx0
      by_cases n3 : s.toList = [97, 108, 110, 117, 109]
      · have Hp := Lib.hid (named_alnum _ n1 n2 n3)
        obtain ⟨A0, A1, A2, A3⟩ := h7.four
        have hz0 := hZ2
        have hx0 : Below w.heap.size w wd := hB3
        have zz0 : w.heap.size < wd.heap.size := by omega
        clear hU2 hL2 hD2 h7 hZ2
        obtain ⟨⟨d0, f0⟩, ⟨d1, f1⟩, ⟨d2, f2⟩, ⟨d3, f3⟩⟩ := hz0.four
        go_wp2_with fail
        refine bodyPost_ret (v := .tuple #[SetV (alnumP), .bool true]) (by simp [results, Tryd.results71, go_sem, d0, d1, d2, d3]) rfl ⟨by rw [Hp.out], ?_⟩
        repeat (refine Below.setCell ?_ (by simp) _)
        exact hx0
      by_cases n4 : s.toList = [117, 112, 112, 101, 114]
      · have Hp := Lib.hid (named_upper _ n1 n2 n3 n4)
        obtain ⟨U0, U1, U2, U3⟩ := hU2.four
        have hz0 := hZ2
        have hx0 : Below w.heap.size w wd := hB3
        have zz0 : w.heap.size < wd.heap.size := by omega
        clear hU2 hL2 hD2 h7 hZ2
        obtain ⟨⟨d0, f0⟩, ⟨d1, f1⟩, ⟨d2, f2⟩, ⟨d3, f3⟩⟩ := hz0.four
        go_wp2_with fail
        refine bodyPost_ret (v := .tuple #[SetV (upperP), .bool true]) (by simp [results, Tryd.results71, go_sem, d0, d1, d2, d3]) rfl ⟨by rw [Hp.out], ?_⟩
        repeat (refine Below.setCell ?_ (by simp) _)
        exact hx0
      by_cases n5 : s.toList = [108, 111, 119, 101, 114]
      · have Hp := Lib.hid (named_lower _ n1 n2 n3 n4 n5)
        obtain ⟨L0, L1, L2, L3⟩ := hL2.four
        have hz0 := hZ2
        have hx0 : Below w.heap.size w wd := hB3
        have zz0 : w.heap.size < wd.heap.size := by omega
        clear hU2 hL2 hD2 h7 hZ2
        obtain ⟨⟨d0, f0⟩, ⟨d1, f1⟩, ⟨d2, f2⟩, ⟨d3, f3⟩⟩ := hz0.four
        go_wp2_with fail
        refine bodyPost_ret (v := .tuple #[SetV (lowerP), .bool true]) (by simp [results, Tryd.results71, go_sem, d0, d1, d2, d3]) rfl ⟨by rw [Hp.out], ?_⟩
        repeat (refine Below.setCell ?_ (by simp) _)
        exact hx0
      by_cases n6 : s.toList = [120, 100, 105, 103, 105, 116]
      · have Hp := Lib.hid (named_xdigit _ n1 n2 n3 n4 n5 n6)
        obtain ⟨D0, D1, D2, D3⟩ := hD2.four
        have zz0 : w.heap.size < wd.heap.size := by omega
        have hKK := hD2
        have ne1 : w.heap.size ≠ g + 2 := by omega
        have ne2 : g + 2 ≠ w.heap.size := by omega
        have hx0 : Below wd.heap.size wd wd := Below.refl _ _
        clear hU2 hL2 hD2 h7
        go_wp2_with fail
        go_region_held3 (fun w' => w'.cell? ⟨g + 2, 0, none⟩ = some (.int .u64 (wordP digitP 0)) ∧ w'.cell? ⟨g + 2, 1, none⟩ = some (.int .u64 (wordP digitP 1)) ∧ w'.cell? ⟨g + 2, 2, none⟩ = some (.int .u64 (wordP digitP 2)) ∧ w'.cell? ⟨g + 2, 3, none⟩ = some (.int .u64 (wordP digitP 3))) (go_keep) (first
          | (go_at_call_of 58 (Value.int IntKind.u8 65); refine (range_any 65 70 _ (by decide) (by decide) (by decide) (by decide)).mono ?_; rintro e w1 ⟨rfl, hb1⟩; have hx1 : Below wd.heap.size wd w1 := hx0.trans ((show Below wd.heap.size _ _ by go_grown).trans (hb1.mono (by have := hx0.size; first | omega | (simp; done) | (simp; omega)))); obtain ⟨e10, e11, e12, e13⟩ := (hKK.below hx1 (by omega)).four; obtain ⟨⟨d10, f10⟩, ⟨d11, f11⟩, ⟨d12, f12⟩, ⟨d13, f13⟩⟩ := (hZ2.below hx1 zz0).four)
          | (go_at_call 57; rw [← SetV_def, ← SetV_def]; (with_reducible refine (or_any digitP (rangeP 65 70) _).mono ?_); rintro e w2 ⟨rfl, hb2⟩; have hx2 : Below wd.heap.size wd w2 := hx1.trans ((show Below wd.heap.size _ _ by go_grown).trans (hb2.mono (by have := hx1.size; first | omega | (simp; done) | (simp; omega)))); obtain ⟨e20, e21, e22, e23⟩ := (hKK.below hx2 (by omega)).four; obtain ⟨⟨d20, f20⟩, ⟨d21, f21⟩, ⟨d22, f22⟩, ⟨d23, f23⟩⟩ := (hZ2.below hx2 zz0).four)
          | (go_at_call_of 58 (Value.int IntKind.u8 97); refine (range_any 97 102 _ (by decide) (by decide) (by decide) (by decide)).mono ?_; rintro e w3 ⟨rfl, hb3⟩; have hx3 : Below wd.heap.size wd w3 := hx2.trans ((show Below wd.heap.size _ _ by go_grown).trans (hb3.mono (by have := hx2.size; first | omega | (simp; done) | (simp; omega)))); obtain ⟨e30, e31, e32, e33⟩ := (hKK.below hx3 (by omega)).four; obtain ⟨⟨d30, f30⟩, ⟨d31, f31⟩, ⟨d32, f32⟩, ⟨d33, f33⟩⟩ := (hZ2.below hx3 zz0).four)
          | (go_at_call 57; rw [← SetV_def, ← SetV_def]; (with_reducible refine (or_any (orP digitP (rangeP 65 70)) (rangeP 97 102) _).mono ?_); rintro e w4 ⟨rfl, hb4⟩; have hx4 : Below wd.heap.size wd w4 := hx3.trans ((show Below wd.heap.size _ _ by go_grown).trans (hb4.mono (by have := hx3.size; first | omega | (simp; done) | (simp; omega)))); obtain ⟨e40, e41, e42, e43⟩ := (hKK.below hx4 (by omega)).four; obtain ⟨⟨d40, f40⟩, ⟨d41, f41⟩, ⟨d42, f42⟩, ⟨d43, f43⟩⟩ := (hZ2.below hx4 zz0).four))
        go_wp2_with fail
        refine bodyPost_ret (v := .tuple #[SetV (orP (orP digitP (rangeP 65 70)) (rangeP 97 102)), .bool true]) (by simp [results, Tryd.results71, go_sem, d40, d41, d42, d43]) rfl ⟨by rw [Hp.out], ?_⟩
        repeat (refine Below.setCell ?_ (by simp) _)
        exact hB3.trans (hx4.mono (by omega))
      by_cases n7 : s.toList = [98, 108, 97, 110, 107]
      · have Hp := Lib.hid (named_blank _ n1 n2 n3 n4 n5 n6 n7)
        have hz0 := hZ2
        have hx0 : Below w.heap.size w wd := hB3
        have zz0 : w.heap.size < wd.heap.size := by omega
        clear hU2 hL2 hD2 h7 hZ2
        go_wp2_with fail
        refine (of_any _ _ (by decide)).mono ?_
        rintro e w1 ⟨rfl, hb1⟩
        have hz1 := hz0.below hb1 (by omega)
        have hx1 := hx0.trans (hb1.mono (by omega))
        have zz1 : w.heap.size < w1.heap.size := by have := hb1.size; omega
        obtain ⟨⟨d0, f0⟩, ⟨d1, f1⟩, ⟨d2, f2⟩, ⟨d3, f3⟩⟩ := hz1.four
        go_wp2_with fail
        refine bodyPost_ret (v := .tuple #[SetV (ofP [32, 9]), .bool true]) (by simp [results, Tryd.results71, go_sem, d0, d1, d2, d3]) rfl ⟨by rw [Hp.out], ?_⟩
        repeat (refine Below.setCell ?_ (by simp) _)
        exact hx1
      by_cases n8 : s.toList = [115, 112, 97, 99, 101]
      · have Hp := Lib.hid (named_space _ n1 n2 n3 n4 n5 n6 n7 n8)
        have hz0 := hZ2
        have hx0 : Below w.heap.size w wd := hB3
        have zz0 : w.heap.size < wd.heap.size := by omega
        clear hU2 hL2 hD2 h7 hZ2
        go_wp2_with fail
        refine (range_any 9 13 _ (by decide) (by decide) (by decide) (by decide)).mono ?_
        rintro e w1 ⟨rfl, hb1⟩
        have hz1 := hz0.below hb1 (by omega)
        have hx1 := hx0.trans (hb1.mono (by omega))
        have zz1 : w.heap.size < w1.heap.size := by have := hb1.size; omega
        go_wp2_with fail
        refine (of_any _ _ (by decide)).mono ?_
        rintro e w2 ⟨rfl, hb2⟩
        have hz2 := hz1.below hb2 (by omega)
        have hx2 := hx1.trans (hb2.mono (by omega))
        have zz2 : w.heap.size < w2.heap.size := by have := hb2.size; omega
        go_wp2_with fail
        rw [← SetV_def, ← SetV_def]
        refine (or_any _ _ _).mono ?_
        rintro e w3 ⟨rfl, hb3⟩
        have hz3 := hz2.below hb3 (by omega)
        have hx3 := hx2.trans (hb3.mono (by omega))
        have zz3 : w.heap.size < w3.heap.size := by have := hb3.size; omega
        obtain ⟨⟨d0, f0⟩, ⟨d1, f1⟩, ⟨d2, f2⟩, ⟨d3, f3⟩⟩ := hz3.four
        go_wp2_with fail
        refine bodyPost_ret (v := .tuple #[SetV (orP (rangeP 9 13) (ofP [32])), .bool true]) (by simp [results, Tryd.results71, go_sem, d0, d1, d2, d3]) rfl ⟨by rw [Hp.out], ?_⟩
        repeat (refine Below.setCell ?_ (by simp) _)
        exact hx3
      by_cases n9 : s.toList = [99, 110, 116, 114, 108]
      · have Hp := Lib.hid (named_cntrl _ n1 n2 n3 n4 n5 n6 n7 n8 n9)
        have hz0 := hZ2
        have hx0 : Below w.heap.size w wd := hB3
        have zz0 : w.heap.size < wd.heap.size := by omega
        clear hU2 hL2 hD2 h7 hZ2
        go_wp2_with fail
        refine (range_any 0 31 _ (by decide) (by decide) (by decide) (by decide)).mono ?_
        rintro e w1 ⟨rfl, hb1⟩
        have hz1 := hz0.below hb1 (by omega)
        have hx1 := hx0.trans (hb1.mono (by omega))
        have zz1 : w.heap.size < w1.heap.size := by have := hb1.size; omega
        go_wp2_with fail
        refine (of_any _ _ (by decide)).mono ?_
        rintro e w2 ⟨rfl, hb2⟩
        have hz2 := hz1.below hb2 (by omega)
        have hx2 := hx1.trans (hb2.mono (by omega))
        have zz2 : w.heap.size < w2.heap.size := by have := hb2.size; omega
        go_wp2_with fail
        rw [← SetV_def, ← SetV_def]
        refine (or_any _ _ _).mono ?_
        rintro e w3 ⟨rfl, hb3⟩
        have hz3 := hz2.below hb3 (by omega)
        have hx3 := hx2.trans (hb3.mono (by omega))
        have zz3 : w.heap.size < w3.heap.size := by have := hb3.size; omega
        obtain ⟨⟨d0, f0⟩, ⟨d1, f1⟩, ⟨d2, f2⟩, ⟨d3, f3⟩⟩ := hz3.four
        go_wp2_with fail
        refine bodyPost_ret (v := .tuple #[SetV (orP (rangeP 0 31) (ofP [127])), .bool true]) (by simp [results, Tryd.results71, go_sem, d0, d1, d2, d3]) rfl ⟨by rw [Hp.out], ?_⟩
        repeat (refine Below.setCell ?_ (by simp) _)
        exact hx3
      by_cases n10 : s.toList = [103, 114, 97, 112, 104]
      · have Hp := Lib.hid (named_graph _ n1 n2 n3 n4 n5 n6 n7 n8 n9 n10)
        have hz0 := hZ2
        have hx0 : Below w.heap.size w wd := hB3
        have zz0 : w.heap.size < wd.heap.size := by omega
        clear hU2 hL2 hD2 h7 hZ2
        go_wp2_with fail
        refine (range_any 33 126 _ (by decide) (by decide) (by decide) (by decide)).mono ?_
        rintro e w1 ⟨rfl, hb1⟩
        have hz1 := hz0.below hb1 (by omega)
        have hx1 := hx0.trans (hb1.mono (by omega))
        have zz1 : w.heap.size < w1.heap.size := by have := hb1.size; omega
        obtain ⟨⟨d0, f0⟩, ⟨d1, f1⟩, ⟨d2, f2⟩, ⟨d3, f3⟩⟩ := hz1.four
        go_wp2_with fail
        refine bodyPost_ret (v := .tuple #[SetV (rangeP 33 126), .bool true]) (by simp [results, Tryd.results71, go_sem, d0, d1, d2, d3]) rfl ⟨by rw [Hp.out], ?_⟩
        repeat (refine Below.setCell ?_ (by simp) _)
        exact hx1
      by_cases n11 : s.toList = [112, 114, 105, 110, 116]
      · have Hp := Lib.hid (named_print _ n1 n2 n3 n4 n5 n6 n7 n8 n9 n10 n11)
        have hz0 := hZ2
        have hx0 : Below w.heap.size w wd := hB3
        have zz0 : w.heap.size < wd.heap.size := by omega
        clear hU2 hL2 hD2 h7 hZ2
        go_wp2_with fail
        refine (range_any 32 126 _ (by decide) (by decide) (by decide) (by decide)).mono ?_
        rintro e w1 ⟨rfl, hb1⟩
        have hz1 := hz0.below hb1 (by omega)
        have hx1 := hx0.trans (hb1.mono (by omega))
        have zz1 : w.heap.size < w1.heap.size := by have := hb1.size; omega
        obtain ⟨⟨d0, f0⟩, ⟨d1, f1⟩, ⟨d2, f2⟩, ⟨d3, f3⟩⟩ := hz1.four
        go_wp2_with fail
        refine bodyPost_ret (v := .tuple #[SetV (rangeP 32 126), .bool true]) (by simp [results, Tryd.results71, go_sem, d0, d1, d2, d3]) rfl ⟨by rw [Hp.out], ?_⟩
        repeat (refine Below.setCell ?_ (by simp) _)
        exact hx1
      by_cases n12 : s.toList = [112, 117, 110, 99, 116]
      · have Hp := Lib.hid (named_punct _ n1 n2 n3 n4 n5 n6 n7 n8 n9 n10 n11 n12)
        obtain ⟨A0, A1, A2, A3⟩ := h7.four
        have zz0 : w.heap.size < wd.heap.size := by omega
        have hKK := h7
        have ne1 : w.heap.size ≠ g7 := by omega
        have ne2 : g7 ≠ w.heap.size := by omega
        have hx0 : Below wd.heap.size wd wd := Below.refl _ _
        clear hU2 hL2 hD2 h7
        go_wp2_with fail
        go_region_held3 (fun w' => w'.cell? ⟨g7, 0, none⟩ = some (.int .u64 (wordP alnumP 0)) ∧ w'.cell? ⟨g7, 1, none⟩ = some (.int .u64 (wordP alnumP 1)) ∧ w'.cell? ⟨g7, 2, none⟩ = some (.int .u64 (wordP alnumP 2)) ∧ w'.cell? ⟨g7, 3, none⟩ = some (.int .u64 (wordP alnumP 3))) (go_keep) (first
          | (go_at_call_of 58 (Value.int IntKind.u8 33); refine (range_any 33 126 _ (by decide) (by decide) (by decide) (by decide)).mono ?_; rintro e w1 ⟨rfl, hb1⟩; have hx1 : Below wd.heap.size wd w1 := hx0.trans ((show Below wd.heap.size _ _ by go_grown).trans (hb1.mono (by have := hx0.size; first | omega | (simp; done) | (simp; omega)))); obtain ⟨e10, e11, e12, e13⟩ := (hKK.below hx1 (by omega)).four; obtain ⟨⟨d10, f10⟩, ⟨d11, f11⟩, ⟨d12, f12⟩, ⟨d13, f13⟩⟩ := (hZ2.below hx1 zz0).four)
          | (go_at_call 38; rw [← SetV_def]; (with_reducible refine (not_any alnumP _).mono ?_); rintro e w2 ⟨rfl, hb2⟩; have hx2 : Below wd.heap.size wd w2 := hx1.trans ((show Below wd.heap.size _ _ by go_grown).trans (hb2.mono (by have := hx1.size; first | omega | (simp; done) | (simp; omega)))); obtain ⟨e20, e21, e22, e23⟩ := (hKK.below hx2 (by omega)).four; obtain ⟨⟨d20, f20⟩, ⟨d21, f21⟩, ⟨d22, f22⟩, ⟨d23, f23⟩⟩ := (hZ2.below hx2 zz0).four)
          | (go_at_call 80; rw [← SetV_def, ← SetV_def]; (with_reducible refine (and_any (rangeP 33 126) (notP alnumP) _).mono ?_); rintro e w3 ⟨rfl, hb3⟩; have hx3 : Below wd.heap.size wd w3 := hx2.trans ((show Below wd.heap.size _ _ by go_grown).trans (hb3.mono (by have := hx2.size; first | omega | (simp; done) | (simp; omega)))); obtain ⟨e30, e31, e32, e33⟩ := (hKK.below hx3 (by omega)).four; obtain ⟨⟨d30, f30⟩, ⟨d31, f31⟩, ⟨d32, f32⟩, ⟨d33, f33⟩⟩ := (hZ2.below hx3 zz0).four))
        go_wp2_with fail
        refine bodyPost_ret (v := .tuple #[SetV (andP (rangeP 33 126) (notP alnumP)), .bool true]) (by simp [results, Tryd.results71, go_sem, d30, d31, d32, d33]) rfl ⟨by rw [Hp.out], ?_⟩
        repeat (refine Below.setCell ?_ (by simp) _)
        exact hB3.trans (hx3.mono (by omega))
      have Hp := Lib.hid (named_none _ n1 n2 n3 n4 n5 n6 n7 n8 n9 n10 n11 n12)
      have wn (j : Nat) : wordP noneP j = 0 := word_none j
      have hx0 := hB3
      obtain ⟨⟨d0, f0⟩, ⟨d1, f1⟩, ⟨d2, f2⟩, ⟨d3, f3⟩⟩ := hZ2.four
      clear hU2 hL2 hD2 h7 hZ2
      have b1 : (s.toList == [97, 108, 112, 104, 97]) = false := by simpa using n1
      have b2 : (s.toList == [100, 105, 103, 105, 116]) = false := by simpa using n2
      have b3 : (s.toList == [97, 108, 110, 117, 109]) = false := by simpa using n3
      have b4 : (s.toList == [117, 112, 112, 101, 114]) = false := by simpa using n4
      have b5 : (s.toList == [108, 111, 119, 101, 114]) = false := by simpa using n5
      have b6 : (s.toList == [120, 100, 105, 103, 105, 116]) = false := by simpa using n6
      have b7 : (s.toList == [98, 108, 97, 110, 107]) = false := by simpa using n7
      have b8 : (s.toList == [115, 112, 97, 99, 101]) = false := by simpa using n8
      have b9 : (s.toList == [99, 110, 116, 114, 108]) = false := by simpa using n9
      have b10 : (s.toList == [103, 114, 97, 112, 104]) = false := by simpa using n10
      have b11 : (s.toList == [112, 114, 105, 110, 116]) = false := by simpa using n11
      have b12 : (s.toList == [112, 117, 110, 99, 116]) = false := by simpa using n12
      clear n1 n2 n3 n4 n5 n6 n7 n8 n9 n10 n11 n12
      go_wp2_with fail
      refine bodyPost_ret (v := .tuple #[SetV noneP, .bool false]) (by simp [results, Tryd.results71, go_sem, d0, d1, d2, d3, wn]) rfl ⟨by rw [Hp.out], ?_⟩
      repeat (refine Below.setCell ?_ (by simp) _)
      exact hx0
end Go.Proofs.YtphfcebacilbbaaDoor
