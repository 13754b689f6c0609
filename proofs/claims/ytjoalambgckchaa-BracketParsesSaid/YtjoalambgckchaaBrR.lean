/- The law BracketParses, walked. -/
import Derived.Test.YtjoalambgckchaaBrQ
import Derived.Test.YtjoalambgckchaaBrO
import Derived.Deep.RegionHeld3
namespace Go.Proofs.Ytjoalambgckchaa
open Go.RowKit
attribute [local irreducible] wordP

set_option maxRecDepth 100000 in
set_option maxHeartbeats 1000000 in
theorem parses_awake (s : ByteArray) (x : Int) (gl : Bool) (m : Int) (w : World) (hm : w.cell? ⟨0, 0, none⟩ = some (.int .i64 m)) (h : 200 < s.size) :
    Calls Try.prog 3 #[.string s, .int .i64 x, .bool gl] w fun e w' => e = .returned (.bool true) ∧ Below w.heap.size w w' := by
  have HW := Lib.hid (awake14 m w hm)
  go_enter Try.func3, Try.ntmps3
  go_wp2_with fail
  refine (HW.out).mono ?_
  rintro e w1 ⟨rfl, hb1⟩
  go_wp2_with fail
  go_ret
  exact ⟨rfl, hb1⟩
theorem none_cells {w : World} {g : Nat} (h : SetAt w g noneP) : w.cell? ⟨g, 0, none⟩ = some (.int .u64 0) ∧ w.cell? ⟨g, 1, none⟩ = some (.int .u64 0) ∧ w.cell? ⟨g, 2, none⟩ = some (.int .u64 0) ∧ w.cell? ⟨g, 3, none⟩ = some (.int .u64 0) := by
  obtain ⟨b0, b1, b2, b3⟩ := h.four
  rw [show (wordP noneP 0 : Nat) = 0 from word_none 0] at b0
  rw [show (wordP noneP 1 : Nat) = 0 from word_none 1] at b1
  rw [show (wordP noneP 2 : Nat) = 0 from word_none 2] at b2
  rw [show (wordP noneP 3 : Nat) = 0 from word_none 3] at b3
  exact ⟨b0, b1, b2, b3⟩
set_option maxRecDepth 100000 in
set_option maxHeartbeats 2000000 in
theorem parses_not (l : List UInt8) (x : Int) (gl : Bool) (m : Int) (w : World) (hm : w.cell? ⟨0, 0, none⟩ = some (.int .i64 m)) (hl : l.length ≤ 200)
    (h : x < 0 ∨ (0 ≤ x ∧ (l.length : Int) ≤ x) ∨ ∃ k : Nat, ∃ c, x = k ∧ l[k]? = some c ∧ c ≠ 91) :
    Calls Try.prog 3 #[.string (S l), .int .i64 x, .bool gl] w fun e w' => e = .returned (.bool true) ∧ Below w.heap.size w w' := by
  have hgW : 0 < w.heap.size := World.block_lt_of_cell? w ⟨0, 0, none⟩ hm
  have HA := Lib.hid (fun W hW => awake14 m W hW)
  have HP := Lib.hid (Parse_not l x gl w (by
    rcases h with h | h | h
    · exact Or.inl h
    · exact Or.inr (Or.inl h.2)
    · exact Or.inr (Or.inr h)))
  have HN : ∀ W, SetAt (World.alloc W (setObj noneP)) W.heap.size noneP := fun W => set_alloc W noneP _
  have HN := Lib.hid HN
  have h : x < 0 ∨ (¬ x < 0 ∧ (l.length : Int) ≤ x) ∨ ∃ k : Nat, x = k ∧ ∃ hk : k < (S l).size, ((((S l)[k]'hk).toNat : Int) == 91) = false ∧ ((((S l)[k]'hk).toNat : Int) != 91) = true ∧ ¬ ((S l)[k]'hk).toNat = 91 := by
    rcases h with h | ⟨h1, h2⟩ | ⟨k, c, h1, h2, h3⟩
    · exact Or.inl h
    · exact Or.inr (Or.inl ⟨by omega, h2⟩)
    · right; right
      obtain ⟨hk, hc⟩ := List.getElem?_eq_some_iff.1 h2
      have hk2 : k < (S l).size := by rw [S_size]; exact hk
      have hb : (S l)[k]'hk2 = c := hc
      refine ⟨k, h1, hk2, ?_, ?_, ?_⟩
      · rw [hb]; exact byte_beq' c 91 91 rfl h3
      · rw [hb]; exact byte_bne c 91 91 rfl h3
      · rw [hb]; intro e; exact h3 (UInt8.toNat_inj.1 (by rw [e]; rfl))
  rcases h with h | ⟨h0, h⟩ | ⟨k, rfl, hk, h1, h2, h3⟩
  · go_enter Try.func3, Try.ntmps3
    go_wp2_with fail
    refine (HP.out).mono ?_
    rintro e w1 ⟨rfl, hb1⟩
    go_upto_region 5 with fail
    have hx1 : Below w.heap.size w (w1.alloc (setObj noneP)) := hb1.alloc hb1.size _
    obtain ⟨a0, a1, a2, a3⟩ := none_cells (HN.out w1)
    generalize w1.alloc (setObj noneP) = v1 at *
    go_wp2_with fail
    refine (HA.out _ ((hx1.cell (p := ⟨0, 0, none⟩) hgW).trans hm)).mono ?_
    rintro e w4 ⟨rfl, hb4⟩
    go_wp2_with fail
    go_ret
    exact ⟨rfl, hx1.trans (hb4.mono hx1.size)⟩
  · go_enter Try.func3, Try.ntmps3
    go_wp2_with fail
    refine (HP.out).mono ?_
    rintro e w1 ⟨rfl, hb1⟩
    go_upto_region 5 with fail
    have hx1 : Below w.heap.size w (w1.alloc (setObj noneP)) := hb1.alloc hb1.size _
    obtain ⟨a0, a1, a2, a3⟩ := none_cells (HN.out w1)
    generalize w1.alloc (setObj noneP) = v1 at *
    go_wp2_with fail
    refine (HA.out _ ((hx1.cell (p := ⟨0, 0, none⟩) hgW).trans hm)).mono ?_
    rintro e w4 ⟨rfl, hb4⟩
    go_wp2_with fail
    go_ret
    exact ⟨rfl, hx1.trans (hb4.mono hx1.size)⟩
  · have hkl : k < l.length := by rw [S_size] at hk; exact hk
    have hi1 : (k : Int) < (l.length : Int) := by omega
    have hi2 : ¬ (l.length : Int) ≤ (k : Int) := by omega
    go_enter Try.func3, Try.ntmps3
    go_wp2_with fail
    refine (HP.out).mono ?_
    rintro e w1 ⟨rfl, hb1⟩
    go_upto_region 5 with fail
    have hx1 : Below w.heap.size w (w1.alloc (setObj noneP)) := hb1.alloc hb1.size _
    obtain ⟨a0, a1, a2, a3⟩ := none_cells (HN.out w1)
    generalize w1.alloc (setObj noneP) = v1 at *
    go_wp2_with fail
    refine (HA.out _ ((hx1.cell (p := ⟨0, 0, none⟩) hgW).trans hm)).mono ?_
    rintro e w4 ⟨rfl, hb4⟩
    go_wp2_with fail
    go_ret
    exact ⟨rfl, hx1.trans (hb4.mono hx1.size)⟩
theorem parses_keep (w : World) (A B : Nat) (p : Nat → Bool) (n : Int) {v : World} (hA : A < v.heap.size) (h1 : SetAt v A p) (b0 : v.cell? ⟨B, 0, none⟩ = some (.string (S (bytesP p)))) (b1 : v.cell? ⟨B, 1, none⟩ = some (.int .i64 n)) (b2 : v.cell? ⟨B, 2, none⟩ = some (.bool true)) (hx : Below w.heap.size w v) (hB : B < v.heap.size) :
    ∀ W, Below v.heap.size v W → W.cell? ⟨A, 0, none⟩ = some (.int .u64 (wordP p 0)) ∧ W.cell? ⟨A, 1, none⟩ = some (.int .u64 (wordP p 1)) ∧ W.cell? ⟨A, 2, none⟩ = some (.int .u64 (wordP p 2)) ∧ W.cell? ⟨A, 3, none⟩ = some (.int .u64 (wordP p 3)) ∧ W.cell? ⟨B, 0, none⟩ = some (.string (S (bytesP p))) ∧ W.cell? ⟨B, 1, none⟩ = some (.int .i64 n) ∧ W.cell? ⟨B, 2, none⟩ = some (.bool true) ∧ Below w.heap.size w W ∧ B < W.heap.size := by
  intro W hb
  obtain ⟨a0, a1, a2, a3⟩ := (h1.below hb hA).four
  exact ⟨a0, a1, a2, a3, (hb.cell (p := ⟨B, 0, none⟩) hB).trans b0, (hb.cell (p := ⟨B, 1, none⟩) hB).trans b1, (hb.cell (p := ⟨B, 2, none⟩) hB).trans b2, hx.trans (hb.mono hx.size), Nat.lt_of_lt_of_le hB hb.size⟩
set_option maxRecDepth 100000 in
set_option maxHeartbeats 2000000 in
theorem parses_is (l : List UInt8) (k : Nat) (gl : Bool) (m : Int) (w : World) (hm : w.cell? ⟨0, 0, none⟩ = some (.int .i64 m)) (hl : l.length ≤ 200) (h : l[k]? = some 91) :
    Calls Try.prog 3 #[.string (S l), .int .i64 k, .bool gl] w fun e w' => e = .returned (.bool true) ∧ Below w.heap.size w w' := by
  have hgW : 0 < w.heap.size := World.block_lt_of_cell? w ⟨0, 0, none⟩ hm
  have HA := Lib.hid (fun W hW => awake14 m W hW)
  obtain ⟨hk, hc⟩ := List.getElem?_eq_some_iff.1 h
  have hk2 : k < (S l).size := by rw [S_size]; exact hk
  have hb : ((S l)[k]'hk2).toNat = 91 := by
    have h3 : ((S l)[k]'hk2) = 91 := hc
    rw [h3]; rfl
  have hb2 : (((S l)[k]'hk2).toNat : Int) = 91 := by omega
  have hi1 : (k : Int) < (l.length : Int) := by omega
  have hi2 : ¬ (l.length : Int) ≤ (k : Int) := by omega
  have hi3 : ¬ (k : Int) < 0 := by omega
  have HR := fun W => rparse_any l k gl (by omega) W h
  cases hp : parseP l k gl with
  | none =>
    have HP := Lib.hid (Parse_none l k gl (by omega) h hp m w hm)
    rw [hp] at HR
    have HR := Lib.hid (show ∀ W, Calls Try.prog 8 #[.string (S l), .int .i64 k, .bool gl] W fun e w' => e = .returned (.agg #[.string (S []), .int .i64 0, .bool false]) ∧ Below W.heap.size W w' from HR)
    have HN : ∀ W, SetAt (World.alloc W (setObj noneP)) W.heap.size noneP := fun W => set_alloc W noneP _
    have HN := Lib.hid HN
    clear h hc hp
    go_enter Try.func3, Try.ntmps3
    go_wp2_with fail
    refine (HP.out).mono ?_
    rintro e w1 ⟨rfl, hb1⟩
    go_wp2_with fail
    have hx1 : Below w.heap.size w (w1.alloc (setObj noneP)) := hb1.alloc hb1.size _
    have hS1 := HN.out w1
    have hz1 : w1.heap.size < (w1.alloc (setObj noneP)).heap.size := by simp
    change Calls _ _ _ (w1.alloc (setObj noneP)) _
    generalize w1.alloc (setObj noneP) = v1 at *
    refine (HR.out _).mono ?_
    rintro e w2 ⟨rfl, hb2⟩
    have hx2 := hx1.trans (hb2.mono hx1.size)
    have hS2 := hS1.below hb2 hz1
    obtain ⟨a0, a1, a2, a3⟩ := none_cells hS2
    have hz2 : w1.heap.size < w2.heap.size := by have := hb2.size; omega
    go_wp2_with fail
    refine (HA.out _ (((hx2.alloc hx2.size _).cell (p := ⟨0, 0, none⟩) hgW).trans hm)).mono ?_
    rintro e w4 ⟨rfl, hb4⟩
    go_wp2_with fail
    go_ret
    exact ⟨rfl, (hx2.alloc hx2.size _).trans (hb4.mono (by have := hx2.size; simp; omega))⟩
  | some pn =>
    obtain ⟨p, n⟩ := pn
    have HP := Lib.hid (Parse_some l k gl p n (by omega) h hp m w hm)
    rw [hp] at HR
    have HR := Lib.hid (show ∀ W, Calls Try.prog 8 #[.string (S l), .int .i64 k, .bool gl] W fun e w' => e = .returned (.agg #[.string (S (bytesP p)), .int .i64 n, .bool true]) ∧ Below W.heap.size W w' from HR)
    have HN : ∀ W, SetAt (World.alloc W (setObj p)) W.heap.size p := fun W => set_alloc W p _
    have HN := Lib.hid HN
    have HBY := Lib.hid (fun W => bytes_any p W)
    clear h hc hp
    go_enter Try.func3, Try.ntmps3
    go_wp2_with fail
    refine (HP.out).mono ?_
    rintro e w1 ⟨rfl, hb1⟩
    go_wp2_with fail
    have hx1 : Below w.heap.size w (w1.alloc (setObj p)) := hb1.alloc hb1.size _
    have hS1 := HN.out w1
    have hz1 : w1.heap.size < (w1.alloc (setObj p)).heap.size := by simp
    change Calls _ _ _ (w1.alloc (setObj p)) _
    generalize w1.alloc (setObj p) = v1 at *
    refine (HR.out _).mono ?_
    rintro e w2 ⟨rfl, hb2⟩
    have hx2 := hx1.trans (hb2.mono hx1.size)
    have hS2 := hS1.below hb2 hz1
    have hz2 : w1.heap.size < w2.heap.size := by have := hb2.size; omega
    go_upto_region 9 with fail
    have hAll := parses_keep w w1.heap.size w2.heap.size p n (v := w2.alloc (.cells #[.string (S (bytesP p)), .int .i64 n, .bool true] 30)) (by simp; omega) (hS2.alloc hz2 _) (by simp) (by simp) (by simp) (hx2.alloc hx2.size _) (by simp)
    generalize w2.alloc (.cells #[.string (S (bytesP p)), .int .i64 n, .bool true] 30) = v2 at *
    generalize w1.heap.size = A at *
    generalize w2.heap.size = B at *
    have HK := Lib.hid hAll
    obtain ⟨x0, x1, x2, x3, x4, x5, x6, x7, x8⟩ := hAll v2.drew ((Below.refl _ _).drew)
    clear hAll hS1 hS2 hx1 hx2
    go_region_held3 (fun W => W.cell? ⟨A, 0, none⟩ = some (.int .u64 (wordP p 0)) ∧ W.cell? ⟨A, 1, none⟩ = some (.int .u64 (wordP p 1)) ∧ W.cell? ⟨A, 2, none⟩ = some (.int .u64 (wordP p 2)) ∧ W.cell? ⟨A, 3, none⟩ = some (.int .u64 (wordP p 3)) ∧ W.cell? ⟨B, 0, none⟩ = some (.string (S (bytesP p))) ∧ W.cell? ⟨B, 1, none⟩ = some (.int .i64 n) ∧ W.cell? ⟨B, 2, none⟩ = some (.bool true) ∧ Below w.heap.size w W ∧ B < W.heap.size) (first | exact ⟨x0, x1, x2, x3, x4, x5, x6, x7, x8⟩ | exact ⟨y0, y1, y2, y3, y4, y5, y6, y7, y8⟩ | exact ⟨z0, z1, z2, z3, z4, z5, z6, z7, z8⟩) (first
      | (go_at_call 9; rw [← SetV_def]; refine (HBY.out _).mono ?_; rintro e w3 ⟨rfl, hb3⟩; have hb3 := ((Below.refl v2.heap.size v2).drew).trans hb3; obtain ⟨y0, y1, y2, y3, y4, y5, y6, y7, y8⟩ := HK.out w3 hb3)
      | (go_at_call 6; refine (HA.out _ ((y7.cell (p := ⟨0, 0, none⟩) hgW).trans hm)).mono ?_; rintro e w4 ⟨rfl, hb4⟩; have hb4 : Below w3.heap.size w3 w4 := hb4; obtain ⟨z0, z1, z2, z3, z4, z5, z6, z7, z8⟩ := HK.out w4 (hb3.trans (hb4.mono hb3.size))))
    go_wp2_with fail
    go_ret
    exact ⟨rfl, z7⟩
theorem lawParsesB (s : ByteArray) (x : Int) (gl : Bool) (w : World) (hmx : ∃ m, w.cell? ⟨0, 0, none⟩ = some (.int .i64 m)) :
    Calls Try.prog 3 #[.string s, .int .i64 x, .bool gl] w fun e w' => e = .returned (.bool true) ∧ Below w.heap.size w w' := by
  obtain ⟨m, hm⟩ := hmx
  by_cases h1 : 200 < s.size
  · exact parses_awake s x gl m w hm h1
  have hl : s.data.toList.length ≤ 200 := by rw [size_len]; omega
  by_cases h2 : x < 0
  · exact parses_not s.data.toList x gl m w hm hl (Or.inl h2)
  by_cases h3 : (s.data.toList.length : Int) ≤ x
  · exact parses_not s.data.toList x gl m w hm hl (Or.inr (Or.inl ⟨by omega, h3⟩))
  obtain ⟨k, rfl⟩ := Int.eq_ofNat_of_zero_le (by omega : 0 ≤ x)
  have hk : k < s.data.toList.length := by omega
  by_cases h4 : s.data.toList[k] = 91
  · exact parses_is s.data.toList k gl m w hm hl (by rw [List.getElem?_eq_getElem hk, h4])
  · exact parses_not s.data.toList k gl m w hm hl (Or.inr (Or.inr ⟨k, _, rfl, List.getElem?_eq_getElem hk, h4⟩))
end Go.Proofs.Ytjoalambgckchaa
