/- A glob's tokens: what a token tells of a byte. -/
import Derived.Test.YtphfcebacilbbaaDoorGlobL
import Derived.Test.YtphfcebacilbbaaDoorClassB3
import Derived.Test.YtphfcebacilbbaaDoorClassD3
import Derived.Test.YtphfcebacilbbaaDoorClassG
namespace Go.Proofs.YtphfcebacilbbaaDoor
open Go.RowKit
attribute [local irreducible] wordP

/-- a glob's token -/
inductive Tk where
  | byte (b : UInt8)
  | any
  | set (p : Nat → Bool)
  | star
def Tk.kind : Tk → Int
  | .byte _ => 1
  | .any => 2
  | .set _ => 3
  | .star => 4
def Tk.b : Tk → UInt8
  | .byte b => b
  | _ => 0
def Tk.p : Tk → Nat → Bool
  | .set p => p
  | _ => noneP
def freeG (slash : Bool) (b : UInt8) : Bool := slash || b != 47
def oneG (fold slash : Bool) : Tk → UInt8 → Bool
  | .byte c, b => b == c || (fold && b == otherB c)
  | .any, b => freeG slash b
  | .set p, b => freeG slash b && (p b.toNat || (fold && foldP p b.toNat))
  | .star, _ => false
def Tk.gt (fold slash : Bool) : Tk → GT
  | .star => .star
  | t => .one (oneG fold slash t)
set_option maxRecDepth 100000 in
set_option maxHeartbeats 1000000 in
theorem free_any (fold slash : Bool) (b : UInt8) (w : World) :
    Calls Tryd.prog 28 #[.agg #[.bool fold, .bool slash], .int .u8 b.toNat] w fun e w' => e = .returned (.bool (freeG slash b)) ∧ Below w.heap.size w w' := by
  have hx := (Below.refl w.heap.size w).alloc (Nat.le_refl _) (.cells #[.bool fold, .bool slash] 36)
  unfold freeG
  have hb : ((b.toNat : Int) != 47) = (b != 47) := by
    by_cases h : b = 47
    · subst h; rfl
    · rw [byte_bne b 47 47 rfl h]; simp [h]
  cases slash
  all_goals
    go_enter Tryd.func28, Tryd.ntmps28
    go_wp2_with fail
    go_ret
    exact ⟨by first | rfl | (rw [← hb]; rfl), hx⟩
/-- a token's six cells -/
def Tk.cells (t : Tk) : List Value := [.int .i64 t.kind, .int .u8 t.b.toNat, .int .u64 (wordP t.p 0), .int .u64 (wordP t.p 1), .int .u64 (wordP t.p 2), .int .u64 (wordP t.p 3)]
def Tk.val (t : Tk) : Value := .agg t.cells.toArray
theorem Tk.val_def (t : Tk) : t.val = .agg #[.int .i64 t.kind, .int .u8 t.b.toNat, .int .u64 (wordP t.p 0), .int .u64 (wordP t.p 1), .int .u64 (wordP t.p 2), .int .u64 (wordP t.p 3)] := rfl
set_option maxRecDepth 100000 in
set_option maxHeartbeats 2000000 in
theorem one_byte (fold slash : Bool) (c : UInt8) (b : UInt8) (w : World) :
    Calls Tryd.prog 27 #[.agg #[.bool fold, .bool slash], .agg #[.int .i64 1, .int .u8 c.toNat, .int .u64 (wordP noneP 0), .int .u64 (wordP noneP 1), .int .u64 (wordP noneP 2), .int .u64 (wordP noneP 3)], .int .u8 b.toNat] w fun e w' => e = .returned (.bool (b == c || (fold && b == otherB c))) ∧ Below w.heap.size w w' := by
  have hx := ((Below.refl w.heap.size w).alloc (Nat.le_refl _) (.cells #[.bool fold, .bool slash] 36)).alloc (by simp) (.cells #[.int .i64 1, .int .u8 c.toNat, .int .u64 (wordP noneP 0), .int .u64 (wordP noneP 1), .int .u64 (wordP noneP 2), .int .u64 (wordP noneP 3)] 31)
  have hz : (w.alloc (.cells #[.bool fold, .bool slash] 36)).heap.size = w.heap.size + 1 := by simp
  have HO := Lib.hid (fun W => other_any c W)
  by_cases hbc : b = c
  · subst hbc
    go_enter Tryd.func27, Tryd.ntmps27
    go_wp2_with fail
    go_ret
    exact ⟨by simp, hx⟩
  · have hI : ¬ (b.toNat : Int) = (c.toNat : Int) := by intro h; exact hbc (UInt8.toNat_inj.1 (by omega))
    have hB : ((b.toNat : Int) == (c.toNat : Int)) = false := beq_eq_false_iff_ne.2 hI
    have hN : ¬ b.toNat = c.toNat := by omega
    have e1 : (b == c) = false := beq_eq_false_iff_ne.2 hbc
    rw [e1, Bool.false_or]
    cases fold
    · clear HO
      go_enter Tryd.func27, Tryd.ntmps27
      go_wp2_with fail
      go_ret
      exact ⟨rfl, hx⟩
    · have hO : ((b.toNat : Int) == ((otherB c).toNat : Int)) = (b == otherB c) := by
        by_cases h : b = otherB c
        · rw [h]; simp
        · rw [beq_eq_false_iff_ne.2 h, beq_eq_false_iff_ne]
          intro h2; exact h (UInt8.toNat_inj.1 (by omega))
      go_enter Tryd.func27, Tryd.ntmps27
      go_wp2_with fail
      refine (HO.out _).mono ?_
      rintro e _ ⟨rfl, rfl⟩
      go_wp2_with fail
      go_ret
      exact ⟨by rw [Bool.true_and, ← hO]; rfl, hx⟩
set_option maxRecDepth 100000 in
set_option maxHeartbeats 2000000 in
theorem one_anyk (fold slash : Bool)  (b : UInt8) (w : World) :
    Calls Tryd.prog 27 #[.agg #[.bool fold, .bool slash], .agg #[.int .i64 2, .int .u8 0, .int .u64 (wordP noneP 0), .int .u64 (wordP noneP 1), .int .u64 (wordP noneP 2), .int .u64 (wordP noneP 3)], .int .u8 b.toNat] w fun e w' => e = .returned (.bool (freeG slash b)) ∧ Below w.heap.size w w' := by
  have hx := ((Below.refl w.heap.size w).alloc (Nat.le_refl _) (.cells #[.bool fold, .bool slash] 36)).alloc (by simp) (.cells #[.int .i64 2, .int .u8 0, .int .u64 (wordP noneP 0), .int .u64 (wordP noneP 1), .int .u64 (wordP noneP 2), .int .u64 (wordP noneP 3)] 31)
  have hz : (w.alloc (.cells #[.bool fold, .bool slash] 36)).heap.size = w.heap.size + 1 := by simp
  have HF := Lib.hid (fun W => free_any fold slash b W)
  go_enter Tryd.func27, Tryd.ntmps27
  go_wp2_with fail
  refine (HF.out _).mono ?_
  rintro e w1 ⟨rfl, hb1⟩
  go_wp2_with fail
  go_ret
  exact ⟨rfl, hx.trans (hb1.mono hx.size)⟩
set_option maxRecDepth 100000 in
set_option maxHeartbeats 2000000 in
theorem one_star (fold slash : Bool)  (b : UInt8) (w : World) :
    Calls Tryd.prog 27 #[.agg #[.bool fold, .bool slash], .agg #[.int .i64 4, .int .u8 0, .int .u64 (wordP noneP 0), .int .u64 (wordP noneP 1), .int .u64 (wordP noneP 2), .int .u64 (wordP noneP 3)], .int .u8 b.toNat] w fun e w' => e = .returned (.bool (false)) ∧ Below w.heap.size w w' := by
  have hx := ((Below.refl w.heap.size w).alloc (Nat.le_refl _) (.cells #[.bool fold, .bool slash] 36)).alloc (by simp) (.cells #[.int .i64 4, .int .u8 0, .int .u64 (wordP noneP 0), .int .u64 (wordP noneP 1), .int .u64 (wordP noneP 2), .int .u64 (wordP noneP 3)] 31)
  have hz : (w.alloc (.cells #[.bool fold, .bool slash] 36)).heap.size = w.heap.size + 1 := by simp
  go_enter Tryd.func27, Tryd.ntmps27
  go_wp2_with fail
  go_ret
  exact ⟨rfl, hx⟩
set_option maxRecDepth 100000 in
set_option maxHeartbeats 2000000 in
theorem one_setk (fold slash : Bool) (p : Nat → Bool) (b : UInt8) (w : World) :
    Calls Tryd.prog 27 #[.agg #[.bool fold, .bool slash], .agg #[.int .i64 3, .int .u8 0, .int .u64 (wordP p 0), .int .u64 (wordP p 1), .int .u64 (wordP p 2), .int .u64 (wordP p 3)], .int .u8 b.toNat] w fun e w' => e = .returned (.bool (freeG slash b && (p b.toNat || (fold && foldP p b.toNat)))) ∧ Below w.heap.size w w' := by
  have hx := ((Below.refl w.heap.size w).alloc (Nat.le_refl _) (.cells #[.bool fold, .bool slash] 36)).alloc (by simp) (.cells #[.int .i64 3, .int .u8 0, .int .u64 (wordP p 0), .int .u64 (wordP p 1), .int .u64 (wordP p 2), .int .u64 (wordP p 3)] 31)
  have hz : (w.alloc (.cells #[.bool fold, .bool slash] 36)).heap.size = w.heap.size + 1 := by simp
  have HF := Lib.hid (fun W => free_any fold slash b W)
  have HH := Lib.hid (fun W => has_any p b W)
  have HG := Lib.hid (fun W => has_any (foldP p) b W)
  have HC := Lib.hid (fun W => fold_any p W)
  have a0 : ((w.alloc (.cells #[.bool fold, .bool slash] 36)).alloc (.cells #[.int .i64 3, .int .u8 0, .int .u64 (wordP p 0), .int .u64 (wordP p 1), .int .u64 (wordP p 2), .int .u64 (wordP p 3)] 31)).cell? ⟨w.heap.size, 0, none⟩ = some (.bool fold) := by simp
  have k2 : ∀ j, j < 4 → ((w.alloc (.cells #[.bool fold, .bool slash] 36)).alloc (.cells #[.int .i64 3, .int .u8 0, .int .u64 (wordP p 0), .int .u64 (wordP p 1), .int .u64 (wordP p 2), .int .u64 (wordP p 3)] 31)).cell? ⟨w.heap.size + 1, 2 + j, none⟩ = some (.int .u64 (wordP p j)) := by
    intro j hj
    rw [World.cell?_alloc_at _ _ _ _ (by simp)]
    obtain rfl | rfl | rfl | rfl : j = 0 ∨ j = 1 ∨ j = 2 ∨ j = 3 := by omega
    all_goals rfl
  have hz1 : w.heap.size + 1 < ((w.alloc (.cells #[.bool fold, .bool slash] 36)).alloc (.cells #[.int .i64 3, .int .u8 0, .int .u64 (wordP p 0), .int .u64 (wordP p 1), .int .u64 (wordP p 2), .int .u64 (wordP p 3)] 31)).heap.size := by simp
  clear hz
  cases hf : freeG slash b
  · rw [hf] at HF
    go_enter Tryd.func27, Tryd.ntmps27
    go_wp2_with fail
    refine (HF.out _).mono ?_
    rintro e w1 ⟨rfl, hb1⟩
    go_wp2_with fail
    go_ret
    exact ⟨rfl, hx.trans (hb1.mono hx.size)⟩
  · rw [hf] at HF
    rw [Bool.true_and]
    go_enter Tryd.func27, Tryd.ntmps27
    go_wp2_with fail
    generalize (w.alloc (.cells #[.bool fold, .bool slash] 36)).alloc (.cells #[.int .i64 3, .int .u8 0, .int .u64 (wordP p 0), .int .u64 (wordP p 1), .int .u64 (wordP p 2), .int .u64 (wordP p 3)] 31) = W at *
    refine (HF.out _).mono ?_
    rintro e w1 ⟨rfl, hb1⟩
    have hx1 := hx.trans (hb1.mono hx.size)
    have c0 := fun j hj => (hb1.cell (p := ⟨w.heap.size + 1, 2 + j, none⟩) hz1).trans (k2 j hj)
    have a1 := (hb1.cell (p := ⟨w.heap.size, 0, none⟩) (by show w.heap.size < _; omega)).trans a0
    have hz2 : w.heap.size + 1 < w1.heap.size := Nat.lt_of_lt_of_le hz1 hb1.size
    have c2 : w1.cell? ⟨w.heap.size + 1, 2, none⟩ = some (.int .u64 (wordP p 0)) := c0 0 (by decide)
    have c3 : w1.cell? ⟨w.heap.size + 1, 3, none⟩ = some (.int .u64 (wordP p 1)) := c0 1 (by decide)
    have c4 : w1.cell? ⟨w.heap.size + 1, 4, none⟩ = some (.int .u64 (wordP p 2)) := c0 2 (by decide)
    have c5 : w1.cell? ⟨w.heap.size + 1, 5, none⟩ = some (.int .u64 (wordP p 3)) := c0 3 (by decide)
    clear c0 k2 a0
    go_wp2_with fail
    rw [← SetV_def]
    refine (HH.out _).mono ?_
    rintro e w2 ⟨rfl, hb2⟩
    have hx2 := hx1.trans (hb2.mono hx1.size)
    have d2 := (hb2.cell (p := ⟨w.heap.size + 1, 2, none⟩) hz2).trans c2
    have d3 := (hb2.cell (p := ⟨w.heap.size + 1, 3, none⟩) hz2).trans c3
    have d4 := (hb2.cell (p := ⟨w.heap.size + 1, 4, none⟩) hz2).trans c4
    have d5 := (hb2.cell (p := ⟨w.heap.size + 1, 5, none⟩) hz2).trans c5
    have a2 := (hb2.cell (p := ⟨w.heap.size, 0, none⟩) (by show w.heap.size < _; omega)).trans a1
    clear c2 c3 c4 c5 a1
    cases hp : p b.toNat
    · cases fold
      · go_wp2_with fail
        go_ret
        exact ⟨by rw [hp]; rfl, hx2⟩
      · go_wp2_with fail
        rw [← SetV_def]
        refine (HC.out _).mono ?_
        rintro e w3 ⟨rfl, hb3⟩
        have hx3 := hx2.trans (hb3.mono hx2.size)
        clear d2 d3 d4 d5 a2
        go_wp2_with fail
        rw [← SetV_def (foldP p)]
        refine (HG.out _).mono ?_
        rintro e w4 ⟨rfl, hb4⟩
        go_wp2_with fail
        go_ret
        exact ⟨by rw [hp]; rfl, hx3.trans (hb4.mono hx3.size)⟩
    · go_wp2_with fail
      go_ret
      exact ⟨by rw [hp]; rfl, hx2⟩
theorem oneG_any (fold slash : Bool) (t : Tk) (b : UInt8) (w : World) :
    Calls Tryd.prog 27 #[.agg #[.bool fold, .bool slash], t.val, .int .u8 b.toNat] w fun e w' => e = .returned (.bool (oneG fold slash t b)) ∧ Below w.heap.size w w' := by
  cases t with
  | byte c => exact one_byte fold slash c b w
  | any => exact one_anyk fold slash b w
  | set p => exact one_setk fold slash p b w
  | star => exact one_star fold slash b w
end Go.Proofs.YtphfcebacilbbaaDoor
