/- The document's globs: one token and a byte, walked. -/
import Derived.Test.YtphfcebacilbbaaDoorGlobN
import Derived.Deep.QuietTactic
import Derived.BigQuiet
namespace Go.Proofs.YtphfcebacilbbaaDoor
open Go.RowKit
attribute [local irreducible] wordP

theorem oneG_set (fold slash : Bool) (p : Nat → Bool) (b : UInt8) : oneG fold slash (.set p) b = (freeG slash b && (p b.toNat || (fold && p (otherB b).toNat))) := by
  show (freeG slash b && (p b.toNat || (fold && foldP p b.toNat))) = _
  cases fold
  · rfl
  · rw [Bool.true_and, Bool.true_and, fold_is]
theorem byte_eqs (b c : UInt8) : ((b.toNat : Int) == (c.toNat : Int)) = (b == c) := by
  by_cases h : b = c
  · rw [h]; simp
  · rw [beq_eq_false_iff_ne.2 h, beq_eq_false_iff_ne]
    intro h2; exact h (UInt8.toNat_inj.1 (by omega))
abbrev rtokObj (k : Int) (b : Int) (s : ByteArray) : Obj := .cells #[.int .i64 k, .int .u8 b, .string s] 88
set_option maxRecDepth 100000 in
set_option maxHeartbeats 2000000 in
theorem rone_byte (fold slash : Bool) (c : UInt8) (b : UInt8) (s : ByteArray) (w : World) :
    Calls Tryd.prog 68 #[.agg #[.int .i64 1, .int .u8 c.toNat, .string s], .bool fold, .bool slash, .int .u8 b.toNat] w fun e w' => e = .returned (.bool (b == c || (fold && b == otherB c))) ∧ Below w.heap.size w w' := by
  have hx := (Below.refl w.heap.size w).alloc (Nat.le_refl _) (.cells #[.int .i64 1, .int .u8 c.toNat, .string s] 88)
  have HO := Lib.hid (fun W => rother_any c W)
  by_cases hbc : b = c
  · subst hbc
    go_enter Tryd.func68, Tryd.ntmps68
    go_wp2_with fail
    go_ret
    exact ⟨by simp, hx⟩
  · have hI : ¬ (b.toNat : Int) = (c.toNat : Int) := by intro h; exact hbc (UInt8.toNat_inj.1 (by omega))
    have hB : ((b.toNat : Int) == (c.toNat : Int)) = false := beq_eq_false_iff_ne.2 hI
    have hN : ¬ b.toNat = c.toNat := by omega
    have e1 : (b == c) = false := beq_eq_false_iff_ne.2 hbc
    rw [e1, Bool.false_or]
    cases fold
    · clear HO
      go_enter Tryd.func68, Tryd.ntmps68
      go_wp2_with fail
      go_ret
      exact ⟨rfl, hx⟩
    · have hO : ((b.toNat : Int) == ((otherB c).toNat : Int)) = (b == otherB c) := byte_eqs _ _
      go_enter Tryd.func68, Tryd.ntmps68
      go_wp2_with fail
      refine (HO.out _).mono ?_
      rintro e _ ⟨rfl, rfl⟩
      go_wp2_with fail
      go_ret
      exact ⟨by rw [Bool.true_and, ← hO]; rfl, hx⟩
set_option maxRecDepth 100000 in
set_option maxHeartbeats 2000000 in
theorem rone_anyk (fold slash : Bool) (b : UInt8) (s : ByteArray) (w : World) :
    Calls Tryd.prog 68 #[.agg #[.int .i64 2, .int .u8 0, .string s], .bool fold, .bool slash, .int .u8 b.toNat] w fun e w' => e = .returned (.bool (freeG slash b)) ∧ Below w.heap.size w w' := by
  have hx := (Below.refl w.heap.size w).alloc (Nat.le_refl _) (.cells #[.int .i64 2, .int .u8 0, .string s] 88)
  unfold freeG
  by_cases hb : b = 47
  · subst hb
    have hv : ((47 : UInt8).toNat : Int) = 47 := rfl
    cases slash
    all_goals
      go_enter Tryd.func68, Tryd.ntmps68
      go_wp2_with fail
      go_ret
      exact ⟨rfl, hx⟩
  · have hB := byte_beq' b 47 47 rfl hb
    have hN : ¬ (b.toNat : Int) = 47 := byte_ne b 47 47 rfl hb
    have hne : (b != 47) = true := bne_iff_ne.2 hb
    rw [hne, Bool.or_true]
    go_enter Tryd.func68, Tryd.ntmps68
    go_wp2_with fail
    go_ret
    exact ⟨rfl, hx⟩
set_option maxRecDepth 100000 in
set_option maxHeartbeats 2000000 in
theorem rone_star (fold slash : Bool) (b : UInt8) (s : ByteArray) (w : World) :
    Calls Tryd.prog 68 #[.agg #[.int .i64 4, .int .u8 0, .string s], .bool fold, .bool slash, .int .u8 b.toNat] w fun e w' => e = .returned (.bool false) ∧ Below w.heap.size w w' := by
  have hx := (Below.refl w.heap.size w).alloc (Nat.le_refl _) (.cells #[.int .i64 4, .int .u8 0, .string s] 88)
  have a0 : (w.alloc (.cells #[.int .i64 4, .int .u8 0, .string s] 88)).cell? ⟨w.heap.size, 0, none⟩ = some (.int .i64 4) := by simp
  by_cases hb : b = 47 ∧ slash = false
  · obtain ⟨rfl, rfl⟩ := hb
    have hv : ((47 : UInt8).toNat : Int) = 47 := rfl
    go_enter Tryd.func68, Tryd.ntmps68
    go_wp2_with fail
    go_ret
    exact ⟨rfl, hx⟩
  · by_cases hb2 : b = 47
    · subst hb2
      have hsl : slash = true := by cases slash <;> simp at hb ⊢
      subst hsl
      have hv : ((47 : UInt8).toNat : Int) = 47 := rfl
      go_enter Tryd.func68, Tryd.ntmps68
      go_upto_region 7 with fail
      generalize w.alloc (.cells #[.int .i64 4, .int .u8 0, .string s] 88) = W at *
      go_quiet (fail)
      go_wp2
      go_ret
      exact ⟨rfl, belowDrewN hx⟩
    · have hB := byte_beq' b 47 47 rfl hb2
      have hN : ¬ (b.toNat : Int) = 47 := byte_ne b 47 47 rfl hb2
      go_enter Tryd.func68, Tryd.ntmps68
      go_upto_region 7 with fail
      generalize w.alloc (.cells #[.int .i64 4, .int .u8 0, .string s] 88) = W at *
      go_quiet (fail)
      go_wp2
      go_ret
      exact ⟨rfl, belowDrewN hx⟩
set_option maxRecDepth 100000 in
set_option maxHeartbeats 4000000 in
theorem rone_set (fold slash : Bool) (p : Nat → Bool) (b : UInt8) (w : World) :
    Calls Tryd.prog 68 #[.agg #[.int .i64 3, .int .u8 0, .string (S (bytesP p))], .bool fold, .bool slash, .int .u8 b.toNat] w fun e w' => e = .returned (.bool (oneG fold slash (.set p) b)) ∧ Below w.heap.size w w' := by
  rw [oneG_set]
  have hx := (Below.refl w.heap.size w).alloc (Nat.le_refl _) (.cells #[.int .i64 3, .int .u8 0, .string (S (bytesP p))] 88)
  have a0 : (w.alloc (.cells #[.int .i64 3, .int .u8 0, .string (S (bytesP p))] 88)).cell? ⟨w.heap.size, 0, none⟩ = some (.int .i64 3) := by simp
  have a2 : (w.alloc (.cells #[.int .i64 3, .int .u8 0, .string (S (bytesP p))] 88)).cell? ⟨w.heap.size, 2, none⟩ = some (.string (S (bytesP p))) := by simp
  have hlb : (S (bytesP p)).size ≤ 1000000 := by rw [S_size]; have := bl p; omega
  have HI : Hid (∀ b W, Calls Tryd.prog 67 #[.int .u8 (b : UInt8).toNat, .string (S (bytesP p))] W fun e w' => e = .returned (.bool (p b.toNat)) ∧ ∃ m, w' = W.drewN m) := Lib.hid (fun b W => by
    refine (in_any b _ W hlb).mono ?_
    rintro e w' ⟨rfl, rfl⟩
    exact ⟨by rw [← in_set p b]; rfl, 0, rfl⟩)
  have HO : Hid (∀ W, Calls Tryd.prog 77 #[.int .u8 b.toNat] W fun e w' => e = .returned (.int .u8 (otherB b).toNat) ∧ ∃ m, w' = W.drewN m) := Lib.hid (fun W => by
    refine (rother_any b W).mono ?_
    rintro e w' ⟨rfl, rfl⟩
    exact ⟨rfl, 0, rfl⟩)
  have HB := Lib.hid (HI.out b)
  have HC := Lib.hid (HI.out (otherB b))
  clear hlb
  cases hf : freeG slash b
  · rw [Bool.false_and]
    unfold freeG at hf
    simp only [Bool.or_eq_false_iff, bne_eq_false_iff_eq] at hf
    obtain ⟨rfl, rfl⟩ := hf
    have hv : ((47 : UInt8).toNat : Int) = 47 := rfl
    clear HB HC HO HI
    go_enter Tryd.func68, Tryd.ntmps68
    go_wp2_with fail
    go_ret
    exact ⟨rfl, hx⟩
  · rw [Bool.true_and]
    have hsb : slash = true ∨ b ≠ 47 := by
      unfold freeG at hf
      simpa using hf
    clear hf
    by_cases hb2 : b = 47
    · subst hb2
      have hsl : slash = true := by rcases hsb with h | h; exact h; exact absurd rfl h
      subst hsl
      have hv : ((47 : UInt8).toNat : Int) = 47 := rfl
      cases hp : p (47 : UInt8).toNat
      · rw [hp] at HB
        cases fold
        · go_enter Tryd.func68, Tryd.ntmps68
          go_upto_region 7 with fail
          generalize w.alloc (.cells #[.int .i64 3, .int .u8 0, .string (S (bytesP p))] 88) = W at *
          go_quiet ((go_at_call 67; exact Calls.quiet_of (HB.out _)))
          go_wp2
          go_ret
          exact ⟨rfl, belowDrewN hx⟩
        · generalize hq : p (otherB 47).toNat = q at *
          go_enter Tryd.func68, Tryd.ntmps68
          go_upto_region 7 with fail
          generalize w.alloc (.cells #[.int .i64 3, .int .u8 0, .string (S (bytesP p))] 88) = W at *
          go_quiet (first | (go_at_call 67; exact Calls.quiet_of (HB.out _)) | (go_at_call 67; exact Calls.quiet_of (HC.out _)) | (go_at_call 77; exact Calls.quiet_of (HO.out _)))
          go_wp2
          go_ret
          exact ⟨by first | rfl | (simp; done) | (simp; rw [← hq]; exact hp), belowDrewN hx⟩
      · rw [hp] at HB
        go_enter Tryd.func68, Tryd.ntmps68
        go_upto_region 7 with fail
        generalize w.alloc (.cells #[.int .i64 3, .int .u8 0, .string (S (bytesP p))] 88) = W at *
        go_quiet ((go_at_call 67; exact Calls.quiet_of (HB.out _)))
        go_wp2
        go_ret
        exact ⟨rfl, belowDrewN hx⟩
    · have hB := byte_beq' b 47 47 rfl hb2
      have hN : ¬ (b.toNat : Int) = 47 := byte_ne b 47 47 rfl hb2
      clear hsb HC
      cases hp : p b.toNat
      · clear HB
        cases fold
        · go_enter Tryd.func68, Tryd.ntmps68
          go_upto_region 7 with fail
          generalize w.alloc (.cells #[.int .i64 3, .int .u8 0, .string (S (bytesP p))] 88) = W at *
          go_quiet ((go_at_call 67; exact Calls.quiet_of (HI.out _ _)))
          go_wp2
          go_ret
          exact ⟨rfl, belowDrewN hx⟩
        · go_enter Tryd.func68, Tryd.ntmps68
          go_upto_region 7 with fail
          generalize w.alloc (.cells #[.int .i64 3, .int .u8 0, .string (S (bytesP p))] 88) = W at *
          go_quiet (first | (go_at_call 67; exact Calls.quiet_of (HI.out _ _)) | (go_at_call 77; exact Calls.quiet_of (HO.out _)))
          go_wp2
          go_ret
          exact ⟨by first | rfl | (simp; done) | (simp [hp]; done), belowDrewN hx⟩
      · rw [hp] at HB
        clear HI HO
        go_enter Tryd.func68, Tryd.ntmps68
        go_upto_region 7 with fail
        generalize w.alloc (.cells #[.int .i64 3, .int .u8 0, .string (S (bytesP p))] 88) = W at *
        go_quiet ((go_at_call 67; exact Calls.quiet_of (HB.out _)))
        go_wp2
        go_ret
        exact ⟨rfl, belowDrewN hx⟩
theorem rone_any (fold slash : Bool) (t : Tk) (b : UInt8) (w : World) :
    Calls Tryd.prog 68 #[.agg t.rcells.toArray, .bool fold, .bool slash, .int .u8 b.toNat] w fun e w' => e = .returned (.bool (oneG fold slash t b)) ∧ Below w.heap.size w w' := by
  cases t with
  | byte c => exact rone_byte fold slash c b _ w
  | any => exact rone_anyk fold slash b _ w
  | set p => exact rone_set fold slash p b w
  | star => exact rone_star fold slash b _ w
end Go.Proofs.YtphfcebacilbbaaDoor
