/- A bracket's text: tail. -/
import Derived.Test.YtjoalambgckchaaBrK
import Derived.Test.YtjoalambgckchaaSameP
import Derived.Test.YtjoalambgckchaaArrEq
import Derived.Test.YtjoalambgckchaaClassG
namespace Go.Proofs.Ytjoalambgckchaa
open Go.RowKit
attribute [local irreducible] wordP

theorem has_byte (p : Nat → Bool) (b : UInt8) (x : Int) (hx : x = b.toNat) (c : Bool) (hc : p b.toNat = c) (w : World) :
    Calls Try.prog 23 #[SetV p, .int .u8 x] w fun e w' => e = .returned (.bool c) ∧ Below w.heap.size w w' := by
  subst hx hc
  exact has_any p b w
set_option maxRecDepth 100000 in
set_option maxHeartbeats 1000000 in
theorem tail_any (p : Nat → Bool) (w : World) :
    Calls Try.prog 26 #[SetV p] w fun e w' => e = .returned (.string (S (91 :: (oneIf (p 33) [91, 46, 33, 46, 93] ++ oneIf (p 94) [91, 46, 94, 46, 93] ++ [93])))) ∧ Below w.heap.size w w' := by
  rw [SetV_def]
  have hS0 := (set_alloc w p 25).alloc (by simp) (.cells #[.int .u8 33, .int .u8 94] 5 (2, 3))
  have k0 : ((w.alloc (.cells #[.int .u64 (wordP p 0), .int .u64 (wordP p 1), .int .u64 (wordP p 2), .int .u64 (wordP p 3)] 25)).alloc (.cells #[.int .u8 33, .int .u8 94] 5 (2, 3))).cell? ⟨w.heap.size + 1, 0, none⟩ = some (.int .u8 33) := by rw [cell?_mark_at _ _ _ _ _ _ (by simp)]; rfl
  have k1 : ((w.alloc (.cells #[.int .u64 (wordP p 0), .int .u64 (wordP p 1), .int .u64 (wordP p 2), .int .u64 (wordP p 3)] 25)).alloc (.cells #[.int .u8 33, .int .u8 94] 5 (2, 3))).cell? ⟨w.heap.size + 1, 1, none⟩ = some (.int .u8 94) := by rw [cell?_mark_at _ _ _ _ _ _ (by simp)]; rfl
  have hx0 : Below w.heap.size w ((w.alloc (.cells #[.int .u64 (wordP p 0), .int .u64 (wordP p 1), .int .u64 (wordP p 2), .int .u64 (wordP p 3)] 25)).alloc (.cells #[.int .u8 33, .int .u8 94] 5 (2, 3))) := ((Below.refl _ _).alloc (Nat.le_refl _) _).alloc (by simp) _
  have hz0 : w.heap.size + 1 < ((w.alloc (.cells #[.int .u64 (wordP p 0), .int .u64 (wordP p 1), .int .u64 (wordP p 2), .int .u64 (wordP p 3)] 25)).alloc (.cells #[.int .u8 33, .int .u8 94] 5 (2, 3))).heap.size := by simp
  cases h33 : p 33 <;> cases h94 : p 94
  all_goals
    have q33 := fun W => str_lit W #[.int .u8 33] 1 [33] rfl rfl (by decide)
    have q94 := fun W => str_lit W #[.int .u8 94] 1 [94] rfl rfl (by decide)
    have H1 := Lib.hid (fun W => has_byte p 33 33 (by decide) _ h33 W)
    have H2 := Lib.hid (fun W => has_byte p 94 94 (by decide) _ h94 W)
    go_enter Try.func26, Try.ntmps26
    go_wp2_with fail
    generalize (w.alloc (.cells #[.int .u64 (wordP p 0), .int .u64 (wordP p 1), .int .u64 (wordP p 2), .int .u64 (wordP p 3)] 25)).alloc (.cells #[.int .u8 33, .int .u8 94] 5 (2, 3)) = W at *
    obtain ⟨a0, a1, a2, a3⟩ := hS0.four
    refine wp_loop_rounds 3 ?_
    rw [rounds_succ]
    go_wp2_with fail
    rw [← SetV_def]
    refine (H1.out _).mono ?_
    rintro e w1 ⟨rfl, hb1⟩
    have hS1 := hS0.below hb1 (by omega)
    have k2 : w1.cell? ⟨w.heap.size + 1, 1, none⟩ = some (.int .u8 94) := (hb1.cell (p := ⟨w.heap.size + 1, 1, none⟩) hz0).trans k1
    have hx1 := hx0.trans (hb1.mono (by omega))
    have hz1 := hb1.size
    have hz2 : w.heap.size + 1 < w1.heap.size := by omega
    have hz3 : w.heap.size < w1.heap.size := by omega
    obtain ⟨b0, b1, b2, b3⟩ := hS1.four
    clear a0 a1 a2 a3 k0 k1
    go_wp2_with fail
    rw [rounds_succ]
    go_wp2_with fail
    rw [← SetV_def]
    refine (H2.out _).mono ?_
    rintro e w2 ⟨rfl, hb2⟩
    have hx2 : Below w.heap.size w w2 := hx1.trans (by first | exact hb2.mono (by omega) | exact ((Below.refl _ _).alloc (by omega) _).trans (hb2.mono (by simp; omega)))
    clear b0 b1 b2 b3 k2
    go_wp2_with fail
    rw [rounds_succ]
    go_wp2_with fail
    go_ret
    refine ⟨rfl, ?_⟩
    first | exact hx2 | exact hx2.alloc (by have := hx2.size; omega) _
end Go.Proofs.Ytjoalambgckchaa
