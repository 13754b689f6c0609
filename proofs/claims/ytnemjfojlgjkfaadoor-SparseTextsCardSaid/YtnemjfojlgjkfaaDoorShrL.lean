/- The chapter's example of maps with holes, walked. -/
import Derived.Test.YtnemjfojlgjkfaaDoorShrF
import Derived.Test.YtnemjfojlgjkfaaDoorShrK
import Derived.Test.YtnemjfojlgjkfaaDoorMakeB
namespace Go.Proofs.YtnemjfojlgjkfaaDoor
open Go.RowKit
open Go.Lib (decDigits itoa)

def exS : List UInt8 := List.replicate 1024 0 ++ [97]
theorem exS_len : exS.length = 1025 := by unfold exS; rw [List.length_append, List.length_replicate]; rfl
theorem exS_nB : nB exS = 3 := by unfold nB; rw [exS_len]
theorem exS_shr : shrS exS 3 = ([(1024, 1)], [97]) := by decide +kernel
theorem dd1 : decDigits 1 = [49] := by rw [decDigits, dif_pos (by decide)]; rfl
theorem dd1025 : decDigits 1025 = [49, 48, 50, 53] := by
  rw [decDigits, dif_neg (by decide), show 1025 / 10 = 102 from rfl, decDigits, dif_neg (by decide), show 102 / 10 = 10 from rfl, decDigits, dif_neg (by decide), show 10 / 10 = 1 from rfl, dd1]; rfl
theorem dd1024 : decDigits 1024 = [49, 48, 50, 52] := by
  rw [decDigits, dif_neg (by decide), show 1024 / 10 = 102 from rfl, decDigits, dif_neg (by decide), show 102 / 10 = 10 from rfl, decDigits, dif_neg (by decide), show 10 / 10 = 1 from rfl, dd1]; rfl
theorem exTx : txM 1025 [(1024, 1)] = [49, 10, 49, 48, 50, 53, 10, 49, 48, 50, 52, 10, 49, 10] := by
  unfold txM lineI
  simp only [List.flatMap_cons, List.flatMap_nil, List.length_cons, List.length_nil]
  rw [show (((0 + 1 : Nat) : Int)).toNat = 1 from rfl, show (1025 : Int).toNat = 1025 from rfl, show (1024 : Int).toNat = 1024 from rfl, show (1 : Int).toNat = 1 from rfl, dd1, dd1025, dd1024]
  rfl
set_option maxRecDepth 100000 in
set_option maxHeartbeats 4000000 in
theorem awake40 (w : World) (hT : TB w.heap.size w) : Calls Tryd.prog 7 #[] w fun e w' => e = .returned (.bool true) ∧ Below w.heap.size w w' := by
  have hmk : ∀ w, (Instr.makeSlice 53 (.int .i64 1024) (.int .i64 1024)).run Tryd.prog w = .ok (.slice (some ⟨w.heap.size, 0, none⟩) 1024 1024) (w.alloc (.cells (zerosA 1024) 5)) := fun w => mk_bytes 1024 1024 (by decide) (by decide) w
  have hcv := conv_zeros 1024 (by decide) w
  have hcat : S (List.replicate 1024 0) ++ (⟨#[97]⟩ : ByteArray) = S exS := S_append _ [97]
  have hx0 : Below w.heap.size w (w.alloc (.cells (zerosA 1024) 5)) := (Below.refl _ _).alloc (Nat.le_refl _) _
  have hSh : Calls Tryd.prog 8 #[.string (S exS)] (w.alloc (.cells (zerosA 1024) 5)) fun e w' => ∃ v, e = .returned (.tuple #[.agg #[.int .i64 1025, v], .string ⟨#[97]⟩, .int .i64 0]) ∧ PieV w' v [(1024, 1)] ∧ Below (w.alloc (.cells (zerosA 1024) 5)).heap.size (w.alloc (.cells (zerosA 1024) 5)) w' := by
    refine (Shrink_any exS (by rw [exS_len]; decide) _).mono ?_
    rintro e w' ⟨v, rfl, h1, h2⟩
    rw [exS_nB, exS_shr] at h1
    refine ⟨v, ?_, h1, h2⟩
    rw [exS_nB, exS_shr, exS_len]
    rfl
  have HSh := Lib.hid hSh
  have HTx : Hid (∀ v W, PieV W v [(1024, 1)] → TB W.heap.size W → Calls Tryd.prog 21 #[.agg #[.int .i64 1025, v]] W fun e w' => e = .returned (.tuple #[.string ⟨#[49, 10, 49, 48, 50, 53, 10, 49, 48, 50, 52, 10, 49, 10]⟩, .int .i64 0]) ∧ Below W.heap.size W w') := Lib.hid (fun v W h1 h2 => by
    refine (sText_yes 1025 [(1024, 1)] v W h1 (by decide) h2).mono ?_
    rintro e w' ⟨rfl, h⟩
    refine ⟨?_, h⟩
    rw [exTx]
    rfl)
  clear hSh
  have hzl : (List.replicate 1024 (0 : UInt8)).length ≤ 2000 := by rw [List.length_replicate]; decide
  generalize List.replicate 1024 (0 : UInt8) = zz at *
  generalize exS = xs at *
  go_enter Tryd.func7, Tryd.ntmps7
  go_wp2_with fail
  refine HSh.out.mono ?_
  rintro e w1 ⟨v, rfl, hv, hb1⟩
  have hx1 := hx0.trans (hb1.mono hx0.size)
  have hv0 := hv
  obtain ⟨a0, c0, hv1, -⟩ := hv0
  have hv1' : v = .slice a0 1 c0 := hv1
  clear hv1
  subst hv1'
  have hx2 : Below w.heap.size w (w1.alloc (.cells #[.int .i64 1025, .slice a0 1 c0] 25)) := hx1.alloc hx1.size _
  have hM := MapAt.new w1 1025 (.slice a0 1 c0)
  have hv2 := hv.below ((Below.refl w1.heap.size w1).alloc (Nat.le_refl _) (.cells #[.int .i64 1025, .slice a0 1 c0] 25)) (Nat.le_refl _)
  have n0 := hM.c0
  have n1 := hM.c1
  have HT2 := Lib.hid (HTx.out _ _ hv2 (hT.at hx2 hx2.size))
  clear hv hv2 hM HTx HSh hT hx0 hx1
  go_upto_region 2 with fail
  generalize w1.alloc (.cells #[.int .i64 1025, .slice a0 1 c0] 25) = w2 at *
  go_wp2_with fail
  refine HT2.out.mono ?_
  rintro e w3 ⟨rfl, hb3⟩
  go_wp2_with fail
  go_ret
  exact ⟨rfl, hx2.trans (hb3.mono hx2.size)⟩
end Go.Proofs.YtnemjfojlgjkfaaDoor
