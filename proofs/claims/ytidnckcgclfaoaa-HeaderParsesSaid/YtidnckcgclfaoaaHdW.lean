/- The laws on heads: what they share: two heads held against each other; the chapter's example. -/
import Derived.Test.YtidnckcgclfaoaaHdO
import Derived.Test.YtidnckcgclfaoaaHdV
import Derived.Test.YtidnckcgclfaoaaHdJ
import Derived.Test.YtidnckcgclfaoaaHdU
namespace Go.Proofs.Ytidnckcgclfaoaa
open Go.RowKit Go.Lib

theorem eq_heads (a0 a1 : ByteArray) (a2 a3 a4 a5 a6 a7 : Int) (a8 a9 : ByteArray) (a10 a11 a12 : Int) (w : World) :
    (Op.equalIn 10000 23 (.agg #[.string a0, .string a1, .int .u8 a2, .int .i64 a3, .int .i64 a4, .int .i64 a5, .int .i64 a6, .int .i64 a7, .string a8, .string a9, .int .i64 a10, .int .i64 a11, .int .i64 a12])
      (.agg #[.string a0, .string a1, .int .u8 a2, .int .i64 a3, .int .i64 a4, .int .i64 a5, .int .i64 a6, .int .i64 a7, .string a8, .string a9, .int .i64 a10, .int .i64 a11, .int .i64 a12])).run Try.prog w = .ok true w := by
  rw [run_equalIn_agg w 9999 23 _ _ (by kernel_rfl) (by kernel_rfl)]
  simp [go_sem, Op.eqFields]
@[go_sem high] theorem guard_HV (op : BinOp) (x y : Operand) (h h2 : HeadL) (w : World) : (eqGuard op 23 x y (HV h) (HV h2)).run Try.prog w = .ok () w := by
  rw [HV_eq, HV_eq]
  exact run_eqGuard_agg (P := Try.prog) w op _ x y _ _ (by kernel_rfl)
@[go_sem high] theorem eql_HV (h : HeadL) (w : World) : (binOp .eql 23 (HV h) (HV h)).run Try.prog w = .ok (.bool true) w := by
  unfold HV
  rw [run_eql_struct, eq_heads]
  rfl
@[go_sem high] theorem neq_HV (h : HeadL) (w : World) : (binOp .neq 23 (HV h) (HV h)).run Try.prog w = .ok (.bool false) w := by
  unfold HV
  rw [run_neq_struct, eq_heads]
  rfl
@[go_sem high] theorem eql_cells (a0 a1 : ByteArray) (a2 a3 a4 a5 a6 a7 : Int) (a8 a9 : ByteArray) (a10 a11 a12 : Int) (w : World) :
    (binOp .eql 23 (.agg #[.string a0, .string a1, .int .u8 a2, .int .i64 a3, .int .i64 a4, .int .i64 a5, .int .i64 a6, .int .i64 a7, .string a8, .string a9, .int .i64 a10, .int .i64 a11, .int .i64 a12])
      (.agg #[.string a0, .string a1, .int .u8 a2, .int .i64 a3, .int .i64 a4, .int .i64 a5, .int .i64 a6, .int .i64 a7, .string a8, .string a9, .int .i64 a10, .int .i64 a11, .int .i64 a12])).run Try.prog w = .ok (.bool true) w := by
  rw [run_eql_struct, eq_heads]
  rfl
def exH : HeadL := ⟨[97], [], 48, 420, 0, 0, 0, 0, [], [], 0, 0, 0⟩
theorem exH_fits : fitsN exH = 0 := by
  have hp : partO exH = true := by unfold partO partF; rw [if_pos (by decide)]
  refine (fits_iff exH).2 ⟨⟨rfl, rfl, rfl, rfl⟩, ⟨hp, by decide, by decide, by decide⟩, by decide, by decide, by decide, by decide, by decide, by decide, by decide⟩
set_option maxRecDepth 100000 in
theorem awake05 (w : World) : Calls Try.prog 6 #[] w fun e w' => e = .returned (.bool true) ∧ Below w.heap.size w w' := by
  have HB := Lib.hid (hBuild_yes exH w ⟨by decide, by decide, by decide, by decide⟩ ⟨rfl, rfl, rfl, rfl, rfl, rfl, rfl⟩ exH_fits)
  have hr := build_fields exH exH_fits
  have hl : (buildN exH).length = 512 := hr.len
  have hlI : ((buildN exH).length : Int) = 512 := by omega
  have hlb : (((buildN exH).length : Int) == 512) = true := by rw [hlI]; rfl
  have hx : (S (buildN exH)).extract 100 108 = S [48, 48, 48, 48, 54, 52, 52, 0] := by
    rw [fld_ext]
    show S (fldL (buildN exH) 100 8) = _
    rw [hr.mode]
    rfl
  have h1 : (100 : Int) ≤ ((buildN exH).length : Int) := by omega
  have h2 : (108 : Int) ≤ ((buildN exH).length : Int) := by omega
  generalize buildN exH = B at *
  clear hr hl
  go_enter Try.func6, Try.ntmps6
  go_wp2_with fail
  refine HB.out.mono ?_
  rintro e w1 ⟨rfl, hb1⟩
  go_wp2_with fail
  go_ret
  exact ⟨rfl, hb1⟩
end Go.Proofs.Ytidnckcgclfaoaa
