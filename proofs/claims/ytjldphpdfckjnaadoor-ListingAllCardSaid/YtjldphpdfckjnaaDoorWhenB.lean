import Derived.Test.YtjldphpdfckjnaaDoorWhenP
import Derived.Deep.RegionHeld3
namespace Go.Proofs.YtjldphpdfckjnaaDoor
open Go.RowKit

theorem mon_index (f : Int) (w : World) : ∀ k : Nat, k < 12 → (Instr.index 182 (MonV f) (.int .i64 k)).run Tryd.prog w = .ok (.int .i64 (monAt f k)) w
  | 0, _ => by kernel_rfl
  | 1, _ => by kernel_rfl
  | 2, _ => by kernel_rfl
  | 3, _ => by kernel_rfl
  | 4, _ => by kernel_rfl
  | 5, _ => by kernel_rfl
  | 6, _ => by kernel_rfl
  | 7, _ => by kernel_rfl
  | 8, _ => by kernel_rfl
  | 9, _ => by kernel_rfl
  | 10, _ => by kernel_rfl
  | 11, _ => by kernel_rfl
  | k + 12, h => absurd h (by omega)
theorem mon_index_int (f m : Int) (h1 : 1 ≤ m) (h2 : m ≤ 12) (w : World) : (Instr.index 182 (MonV f) (.int .i64 (m - 1))).run Tryd.prog w = .ok (.int .i64 (monAt f (m.toNat - 1))) w := by
  have := mon_index f w (m.toNat - 1) (by omega)
  rwa [show ((m.toNat - 1 : Nat) : Int) = m - 1 by omega] at this
theorem slice_mon (b : Nat) (m : Int) (h1 : 1 ≤ m) (h2 : m ≤ 12) (w : World) :
    (Instr.sliceAt 182 (.pointer (some ⟨b, 0, none⟩)) none (some (.int .i64 (m - 1))) none).run Tryd.prog w = .ok (.slice (some ⟨b, 0, none⟩) (m.toNat - 1) 12) w := by
  have hal : Tryd.prog.arrayLen 182 = 12 := by kernel_rfl
  have hel : (sizeOf (Tryd.prog.elem 182)).run Tryd.prog w = .ok 1 w := by kernel_rfl
  have hu : Tryd.prog.underlying 182 = some (.array (Tryd.prog.arrayLen 182) (Tryd.prog.elem 182)) := by kernel_rfl
  have h := run_sliceAt_array_h (P := Tryd.prog) w 182 ⟨b, 0, none⟩ hu .i64 (m - 1) (by omega) (by rw [hal]; omega)
  rw [h, hel, hal]
  simp [slicedAt, Addr.add_lit]
theorem mon_cell (f : Int) : ∀ k : Nat, k < 12 → (#[Value.int IntKind.i64 31, Value.int IntKind.i64 f, Value.int IntKind.i64 31, Value.int IntKind.i64 30,
      Value.int IntKind.i64 31, Value.int IntKind.i64 30, Value.int IntKind.i64 31, Value.int IntKind.i64 31,
      Value.int IntKind.i64 30, Value.int IntKind.i64 31, Value.int IntKind.i64 30, Value.int IntKind.i64 31] : Array Value)[k]? = some (Value.int .i64 (monAt f k))
  | 0, _ => rfl
  | 1, _ => rfl
  | 2, _ => rfl
  | 3, _ => rfl
  | 4, _ => rfl
  | 5, _ => rfl
  | 6, _ => rfl
  | 7, _ => rfl
  | 8, _ => rfl
  | 9, _ => rfl
  | 10, _ => rfl
  | 11, _ => rfl
  | k + 12, h => absurd h (by omega)
end Go.Proofs.YtjldphpdfckjnaaDoor
