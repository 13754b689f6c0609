import Derived.Test.YtjaiadfpdkjkpaaDoorWhenP
import Derived.Deep.RegionHeld3
namespace Go.Proofs.YtjaiadfpdkjkpaaDoor
open Go.RowKit

theorem mon_index (f : Int) (w : World) : ∀ k : Nat, k < 12 → (Instr.index 87 (MonV f) (.int .i64 k)).run Tryd.prog w = .ok (.int .i64 (monAt f k)) w
  | 0, _ => by kernel_rfl
  | 1, _ => by kernel_rfl
  | 2, _ => by kernel_rfl
  | 3, _ => by kernel_rfl
  | 4, _ => by kernel_rfl
  | 5, _ => by kernel_rfl
  | 6, _ => by kernel_rfl
  | 7, _ => by kernel_rfl
  | 8, _ => by kernel_rfl
  | 9, _ => by kernel_rfl
  | 10, _ => by kernel_rfl
  | 11, _ => by kernel_rfl
  | k + 12, h => absurd h (by omega)
theorem mon_index_int (f m : Int) (h1 : 1 ≤ m) (h2 : m ≤ 12) (w : World) : (Instr.index 87 (MonV f) (.int .i64 (m - 1))).run Tryd.prog w = .ok (.int .i64 (monAt f (m.toNat - 1))) w := by
  have := mon_index f w (m.toNat - 1) (by omega)
  rwa [show ((m.toNat - 1 : Nat) : Int) = m - 1 by omega] at this
theorem slice_mon (b : Nat) (m : Int) (h1 : 1 ≤ m) (h2 : m ≤ 12) (w : World) :
    (Instr.sliceAt 87 (.pointer (some ⟨b, 0, none⟩)) none (some (.int .i64 (m - 1))) none).run Tryd.prog w = .ok (.slice (some ⟨b, 0, none⟩) (m.toNat - 1) 12) w := by
  have hal : Tryd.prog.arrayLen 87 = 12 := by kernel_rfl
  have hel : (sizeOf (Tryd.prog.elem 87)).run Tryd.prog w = .ok 1 w := by kernel_rfl
  have hu : Tryd.prog.underlying 87 = some (.array (Tryd.prog.arrayLen 87) (Tryd.prog.elem 87)) := by kernel_rfl
  have h := run_sliceAt_array_h (P := Tryd.prog) w 87 ⟨b, 0, none⟩ hu .i64 (m - 1) (by omega) (by rw [hal]; omega)
  rw [h, hel, hal]
  simp [slicedAt, Addr.add_lit]
theorem mon_cell (f : Int) : ∀ k : Nat, k < 12 → (#[Value.int IntKind.i64 31, Value.int IntKind.i64 f, Value.int IntKind.i64 31, Value.int IntKind.i64 30,
      Value.int IntKind.i64 31, Value.int IntKind.i64 30, Value.int IntKind.i64 31, Value.int IntKind.i64 31,
      Value.int IntKind.i64 30, Value.int IntKind.i64 31, Value.int IntKind.i64 30, Value.int IntKind.i64 31] : Array Value)[k]? = some (Value.int .i64 (monAt f k))
  | 0, _ => rfl
  | 1, _ => rfl
  | 2, _ => rfl
  | 3, _ => rfl
  | 4, _ => rfl
  | 5, _ => rfl
  | 6, _ => rfl
  | 7, _ => rfl
  | 8, _ => rfl
  | 9, _ => rfl
  | 10, _ => rfl
  | 11, _ => rfl
  | k + 12, h => absurd h (by omega)
def NumV (n e : Int) : Value := .tuple #[.int .i64 n, .int .i64 e]

set_option maxRecDepth 100000 in
set_option maxHeartbeats 1000000 in
theorem number_no (y m d : Int) (w : World) (h : mayB y m d = false) (y0 : -9223372036854775808 ≤ y) (y1 : y ≤ 9223372036854775807) (m0 : -9223372036854775808 ≤ m) (m1 : m ≤ 9223372036854775807) (d0 : -9223372036854775808 ≤ d) (d1 : d ≤ 9223372036854775807) :
    Calls Tryd.prog 77 #[.int .i64 y, .int .i64 m, .int .i64 d] w fun e w' => e = .returned (NumV 0 2) ∧ Below w.heap.size w w' := by
  have h' := (may_not y m d).1 h
  clear h
  by_cases a1 : y < 1
  · clear h'
    go_enter Tryd.func77, Tryd.ntmps77
    go_wp2
    go_ret2
    exact ⟨rfl, Below.refl _ _⟩
  by_cases a2 : 9999 < y
  · clear h'
    go_enter Tryd.func77, Tryd.ntmps77
    go_wp2
    go_ret2
    exact ⟨rfl, Below.refl _ _⟩
  by_cases a3 : m < 1
  · clear h'
    go_enter Tryd.func77, Tryd.ntmps77
    go_wp2
    go_ret2
    exact ⟨rfl, Below.refl _ _⟩
  by_cases a4 : 12 < m
  · clear h'
    go_enter Tryd.func77, Tryd.ntmps77
    go_wp2
    go_ret2
    exact ⟨rfl, Below.refl _ _⟩
  by_cases a5 : d < 1
  · clear h'
    go_enter Tryd.func77, Tryd.ntmps77
    go_wp2
    go_ret2
    exact ⟨rfl, Below.refl _ _⟩
  have a6 : monAt (febI y) (m.toNat - 1) < d := by
    have := len_mon y m (by omega) (by omega)
    rw [this] at h'
    omega
  clear h'
  have hi := mon_index_int (febI y) m (by omega) (by omega)
  go_enter Tryd.func77, Tryd.ntmps77
  go_wp2_with fail
  refine (months_any y _ (by omega) (by omega)).mono ?_
  rintro e w1 ⟨rfl, hb⟩
  go_wp2
  go_ret2
  exact ⟨rfl, hb⟩

set_option maxRecDepth 100000 in
set_option maxHeartbeats 1000000 in
theorem number_yes (y m d : Int) (w : World) (h : mayB y m d = true) :
    Calls Tryd.prog 77 #[.int .i64 y, .int .i64 m, .int .i64 d] w fun e w' => e = .returned (NumV (numI y m d) 0) ∧ Below w.heap.size w w' := by
  obtain ⟨h1, h2, h3, h4, h5, h6⟩ := (may_iff y m d).1 h
  clear h
  have hL := len_mon y m h3 h4
  have hf := feb_bd y
  have hmb := mon_bd (febI y) (m.toNat - 1) hf (by omega)
  rw [hL] at h6
  clear hL
  have hA := ahead_bd y h1 (by omega)
  have hi := mon_index_int (febI y) m h3 h4
  have hd : d ≤ 31 := by omega
  go_enter Tryd.func77, Tryd.ntmps77
  go_wp2_with fail
  refine (months_any y _ (by omega) (by omega)).mono ?_
  rintro e w1 ⟨rfl, hb⟩
  go_wp2_with fail
  refine (ahead_any y _ (by omega) (by omega)).mono ?_
  rintro e w' ⟨rfl, rfl⟩
  go_wp2_with fail
  refine (months_any y _ (by omega) (by omega)).mono ?_
  rintro e w2 ⟨rfl, hb2⟩
  have hB : Below w.heap.size w w2 := hb.trans (hb2.mono (by have := hb.size; omega))
  unfold MonV
  have hsl := fun b w => slice_mon b m h3 h4 w
  go_wp2
  go_loop [8, 51] (fun s i => ∃ k : Nat, k ≤ m.toNat - 1 ∧ i = .int .i64 k ∧ s = .int .i64 (aheadI y - 719162 + d - 1 + cumI (febI y) k)) (fun _ i => m.toNat - 1 - (intOf i).toNat)
  case atStart => exact ⟨0, by omega, rfl, by rw [cum_0, Int.add_zero]⟩
  case round =>
    obtain ⟨k, hk, rfl, rfl⟩ := hrel
    have hcb := cum_bd (febI y) k hf (by omega)
    by_cases hlt : k < m.toNat - 1
    · have hmk := mon_bd (febI y) k hf (by omega)
      have hcs := cum_succ (febI y) k (by omega)
      have HS : Hid _ := hcs
      clear hcs
      have hcell := mon_cell (febI y) k (by omega)
      go_wp2
      go_round
      case rel => exact ⟨k + 1, by omega, by go_num, by rw [HS.out]; go_num⟩
      case measure => simp [intOf]; omega
    · have hk2 : k = m.toNat - 1 := by omega
      subst hk2
      go_wp2
      go_ret2
      exact ⟨rfl, hB.trans ((Below.refl _ _).alloc hB.size _)⟩
end Go.Proofs.YtjaiadfpdkjkpaaDoor
