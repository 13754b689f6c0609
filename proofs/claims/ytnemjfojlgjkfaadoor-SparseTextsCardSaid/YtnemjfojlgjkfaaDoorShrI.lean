/- The law's same, the document's Len, walked. -/
import Derived.Test.YtnemjfojlgjkfaaDoorShrH
import Derived.BigQuiet
namespace Go.Proofs.YtnemjfojlgjkfaaDoor
open Go.RowKit

@[go_sem high] theorem neq_pie (x y : Int) (w : World) :
    (binOp .neq 58 (.agg #[.int .i64 x, .int .i64 y]) (.agg #[.int .i64 x, .int .i64 y])).run Tryd.prog w = .ok (.bool false) w := by
  rw [run_neq_struct]
  rw [show Op.equalIn = Op.equalIn from rfl]
  have : (Op.equalIn 10000 58 (.agg #[.int .i64 x, .int .i64 y]) (.agg #[.int .i64 x, .int .i64 y])).run Tryd.prog w = .ok true w := by
    rw [run_equalIn_agg w 9999 58 _ _ (by kernel_rfl) (by kernel_rfl)]
    simp [go_sem, Op.eqFields]
  rw [this]
  simp
set_option maxRecDepth 100000 in
set_option maxHeartbeats 4000000 in
theorem same_yes (size : Int) (l : Pcs) (v u : Value) (w : World) (hv : PieV w v l) (hu : PieV w u l) (hl : l.length ≤ 4096) :
    Calls Tryd.prog 11 #[.agg #[.int .i64 size, v], .agg #[.int .i64 size, u]] w fun e w' => e = .returned (.bool true) ∧ Below w.heap.size w w' := by
  have hM0 := RMapAt.new w size v
  have hx0 := (Below.refl w.heap.size w).alloc (Nat.le_refl _) (.cells #[.int .i64 size, v] 31)
  have hx1 := hx0.alloc hx0.size (.cells #[.int .i64 size, u] 31)
  have hM1 : RMapAt _ w.heap.size size v := hM0.below ((Below.refl _ _).alloc (Nat.le_refl _) (.cells #[.int .i64 size, u] 31))
  have hR1 : RMapAt ((w.alloc (.cells #[.int .i64 size, v] 31)).alloc (.cells #[.int .i64 size, u] 31)) (w.heap.size + 1) size u := by
    have := RMapAt.new (w.alloc (.cells #[.int .i64 size, v] 31)) size u
    simpa using this
  have m0 := hM1.c0
  have m1 := hM1.c1
  have q0 := hR1.c0
  have q1 := hR1.c1
  obtain ⟨a, c, rfl, hca⟩ := hv
  obtain ⟨a', c', rfl, hcb⟩ := hu
  have hlI : (l.length : Int) ≤ 4096 := by omega
  go_enter Tryd.func11, Tryd.ntmps11
  go_upto_region 1 with fail
  generalize (w.alloc (.cells #[.int .i64 size, .slice a l.length c] 31)).alloc (.cells #[.int .i64 size, .slice a' l.length c'] 31) = W1 at *
  clear hM0 hM1 hR1 hx0
  go_wp2_with fail
  go_loopw [23] (fun v23 wr => ∃ k : Nat, v23 = .int .i64 k ∧ k ≤ l.length ∧ ∃ m, wr = W1.drewN m) (fun v23 _ => l.length - (intOf v23).toNat)
  case atStart => exact ⟨0, rfl, Nat.zero_le _, 0, rfl⟩
  case round =>
    obtain ⟨k, rfl, hk, hm⟩ := hrel
    have hb : Below w.heap.size w wr := by obtain ⟨m, rfl⟩ := hm; exact belowDrewN hx1
    have n1 : wr.cell? ⟨w.heap.size, 1, none⟩ = some (.slice a l.length c) := by obtain ⟨m, rfl⟩ := hm; exact m1
    have s1 : wr.cell? ⟨w.heap.size + 1, 1, none⟩ = some (.slice a' l.length c') := by obtain ⟨m, rfl⟩ := hm; exact q1
    have HM := Lib.hid hm
    clear hm
    by_cases hlt : k < l.length
    · obtain ⟨b, off, rfl, hbl, hcl⟩ := hca (by omega)
      obtain ⟨b', off', rfl, hbl', hcl'⟩ := hcb (by omega)
      have hkI : (k : Int) < (l.length : Int) := by omega
      have hk0 : (0 : Int) ≤ (k : Int) := by omega
      have y0 := (hb.cell (p := ⟨b, off + k * 2, none⟩) hbl).trans (hcl k hlt).1
      have y1 := (hb.cell (p := ⟨b, off + k * 2 + 1, none⟩) hbl).trans (hcl k hlt).2
      have y2 := (hb.cell (p := ⟨b', off' + k * 2, none⟩) hbl').trans (hcl' k hlt).1
      have y3 := (hb.cell (p := ⟨b', off' + k * 2 + 1, none⟩) hbl').trans (hcl' k hlt).2
      generalize l[k].1 = x at *
      generalize l[k].2 = y at *
      clear hcl hcl' hca hcb m0 m1 q0 q1
      go_upto_region 6 with fail
      go_quiet (fail)
      go_wp2_with fail
      go_roundw
      case rel => exact ⟨k + 1, by go_num, by omega, by obtain ⟨m, rfl⟩ := HM.out; exact ⟨m + nq, World.drewN_drewN ..⟩⟩
      case measure => simp [intOf]; omega
    · have hk2 : k = l.length := by omega
      subst hk2
      go_wp2_with fail
      go_ret
      exact ⟨rfl, hb⟩
set_option maxRecDepth 100000 in
set_option maxHeartbeats 4000000 in
theorem rLen_any40 (size : Int) (l : Pcs) (v : Value) (w : World) (hv : PieV w v l) (hr : mapB size l = true) :
    Calls Tryd.prog 19 #[.agg #[.int .i64 size, v]] w fun e w' => e = .returned (.int .i64 (pieLen l)) ∧ Below w.heap.size w w' := by
  have hM0 := RMapAt.new w size v
  have hx0 := (Below.refl w.heap.size w).alloc (Nat.le_refl _) (.cells #[.int .i64 size, v] 31)
  obtain ⟨g1, g2, g3⟩ := mapB_size hr
  have hmem := mapB_mem hr
  have m1 := hM0.c1
  obtain ⟨a, c, rfl, hca⟩ := hv
  have hlI : (l.length : Int) ≤ 4096 := by omega
  go_enter Tryd.func19, Tryd.ntmps19
  go_upto_region 2 with fail
  generalize w.alloc (.cells #[.int .i64 size, .slice a l.length c] 31) = W1 at *
  go_wp2_with fail
  go_loop [3, 4] (fun v3 v4 => ∃ (k : Nat) (m : Int), v4 = .int .i64 k ∧ v3 = .int .i64 m ∧ k ≤ l.length ∧ 0 ≤ m ∧ m ≤ k * 1099511627776 ∧ m + pieLen (l.drop k) = pieLen l) (fun _ v4 => l.length - (intOf v4).toNat)
  case atStart => exact ⟨0, 0, rfl, rfl, Nat.zero_le _, by omega, by omega, by simp⟩
  case round =>
    obtain ⟨k, m, rfl, rfl, hk, hm0, hm1, heq⟩ := hrel
    by_cases hlt : k < l.length
    · obtain ⟨b, off, rfl, hbl, hcl⟩ := hca (by omega)
      have hkI : (k : Int) < (l.length : Int) := by omega
      have y1 := (hx0.cell (p := ⟨b, off + k * 2 + 1, none⟩) hbl).trans (hcl k hlt).2
      have hd := pieLen_drop l k hlt
      obtain ⟨hp, hq, hpq⟩ := hmem l[k] (List.getElem_mem hlt)
      generalize l[k].1 = x at *
      generalize l[k].2 = y at *
      have HN := Lib.hid (show m + y + pieLen (l.drop (k + 1)) = pieLen l by omega)
      have hk2 : (k : Int) ≤ 4096 := by omega
      have hq2 : y ≤ 1099511627776 := by omega
      clear hcl hca hd heq hmem hM0 hx0 hr
      go_wp2_with fail
      go_round
      case rel => exact ⟨k + 1, m + y, by go_num, by go_num, by omega, by omega, by push_cast; omega, HN.out⟩
      case measure => simp [intOf]; omega
    · have hk2 : k = l.length := by omega
      subst hk2
      rw [List.drop_length] at heq
      have HN := Lib.hid (show m = pieLen l by rw [← heq]; exact (Int.add_zero _).symm)
      clear heq
      go_wp2_with fail
      go_ret
      exact ⟨by rw [HN.out]; rfl, hx0⟩
end Go.Proofs.YtnemjfojlgjkfaaDoor
