/- boulterref40.in. -/
import Derived.Test.YtnemjfojlgjkfaaDoorSparseC
import Derived.BigQuiet
namespace Go.Proofs.YtnemjfojlgjkfaaDoor
open Go.RowKit

/-- the document's map lies at a block -/
def RMapAt (w : World) (g : Nat) (size : Int) (v : Value) : Prop := w.heap[g]? = some (.cells #[.int .i64 size, v] 31 (0, 0))
theorem RMapAt.c0 {w : World} {g : Nat} {a : Int} {b : Value} (h : RMapAt w g a b) : w.cell? ⟨g, 0, none⟩ = some (.int .i64 a) := by
  unfold RMapAt at h; simp [World.cell?, h]
theorem RMapAt.c1 {w : World} {g : Nat} {a : Int} {b : Value} (h : RMapAt w g a b) : w.cell? ⟨g, 1, none⟩ = some b := by
  unfold RMapAt at h; simp [World.cell?, h]
theorem RMapAt.lt {w : World} {g : Nat} {a : Int} {b : Value} (h : RMapAt w g a b) : g < w.heap.size := (Array.getElem?_eq_some_iff.1 h).1
theorem RMapAt.below {w w' : World} {g : Nat} {a : Int} {b : Value} (h : RMapAt w g a b) (hb : Below w.heap.size w w') : RMapAt w' g a b := (hb.block g h.lt).trans h
theorem RMapAt.new (w : World) (a : Int) (b : Value) : RMapAt (w.alloc (.cells #[.int .i64 a, b] 31)) w.heap.size a b := heap_alloc_new _ _
set_option maxRecDepth 100000 in
set_option maxHeartbeats 4000000 in
theorem rIn_any (size : Int) (l : List (Int × Int)) (v : Value) (x : Int) (w : World) (hv : PieV w v l) (hr : mapB size l = true) :
    Calls Tryd.prog 28 #[.agg #[.int .i64 size, v], .int .i64 x] w fun e w' => (∃ r : Int, e = .returned (.int .i64 r) ∧ decide (r < 0) = !hitB l x) ∧ Below w.heap.size w w' := by
  have hM0 := RMapAt.new w size v
  have hx0 := (Below.refl w.heap.size w).alloc (Nat.le_refl _) (.cells #[.int .i64 size, v] 31)
  have hV0 := hv.below hx0 (Nat.le_refl _)
  obtain ⟨g1, g2, g3⟩ := mapB_size hr
  have hmem := mapB_mem hr
  obtain ⟨a, c, rfl, hcell⟩ := hV0
  go_enter Tryd.func28, Tryd.ntmps28
  go_wp2_with fail
  generalize w.alloc (.cells #[.int .i64 size, .slice a l.length c] 31) = W0 at *
  have hc1 := hM0.c1
  go_loopw [5] (fun i wr => ∃ k : Nat, k ≤ l.length ∧ i = .int .i64 k ∧ hitB (l.drop k) x = hitB l x ∧ ∃ m, wr = W0.drewN m) (fun i _ => l.length - (intOf i).toNat)
  case atStart => exact ⟨0, by omega, rfl, rfl, 0, rfl⟩
  case round =>
    obtain ⟨k, hk, rfl, heq, hm⟩ := hrel
    have hc1' : wr.cell? ⟨w.heap.size, 1, none⟩ = some (.slice a l.length c) := by obtain ⟨m, rfl⟩ := hm; exact hc1
    have HX := Lib.hid (show Below w.heap.size w wr by obtain ⟨m, rfl⟩ := hm; exact belowDrewN hx0)
    by_cases hlt : k < l.length
    · obtain ⟨b, off, rfl, hbl, hcl⟩ := hcell (by omega)
      have hd := hit_drop l x k hlt
      have hy0 : wr.cell? ⟨b, off + k * 2, none⟩ = some (.int .i64 l[k].1) := by obtain ⟨m, rfl⟩ := hm; exact (hcl k hlt).1
      have hy1 : wr.cell? ⟨b, off + k * 2 + 1, none⟩ = some (.int .i64 l[k].2) := by obtain ⟨m, rfl⟩ := hm; exact (hcl k hlt).2
      have HM := Lib.hid hm
      obtain ⟨hp, hq, hpq⟩ := hmem l[k] (List.getElem_mem hlt)
      generalize l[k].1 = p at *
      generalize l[k].2 = q at *
      rw [heq] at hd
      have HD := Lib.hid hd
      clear hd heq hcl hcell hmem hM0 hv hx0 hr hm hc1
      by_cases hin1 : p ≤ x
      · have hd1 : decide (p ≤ x) = true := decide_eq_true hin1
        by_cases hin2 : x < p + q
        · have HN := Lib.hid (show hitB l x = true by rw [HD.out, decide_eq_true ⟨hin1, hin2⟩]; rfl)
          have hd2 : decide (x < p + q) = true := decide_eq_true hin2
          clear HD
          go_wp2_with fail
          go_quiet (fail)
          go_wp2_with fail
          go_ret
          exact ⟨⟨k, rfl, by rw [HN.out]; exact decide_eq_false (by omega)⟩, belowDrewN HX.out⟩
        · have HN := Lib.hid (show hitB (l.drop (k + 1)) x = hitB l x by rw [HD.out, decide_eq_false (fun g => hin2 g.2)]; rfl)
          have hd2 : decide (x < p + q) = false := decide_eq_false hin2
          clear HD
          go_wp2_with fail
          go_quiet (fail)
          go_wp2_with fail
          go_roundw
          case rel => exact ⟨k + 1, by omega, by go_num, HN.out, by obtain ⟨m, rfl⟩ := HM.out; exact ⟨m + nq, World.drewN_drewN ..⟩⟩
          case measure => simp [intOf]; omega
      · have HN := Lib.hid (show hitB (l.drop (k + 1)) x = hitB l x by rw [HD.out, decide_eq_false (fun g => hin1 g.1)]; rfl)
        have hd1 : decide (p ≤ x) = false := decide_eq_false hin1
        clear HD
        go_wp2_with fail
        go_quiet (fail)
        go_wp2_with fail
        go_roundw
        case rel => exact ⟨k + 1, by omega, by go_num, HN.out, by obtain ⟨m, rfl⟩ := HM.out; exact ⟨m + nq, World.drewN_drewN ..⟩⟩
        case measure => simp [intOf]; omega
    · have : k = l.length := by omega
      subst this
      rw [List.drop_length] at heq
      have HN := Lib.hid (show hitB l x = false by rw [← heq]; rfl)
      go_wp2
      go_ret
      exact ⟨⟨-1, rfl, by rw [HN.out]; rfl⟩, HX.out⟩
end Go.Proofs.YtnemjfojlgjkfaaDoor
