/- sparse.Map.Right. -/
import Derived.Test.YtnemjfojlgjkfaaDoorSparseA
namespace Go.Proofs.YtnemjfojlgjkfaaDoor
open Go.RowKit

theorem pieB_drop (size e : Int) (l : List (Int × Int)) (k : Nat) (h : k < l.length) : pieB size e (l.drop k) = if l[k].1 < e ∨ l[k].2 < 1 ∨ size < l[k].1 ∨ size - l[k].1 < l[k].2 then false else pieB size (l[k].1 + l[k].2) (l.drop (k + 1)) := by
  rw [List.drop_eq_getElem_cons h]; rfl
/-- a map lies at a block -/
def MapAt (w : World) (g : Nat) (size : Int) (v : Value) : Prop := w.heap[g]? = some (.cells #[.int .i64 size, v] 25 (0, 0))
theorem MapAt.c0 {w : World} {g : Nat} {a : Int} {b : Value} (h : MapAt w g a b) : w.cell? ⟨g, 0, none⟩ = some (.int .i64 a) := by
  unfold MapAt at h; simp [World.cell?, h]
theorem MapAt.c1 {w : World} {g : Nat} {a : Int} {b : Value} (h : MapAt w g a b) : w.cell? ⟨g, 1, none⟩ = some b := by
  unfold MapAt at h; simp [World.cell?, h]
theorem MapAt.lt {w : World} {g : Nat} {a : Int} {b : Value} (h : MapAt w g a b) : g < w.heap.size := (Array.getElem?_eq_some_iff.1 h).1
theorem MapAt.below {w w' : World} {g : Nat} {a : Int} {b : Value} (h : MapAt w g a b) (hb : Below w.heap.size w w') : MapAt w' g a b := (hb.block g h.lt).trans h
theorem MapAt.new (w : World) (a : Int) (b : Value) : MapAt (w.alloc (.cells #[.int .i64 a, b] 25)) w.heap.size a b := heap_alloc_new _ _
set_option maxRecDepth 100000 in
set_option maxHeartbeats 4000000 in
theorem Right_any (size : Int) (l : List (Int × Int)) (v : Value) (w : World) (hv : PieV w v l) :
    Calls Tryd.prog 13 #[.agg #[.int .i64 size, v]] w fun e w' => e = .returned (.bool (mapB size l)) ∧ Below w.heap.size w w' := by
  have hV := hv
  obtain ⟨a, c, rfl, hv⟩ := hv
  by_cases hbig : size < 0 ∨ 1099511627776 < size ∨ 4096 < l.length
  · have HB := Lib.hid (show mapB size l = false by unfold mapB; rw [if_pos hbig])
    go_enter Tryd.func13, Tryd.ntmps13
    go_wp2
    all_goals
      go_ret
      exact ⟨by rw [HB.out]; rfl, (Below.refl _ _).alloc (Nat.le_refl _) _⟩
  · have HB := Lib.hid (show mapB size l = pieB size 0 l by unfold mapB; rw [if_neg hbig])
    have h1 : 0 ≤ size := by omega
    have h2 : size ≤ 1099511627776 := by omega
    have h3 : l.length ≤ 4096 := by omega
    clear hbig
    go_enter Tryd.func13, Tryd.ntmps13
    go_wp2
    have hM0 := MapAt.new w size (.slice a l.length c)
    have hB0 := (Below.refl w.heap.size w).alloc (Nat.le_refl _) (.cells #[.int .i64 size, .slice a l.length c] 25)
    go_loopw [3, 23] (fun e i wr => ∃ (k : Nat) (en : Int), k ≤ l.length ∧ e = .int .i64 en ∧ i = .int .i64 k ∧ 0 ≤ en ∧ en ≤ size ∧ pieB size en (l.drop k) = mapB size l ∧ Below w.heap.size w wr ∧ MapAt wr w.heap.size size (.slice a l.length c)) (fun _ i _ => l.length - (intOf i).toNat)
    case atStart => exact ⟨0, 0, by omega, rfl, rfl, by omega, h1, HB.out.symm, hB0, hM0⟩
    case round =>
      obtain ⟨k, en, hk, rfl, rfl, he0, he1, heq, hb, hM⟩ := hrel
      have hc0 := hM.c0
      have hc1 := hM.c1
      by_cases hlt : k < l.length
      · obtain ⟨b, off, rfl, hbl, hcell⟩ := hv (by omega)
        have hd := pieB_drop size en l k hlt
        have hx0 := (hb.cell (p := ⟨b, off + k * 2, none⟩) hbl).trans (hcell k hlt).1
        have hx1 := (hb.cell (p := ⟨b, off + k * 2 + 1, none⟩) hbl).trans (hcell k hlt).2
        generalize l[k].1 = x at hd hx0
        generalize l[k].2 = y at hd hx1
        rw [heq] at hd
        have HD := Lib.hid hd
        have HE := Lib.hid heq
        have HBl := Lib.hid hb
        have HM := Lib.hid hM
        clear hd heq hcell hv hV hM0 hB0 HB
        have hM2 := hM.below ((Below.refl wr.heap.size wr).alloc (Nat.le_refl _) (.cells #[.int .i64 x, .int .i64 y] 57))
        have hc2 := hM2.c0
        have HM2 := Lib.hid hM2
        have HB2 := Lib.hid (hb.alloc (by have := hb.size; omega) (.cells #[.int .i64 x, .int .i64 y] 57))
        clear hM2
        by_cases hbad : x < en ∨ y < 1 ∨ size < x ∨ size - x < y
        · have HN := Lib.hid (HD.out.trans (if_pos hbad))
          clear HD
          go_wp2
          all_goals
            go_ret
            exact ⟨by rw [HN.out]; rfl, HB2.out⟩
        · have HN := Lib.hid (HD.out.trans (if_neg hbad))
          clear HD
          go_wp2
          go_roundw
          case rel => exact ⟨k + 1, x + y, by omega, by go_num, by go_num, by omega, by omega, HN.out.symm, HB2.out, HM2.out⟩
          case measure => simp [intOf]; omega
      · have : k = l.length := by omega
        subst this
        rw [List.drop_length] at heq
        have HE := Lib.hid heq
        go_wp2
        go_ret
        exact ⟨by rw [← HE.out]; rfl, hb⟩
end Go.Proofs.YtnemjfojlgjkfaaDoor
