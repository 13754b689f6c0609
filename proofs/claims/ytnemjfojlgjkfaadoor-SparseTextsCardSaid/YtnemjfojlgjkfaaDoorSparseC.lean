/- sparse.Map.Hole. -/
import Derived.Test.YtnemjfojlgjkfaaDoorSparseB
namespace Go.Proofs.YtnemjfojlgjkfaaDoor
open Go.RowKit

theorem mapB_size {size : Int} {l : List (Int × Int)} (h : mapB size l = true) : 0 ≤ size ∧ size ≤ 1099511627776 ∧ l.length ≤ 4096 := by
  unfold mapB at h
  split at h
  · cases h
  · omega
theorem mapB_mem {size : Int} {l : List (Int × Int)} (h : mapB size l = true) : ∀ p ∈ l, 0 ≤ p.1 ∧ 1 ≤ p.2 ∧ p.1 + p.2 ≤ size := by
  unfold mapB at h
  split at h
  · cases h
  · exact pieB_mem _ _ _ h
def hitB (l : List (Int × Int)) (x : Int) : Bool := l.any fun p => decide (p.1 ≤ x ∧ x < p.1 + p.2)
theorem hit_drop (l : List (Int × Int)) (x : Int) (k : Nat) (h : k < l.length) : hitB (l.drop k) x = (decide (l[k].1 ≤ x ∧ x < l[k].1 + l[k].2) || hitB (l.drop (k + 1)) x) := by
  rw [List.drop_eq_getElem_cons h]; rfl
theorem hole_hit (size : Int) (l : List (Int × Int)) (x : Int) (h0 : 0 ≤ x) (h1 : x < size) : holeB size l x = !hitB l x := by
  unfold holeB hitB
  rw [Bool.eq_iff_iff]
  simp [h0, h1]
def sHole (size : Int) (l : List (Int × Int)) (x : Int) : Bool := mapB size l && holeB size l x
set_option maxRecDepth 100000 in
set_option maxHeartbeats 4000000 in
theorem Hole_any (size : Int) (l : List (Int × Int)) (v : Value) (x : Int) (w : World) (hv : PieV w v l) :
    Calls Tryd.prog 17 #[.agg #[.int .i64 size, v], .int .i64 x] w fun e w' => e = .returned (.bool (sHole size l x)) ∧ Below w.heap.size w w' := by
  have hM0 := MapAt.new w size v
  have hx0 := (Below.refl w.heap.size w).alloc (Nat.le_refl _) (.cells #[.int .i64 size, v] 25)
  have hV0 := hv.below hx0 (Nat.le_refl _)
  have HR := Lib.hid (Right_any size l v _ hV0)
  by_cases hr : mapB size l = true ∧ 0 ≤ x ∧ x < size
  · obtain ⟨hr, h1, h2⟩ := hr
    obtain ⟨g1, g2, g3⟩ := mapB_size hr
    have hmem := mapB_mem hr
    have HB := Lib.hid (show sHole size l x = !hitB l x by unfold sHole; rw [hr, hole_hit _ _ _ h1 h2]; rfl)
    rw [hr] at HR
    go_enter Tryd.func17, Tryd.ntmps17
    go_wp2_with fail
    refine HR.out.mono ?_
    rintro e w1 ⟨rfl, hb1⟩
    have hM1 := hM0.below hb1
    have hV1 := hV0.below hb1 (Nat.le_refl _)
    have hx1 : Below w.heap.size w w1 := hx0.trans (hb1.mono hx0.size)
    have hc0 := hM1.c0
    have hc1 := hM1.c1
    obtain ⟨a, c, rfl, hcell⟩ := hV1
    go_wp2_with fail
    go_loopw [23] (fun i wr => ∃ k : Nat, k ≤ l.length ∧ i = .int .i64 k ∧ hitB (l.drop k) x = hitB l x ∧ Below w.heap.size w wr ∧ Below w1.heap.size w1 wr) (fun i _ => l.length - (intOf i).toNat)
    case atStart => exact ⟨0, by omega, rfl, rfl, hx1, Below.refl _ _⟩
    case round =>
      obtain ⟨k, hk, rfl, heq, hb, hbw⟩ := hrel
      by_cases hlt : k < l.length
      · obtain ⟨b, off, rfl, hbl, hcl⟩ := hcell (by omega)
        have hd := hit_drop l x k hlt
        have hy0 := (hbw.cell (p := ⟨b, off + k * 2, none⟩) hbl).trans (hcl k hlt).1
        have hy1 := (hbw.cell (p := ⟨b, off + k * 2 + 1, none⟩) hbl).trans (hcl k hlt).2
        obtain ⟨hp, hq, hpq⟩ := hmem l[k] (List.getElem_mem hlt)
        generalize l[k].1 = p at *
        generalize l[k].2 = q at *
        rw [heq] at hd
        have HD := Lib.hid hd
        have HX := Lib.hid (hb.alloc (by have := hb.size; omega) (.cells #[.int .i64 p, .int .i64 q] 57))
        have HW := Lib.hid (hbw.alloc (by have := hbw.size; omega) (.cells #[.int .i64 p, .int .i64 q] 57))
        clear hd heq hcl hcell hmem hM0 hV0 hM1 hv hb1 HR
        by_cases hin : p ≤ x ∧ x < p + q
        · have HN := Lib.hid (show sHole size l x = false by rw [HB.out, HD.out, decide_eq_true hin]; rfl)
          clear HD
          go_wp2
          all_goals
            go_ret
            exact ⟨by rw [HN.out]; rfl, HX.out⟩
        · have HN := Lib.hid (show hitB (l.drop (k + 1)) x = hitB l x by rw [HD.out, decide_eq_false hin]; rfl)
          clear HD
          go_wp2
          all_goals
            go_roundw
            case rel => exact ⟨k + 1, by omega, by go_num, HN.out, HX.out, HW.out⟩
            case measure => simp [intOf]; omega
      · have : k = l.length := by omega
        subst this
        rw [List.drop_length] at heq
        have HN := Lib.hid (show sHole size l x = true by rw [HB.out, ← heq]; rfl)
        go_wp2
        go_ret
        exact ⟨by rw [HN.out]; rfl, hb⟩
  · have HB := Lib.hid (show sHole size l x = false by
      unfold sHole holeB
      rw [Bool.and_eq_false_iff]
      by_cases h : mapB size l = true
      · exact Or.inr (decide_eq_false_iff_not.2 fun g => hr ⟨h, g.1, g.2.1⟩)
      · exact Or.inl (by simpa using h))
    go_enter Tryd.func17, Tryd.ntmps17
    go_wp2_with fail
    refine HR.out.mono ?_
    rintro e w1 ⟨rfl, hb1⟩
    have hM1 := hM0.below hb1
    have hx1 : Below w.heap.size w w1 := hx0.trans (hb1.mono hx0.size)
    have hc0 := hM1.c0
    clear hM0 hV0 hM1 hv
    by_cases hm : mapB size l = true
    · have hr2 : x < 0 ∨ size ≤ x := by
        by_cases h : x < 0
        · exact Or.inl h
        · exact Or.inr (by rcases Int.lt_or_le x size with g | g; exact (hr ⟨hm, by omega, g⟩).elim; exact g)
      clear hr
      rw [hm] at *
      go_wp2
      all_goals
        go_ret
        exact ⟨by rw [HB.out]; rfl, hx1⟩
    · have hm : mapB size l = false := by simpa using hm
      clear hr
      rw [hm] at *
      go_wp2
      all_goals
        go_ret
        exact ⟨by rw [HB.out]; rfl, hx1⟩
end Go.Proofs.YtnemjfojlgjkfaaDoor
