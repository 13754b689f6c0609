/- sparse.Map.Len. -/
import Derived.Test.YtnemjfojlgjkfaaDoorSparseC
namespace Go.Proofs.YtnemjfojlgjkfaaDoor
open Go.RowKit

theorem pieLen_drop (l : List (Int × Int)) (k : Nat) (h : k < l.length) : pieLen (l.drop k) = l[k].2 + pieLen (l.drop (k + 1)) := by
  rw [List.drop_eq_getElem_cons h]; rfl
def sLen (size : Int) (l : List (Int × Int)) : Int := if mapB size l = true then pieLen l else 0
set_option maxRecDepth 100000 in
set_option maxHeartbeats 4000000 in
theorem Len_any (size : Int) (l : List (Int × Int)) (v : Value) (w : World) (hv : PieV w v l) :
    Calls Tryd.prog 14 #[.agg #[.int .i64 size, v]] w fun e w' => e = .returned (.int .i64 (sLen size l)) ∧ Below w.heap.size w w' := by
  have hM0 := MapAt.new w size v
  have hx0 := (Below.refl w.heap.size w).alloc (Nat.le_refl _) (.cells #[.int .i64 size, v] 25)
  have hV0 := hv.below hx0 (Nat.le_refl _)
  have HR := Lib.hid (Right_any size l v _ hV0)
  by_cases hr : mapB size l = true
  · obtain ⟨g1, g2, g3⟩ := mapB_size hr
    have hmem := mapB_mem hr
    have HB := Lib.hid (show sLen size l = pieLen l by unfold sLen; rw [if_pos hr])
    rw [hr] at HR
    go_enter Tryd.func14, Tryd.ntmps14
    go_wp2_with fail
    refine HR.out.mono ?_
    rintro e w1 ⟨rfl, hb1⟩
    have hM1 := hM0.below hb1
    have hV1 := hV0.below hb1 (Nat.le_refl _)
    have hx1 : Below w.heap.size w w1 := hx0.trans (hb1.mono hx0.size)
    have hc0 := hM1.c0
    have hc1 := hM1.c1
    obtain ⟨a, c, rfl, hcell⟩ := hV1
    go_wp2_with fail
    go_loopw [3, 12] (fun n i wr => ∃ (k : Nat) (m : Int), k ≤ l.length ∧ n = .int .i64 m ∧ i = .int .i64 k ∧ 0 ≤ m ∧ m ≤ k * 1099511627776 ∧ m + pieLen (l.drop k) = pieLen l ∧ Below w.heap.size w wr ∧ Below w1.heap.size w1 wr) (fun _ i _ => l.length - (intOf i).toNat)
    case atStart => exact ⟨0, 0, by omega, rfl, rfl, by omega, by omega, by simp, hx1, Below.refl _ _⟩
    case round =>
      obtain ⟨k, m, hk, rfl, rfl, hm0, hm1, heq, hb, hbw⟩ := hrel
      by_cases hlt : k < l.length
      · obtain ⟨b, off, rfl, hbl, hcl⟩ := hcell (by omega)
        have hd := pieLen_drop l k hlt
        have hy0 := (hbw.cell (p := ⟨b, off + k * 2, none⟩) hbl).trans (hcl k hlt).1
        have hy1 := (hbw.cell (p := ⟨b, off + k * 2 + 1, none⟩) hbl).trans (hcl k hlt).2
        obtain ⟨hp, hq, hpq⟩ := hmem l[k] (List.getElem_mem hlt)
        generalize l[k].1 = p at *
        generalize l[k].2 = q at *
        have HN := Lib.hid (show m + q + pieLen (l.drop (k + 1)) = pieLen l by omega)
        have HX := Lib.hid (hb.alloc (by have := hb.size; omega) (.cells #[.int .i64 p, .int .i64 q] 57))
        have HW := Lib.hid (hbw.alloc (by have := hbw.size; omega) (.cells #[.int .i64 p, .int .i64 q] 57))
        clear hd heq hcl hcell hmem hM0 hV0 hM1 hv hb1 HR
        have hk2 : (k : Int) ≤ 4096 := by omega
        have hq2 : q ≤ 1099511627776 := by omega
        go_wp2
        go_roundw
        case rel => exact ⟨k + 1, m + q, by omega, by go_num, by go_num, by omega, by push_cast; omega, HN.out, HX.out, HW.out⟩
        case measure => simp [intOf]; omega
      · have : k = l.length := by omega
        subst this
        rw [List.drop_length] at heq
        have HN := Lib.hid (show sLen size l = m by rw [HB.out, ← heq]; exact Int.add_zero _)
        go_wp2
        go_ret
        exact ⟨by rw [HN.out]; rfl, hb⟩
  · have hm : mapB size l = false := by simpa using hr
    have HB := Lib.hid (show sLen size l = 0 by unfold sLen; rw [if_neg hr])
    rw [hm] at HR
    clear hr
    go_enter Tryd.func14, Tryd.ntmps14
    go_wp2_with fail
    refine HR.out.mono ?_
    rintro e w1 ⟨rfl, hb1⟩
    have hx1 : Below w.heap.size w w1 := hx0.trans (hb1.mono hx0.size)
    clear hM0 hV0 hv
    go_wp2
    all_goals
      go_ret
      exact ⟨by rw [HB.out]; rfl, hx1⟩
end Go.Proofs.YtnemjfojlgjkfaaDoor
