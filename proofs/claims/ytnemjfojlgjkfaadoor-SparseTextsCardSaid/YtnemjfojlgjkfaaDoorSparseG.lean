/- boulterref40.Right. -/
import Derived.Test.YtnemjfojlgjkfaaDoorSparseF
namespace Go.Proofs.YtnemjfojlgjkfaaDoor
open Go.RowKit

def prevE (l : List (Int × Int)) (k : Nat) : Int := if h : 0 < k ∧ k ≤ l.length then (l[k - 1]'(by omega)).1 + (l[k - 1]'(by omega)).2 else 0
set_option maxRecDepth 100000 in
set_option maxHeartbeats 4000000 in
theorem rRight_any40 (size : Int) (l : List (Int × Int)) (v : Value) (w : World) (hv : PieV w v l) :
    Calls Tryd.prog 16 #[.agg #[.int .i64 size, v]] w fun e w' => e = .returned (.bool (mapB size l)) ∧ Below w.heap.size w w' := by
  obtain ⟨a, c, rfl, hv⟩ := hv
  by_cases hbig : size < 0 ∨ 1099511627776 < size ∨ 4096 < l.length
  · have HB := Lib.hid (show mapB size l = false by unfold mapB; rw [if_pos hbig])
    go_enter Tryd.func16, Tryd.ntmps16
    go_wp2
    all_goals
      go_ret
      exact ⟨by rw [HB.out]; rfl, (Below.refl _ _).alloc (Nat.le_refl _) _⟩
  · have HB := Lib.hid (show mapB size l = pieB size 0 l by unfold mapB; rw [if_neg hbig])
    have h1 : 0 ≤ size := by omega
    have h2 : size ≤ 1099511627776 := by omega
    have h3 : l.length ≤ 4096 := by omega
    clear hbig
    go_enter Tryd.func16, Tryd.ntmps16
    go_wp2
    have hM0 := RMapAt.new w size (.slice a l.length c)
    have hB0 := (Below.refl w.heap.size w).alloc (Nat.le_refl _) (.cells #[.int .i64 size, .slice a l.length c] 31)
    go_loopw [3] (fun i wr => ∃ (k : Nat), k ≤ l.length ∧ i = .int .i64 k ∧ 0 ≤ prevE l k ∧ prevE l k ≤ size ∧ pieB size (prevE l k) (l.drop k) = mapB size l ∧ Below w.heap.size w wr ∧ RMapAt wr w.heap.size size (.slice a l.length c)) (fun i _ => l.length - (intOf i).toNat)
    case atStart => exact ⟨0, by omega, rfl, by simp [prevE], by simpa [prevE] using h1, by simpa [prevE] using HB.out.symm, hB0, hM0⟩
    case round =>
      obtain ⟨k, hk, rfl, he0, he1, heq, hb, hM⟩ := hrel
      have hc0 := hM.c0
      have hc1 := hM.c1
      by_cases hlt : k < l.length
      · obtain ⟨b, off, rfl, hbl, hcell⟩ := hv (by omega)
        have hd := pieB_drop size (prevE l k) l k hlt
        have hn : prevE l (k + 1) = l[k].1 + l[k].2 := by unfold prevE; rw [dif_pos ⟨by omega, by omega⟩]; simp
        have hx0 := (hb.cell (p := ⟨b, off + k * 2, none⟩) hbl).trans (hcell k hlt).1
        have hx1 := (hb.cell (p := ⟨b, off + k * 2 + 1, none⟩) hbl).trans (hcell k hlt).2
        generalize l[k].1 = x at hd hx0 hn
        generalize l[k].2 = y at hd hx1 hn
        rw [heq] at hd
        have HD := Lib.hid hd
        have HNn := Lib.hid hn
        have hM2 := hM.below ((Below.refl wr.heap.size wr).alloc (Nat.le_refl _) (.cells #[.int .i64 x, .int .i64 y] 58))
        have hc2 := hM2.c0
        have hc3 := hM2.c1
        have HM2 := Lib.hid hM2
        have HB2 := Lib.hid (hb.alloc (by have := hb.size; omega) (.cells #[.int .i64 x, .int .i64 y] 58))
        clear hM2 hd hn heq hM0 hB0 HB
        by_cases hbad : x < 0 ∨ size < x ∨ y < 1 ∨ size - x < y
        · have HN := Lib.hid (HD.out.trans (if_pos (by omega)))
          clear HD hcell he0 he1
          go_wp2
          all_goals
            go_ret
            exact ⟨by rw [HN.out]; rfl, HB2.out⟩
        · have hnb : 0 ≤ x ∧ x ≤ size ∧ 1 ≤ y ∧ y ≤ size - x := by omega
          obtain ⟨q1, q2, q3, q4⟩ := hnb
          clear hbad
          rcases Nat.eq_zero_or_pos k with hkz | hpos
          · subst hkz
            simp only [Nat.zero_mul, Nat.add_zero] at hx0 hx1
            have hz : prevE l 0 = 0 := by simp [prevE]
            have HN := Lib.hid (HD.out.trans (if_neg (by rw [hz]; omega)))
            clear HD hcell he0 he1 hz
            go_upto_region 9 with fail
            generalize wr.alloc (.cells #[.int .i64 x, .int .i64 y] 58) = W1 at *
            go_quiet (fail)
            go_wp2_with fail
            go_roundw
            case rel => exact ⟨0 + 1, by omega, by go_num, by rw [HNn.out]; omega, by rw [HNn.out]; omega, by rw [HNn.out]; exact HN.out.symm, belowDrewN HB2.out, HM2.out⟩
            case measure => simp [intOf]; omega
          · obtain ⟨j, rfl⟩ : ∃ j, k = j + 1 := ⟨k - 1, by omega⟩
            have hpe : prevE l (j + 1) = (l[j]'(by omega)).1 + (l[j]'(by omega)).2 := by unfold prevE; rw [dif_pos ⟨by omega, by omega⟩]; simp
            have hz0 : (wr.alloc (.cells #[.int .i64 x, .int .i64 y] 58)).cell? ⟨b, off + j * 2, none⟩ = some (.int .i64 (l[j]'(by omega)).1) := (HB2.out.cell (p := ⟨b, off + j * 2, none⟩) hbl).trans (hcell j (by omega)).1
            have hz1 : (wr.alloc (.cells #[.int .i64 x, .int .i64 y] 58)).cell? ⟨b, off + j * 2 + 1, none⟩ = some (.int .i64 (l[j]'(by omega)).2) := (HB2.out.cell (p := ⟨b, off + j * 2 + 1, none⟩) hbl).trans (hcell j (by omega)).2
            rw [hpe] at he0 he1
            generalize (l[j]'(by omega)).1 = p at *
            generalize (l[j]'(by omega)).2 = q at *
            have hs1 : p + q ≤ 1099511627776 := by omega
            have e0 : IntKind.i64.wrap (p + q) = p + q := IntWalk.i64_in _ (by omega)
            have e1 : IntKind.i64.wrap ((j : Int) + 1 - 1) = (j : Int) := by rw [show (j : Int) + 1 - 1 = (j : Int) by omega]; exact IntWalk.i64_in _ (by omega)
            have c0 : (wr.alloc (.cells #[.int .i64 x, .int .i64 y] 58)).cell? ⟨wr.heap.size, 0, none⟩ = some (.int .i64 x) := by simp
            have hjI : (j : Int) < (l.length : Int) := by omega
            by_cases hov : x < p + q
            · have HN := Lib.hid (HD.out.trans (if_pos (by rw [hpe]; omega)))
              clear HD hcell he1 hpe
              go_upto_region 9 with fail
              generalize wr.alloc (.cells #[.int .i64 x, .int .i64 y] 58) = W1 at *
              go_quiet (fail)
              go_wp2_with fail
              go_ret
              exact ⟨by rw [HN.out]; rfl, belowDrewN HB2.out⟩
            · have HN := Lib.hid (HD.out.trans (if_neg (by rw [hpe]; omega)))
              clear HD hcell he1 hpe
              go_upto_region 9 with fail
              generalize wr.alloc (.cells #[.int .i64 x, .int .i64 y] 58) = W1 at *
              go_quiet (fail)
              go_wp2_with fail
              go_roundw
              case rel => exact ⟨j + 1 + 1, by omega, by go_num, by rw [HNn.out]; omega, by rw [HNn.out]; omega, by rw [HNn.out]; exact HN.out.symm, belowDrewN HB2.out, HM2.out⟩
              case measure => simp [intOf]; omega
      · have : k = l.length := by omega
        subst this
        rw [List.drop_length] at heq
        have HE := Lib.hid heq
        go_wp2
        go_ret
        exact ⟨by rw [← HE.out]; rfl, hb⟩
end Go.Proofs.YtnemjfojlgjkfaaDoor
