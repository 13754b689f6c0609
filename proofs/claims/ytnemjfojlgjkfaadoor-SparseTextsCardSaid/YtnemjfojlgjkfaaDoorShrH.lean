/- The law's plain and same, the document's Len, walked. -/
import Derived.Test.YtnemjfojlgjkfaaDoorShrG
import Derived.BigQuiet
namespace Go.Proofs.YtnemjfojlgjkfaaDoor
open Go.RowKit

theorem PieV.shape {w : World} {v : Value} {l : Pcs} (h : PieV w v l) : ∃ a c, v = .slice a l.length c := by
  obtain ⟨a, c, rfl, _⟩ := h
  exact ⟨a, c, rfl⟩
set_option maxRecDepth 100000 in
set_option maxHeartbeats 4000000 in
theorem plain_any40 (size : Int) (l : Pcs) (v : Value) (w : World) (hv : PieV w v l) (hl : l.length ≤ 4096) :
    Calls Tryd.prog 12 #[.agg #[.int .i64 size, v]] w fun e w' => ∃ u, e = .returned (.agg #[.int .i64 size, u]) ∧ PieV w' u l ∧ Below w.heap.size w w' := by
  have hM0 := MapAt.new w size v
  have hx0 := (Below.refl w.heap.size w).alloc (Nat.le_refl _) (.cells #[.int .i64 size, v] 25)
  have hx1 := hx0.alloc hx0.size (.cells #[.int .i64 0, .slice none 0 0] 31)
  have hM1 : MapAt _ w.heap.size size v := hM0.below ((Below.refl _ _).alloc (Nat.le_refl _) (.cells #[.int .i64 0, .slice none 0 0] 31))
  have hR1 : RMapAt ((w.alloc (.cells #[.int .i64 size, v] 25)).alloc (.cells #[.int .i64 0, .slice none 0 0] 31)) (w.heap.size + 1) 0 (.slice none 0 0) := by
    have := RMapAt.new (w.alloc (.cells #[.int .i64 size, v] 25)) 0 (.slice none 0 0)
    simpa using this
  have m0 := hM1.c0
  have m1 := hM1.c1
  have hz1 : ((w.alloc (.cells #[.int .i64 size, v] 25)).alloc (.cells #[.int .i64 0, .slice none 0 0] 31)).heap.size = w.heap.size + 2 := by simp
  obtain ⟨a, c, rfl, hcell⟩ := hv
  have hlI : (l.length : Int) ≤ 4096 := by omega
  go_enter Tryd.func12, Tryd.ntmps12
  go_upto_region 1 with fail
  generalize (w.alloc (.cells #[.int .i64 size, .slice a l.length c] 25)).alloc (.cells #[.int .i64 0, .slice none 0 0] 31) = W1 at *
  have HZ := Lib.hid hz1
  clear hz1
  go_upto_region 2 with fail
  have hM2 : MapAt _ w.heap.size size _ := hM1.below ((Below.refl _ _).alloc (Nat.le_refl _) (.cells #[.int .i64 size, .slice none 0 0] 31))
  have hR2 : RMapAt _ (w.heap.size + 1) 0 _ := hR1.below ((Below.refl _ _).alloc (Nat.le_refl _) (.cells #[.int .i64 size, .slice none 0 0] 31))
  have hR5 : RMapAt _ W1.heap.size size _ := RMapAt.new W1 size (.slice none 0 0)
  have hx2 : Below w.heap.size w (W1.alloc (.cells #[.int .i64 size, .slice none 0 0] 31)) := hx1.alloc hx1.size _
  have hg6 : W1.heap.size < (W1.alloc (.cells #[.int .i64 size, .slice none 0 0] 31)).heap.size := by simp
  have n1 := hM2.c1
  generalize W1.alloc (.cells #[.int .i64 size, .slice none 0 0] 31) = W2 at *
  generalize W1.heap.size = g5 at *
  have hg55 : g5 = w.heap.size + 2 := HZ.out
  clear HZ hx0 hx1 m0 m1 hM1 hR1
  have HG := Lib.hid hg55
  clear hg55
  have hQ0 : OwnW W2 (g5 + 1) (.slice none 0 0) (l.take 0) := OwnR.nil _ _ _ _ _
  go_wp2_with fail
  go_loopw [12] (fun v12 wr => ∃ (k : Nat) (vq : Value), v12 = .int .i64 k ∧ k ≤ l.length ∧ OwnW wr (g5 + 1) vq (l.take k) ∧ RMapAt wr g5 size vq ∧ RMapAt wr (w.heap.size + 1) 0 (.slice none 0 0) ∧ Below w.heap.size w wr ∧ W2.heap.size ≤ wr.heap.size) (fun v12 _ => l.length - (intOf v12).toNat)
  case atStart => exact ⟨0, _, rfl, Nat.zero_le _, hQ0, hR5, hR2, hx2, Nat.le_refl _⟩
  case round =>
    obtain ⟨k, vq, rfl, hk, hoq, hN5, hN1, hb, hz2⟩ := hrel
    clear hQ0 hR5 hR2 hx2 hM2 n1
    have hg := HG.out
    by_cases hlt : k < l.length
    · obtain ⟨b, off, rfl, hbl, hcl⟩ := hcell (by omega)
      have hkI : (k : Int) < (l.length : Int) := by omega
      have hd : l.take (k + 1) = l.take k ++ [l[k]] := List.take_succ_eq_append_getElem hlt
      have hy0 := (hb.cell (p := ⟨b, off + k * 2, none⟩) hbl).trans (hcl k hlt).1
      have hy1 := (hb.cell (p := ⟨b, off + k * 2 + 1, none⟩) hbl).trans (hcl k hlt).2
      have hlen : (l.take k).length ≤ 1000000000 := by rw [List.length_take]; omega
      rw [show l[k] = (l[k].1, l[k].2) from rfl] at hd
      generalize l[k].1 = x at *
      generalize l[k].2 = y at *
      have HD := Lib.hid hd
      clear hd hcl hcell
      generalize l.take k = q at *
      have hoq2 := hoq.alloc (.cells #[.int .i64 x, .int .i64 y] 57)
      have hb2 := hb.alloc hb.size (.cells #[.int .i64 x, .int .i64 y] 57)
      have hN8 := hN5.below ((Below.refl _ _).alloc (Nat.le_refl _) (.cells #[.int .i64 x, .int .i64 y] 57))
      have hN9 := hN1.below ((Below.refl _ _).alloc (Nat.le_refl _) (.cells #[.int .i64 x, .int .i64 y] 57))
      have hzw : W2.heap.size ≤ (wr.alloc (.cells #[.int .i64 x, .int .i64 y] 57)).heap.size := by simp; omega
      have p0 : (wr.alloc (.cells #[.int .i64 x, .int .i64 y] 57)).cell? ⟨wr.heap.size, 0, none⟩ = some (.int .i64 x) := by simp
      have p1 : (wr.alloc (.cells #[.int .i64 x, .int .i64 y] 57)).cell? ⟨wr.heap.size, 1, none⟩ = some (.int .i64 y) := by simp
      have HGG := Lib.hid hg
      clear hg
      go_upto_region 5 with fail
      clear hy0 hy1
      generalize wr.alloc (.cells #[.int .i64 x, .int .i64 y] 57) = w3 at *
      have d0 := hN8.c1
      have hsep : SepG g5 vq := own_sepG (by decide) hoq2 hN8
      have hsep1 : SepG (w.heap.size + 1) vq := own_sepG (by decide) hoq2 hN9
      obtain ⟨va, vc, rfl⟩ := hoq2.shape
      have hbz : g5 + 1 ≤ w3.heap.size := by omega
      go_wp2_with (at_builtin; go_must (refine app_rpie rfl _ _ rfl (g5 + 1) (.slice va q.length vc) q (x, y) _ rfl rfl hoq2 rfl hlen hbz ?_); intro v6 w6 hown6 hb6 hg6'; have hN8' := hN8.grew hg6' hsep; obtain ⟨vb, vd, rfl⟩ := hown6.shape; have e1 := hN8'.c1; have e2 := hN8'.fz 1)
      have hsep6 : SepG g5 (.slice vb (q ++ [(x, y)]).length vd) := fun e => by have := (World.ownsRow.lt hown6 _ e.symm).1; omega
      have hN96 := hN9.grew hg6' hsep1
      have hL : (q ++ [(x, y)]).length = q.length + 1 := by simp
      rw [hL] at hown6 hsep6
      have hg := HGG.out
      have hs6 := hb6.size
      go_roundw
      case rel => exact ⟨k + 1, _, by go_num, by omega, by rw [HD.out]; exact hown6.setOther _ _ _ hsep6, hN8'.put _, hN96.setOther _ _ _ (by omega), (hb2.trans (hb6.mono (by omega))).setCell (by simp; omega) _, by simp; omega⟩
      case measure => simp [intOf]; omega
    · have hk2 : k = l.length := by omega
      subst hk2
      rw [List.take_length] at hoq
      have d0 := hN5.c0
      have d1 := hN5.c1
      have b0 := hN1.c0
      have b1 := hN1.c1
      have b2 := hN1.fz 0
      have b3 := hN1.fz 1
      have hsep1 : SepG (w.heap.size + 1) vq := own_sepG (by decide) hoq hN1
      obtain ⟨va, vc, rfl⟩ := hoq.shape
      clear hg
      go_wp2_with fail
      refine bodyPost_ret (v := .agg #[.int .i64 size, .slice va l.length vc]) (by simp [results, Tryd.results12, go_sem, b0, b1]) rfl ?_
      exact ⟨_, rfl, OwnR.pieV ((hoq.setOther _ _ _ hsep1).setOther _ _ _ hsep1), (hb.setCell (by simp) _).setCell (by simp) _⟩
end Go.Proofs.YtnemjfojlgjkfaaDoor
