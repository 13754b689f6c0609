/- sparse.Text, walked. -/
import Derived.Test.YtnemjfojlgjkfaaDoorShrJ
namespace Go.Proofs.YtnemjfojlgjkfaaDoor
open Go.RowKit
open Go.Lib (decDigits itoa)

theorem IntsAt.new (w : World) (x y : Int) : IntsAt (w.alloc (.cells #[.int .i64 x, .int .i64 y] 3)) w.heap.size [x, y] := heap_alloc_new _ _
theorem OutAt.new (w : World) (v : Value) : OutAt (w.alloc (.cells #[v] 53)) w.heap.size v := heap_alloc_new _ _
def pieT (l : Pcs) : List UInt8 := l.flatMap (fun p => lineI p.1 ++ lineI p.2)
theorem pieT_len (l : Pcs) (h : ∀ p ∈ l, 0 ≤ p.1 ∧ p.1 ≤ 1099511627776 ∧ 0 ≤ p.2 ∧ p.2 ≤ 1099511627776) : (pieT l).length ≤ 40 * l.length := by
  induction l with
  | nil => exact Nat.le_refl 0
  | cons p l ih =>
    have h1 := ih (fun q hq => h q (List.mem_cons_of_mem _ hq))
    obtain ⟨a, b, c, d⟩ := h p (List.mem_cons_self ..)
    have h2 := lineI_len p.1 a b
    have h3 := lineI_len p.2 c d
    unfold pieT at *
    rw [List.flatMap_cons, List.length_append, List.length_append, List.length_cons]
    omega
set_option maxRecDepth 100000 in
set_option maxHeartbeats 2000000 in
theorem sText_no (size : Int) (l : Pcs) (v : Value) (w : World) (hv : PieV w v l) (hr : mapB size l = false) :
    Calls Tryd.prog 21 #[.agg #[.int .i64 size, v]] w fun e w' => e = .returned (.tuple #[.string (S []), .int .i64 1]) ∧ Below w.heap.size w w' := by
  have hx0 := (Below.refl w.heap.size w).alloc (Nat.le_refl _) (.cells #[.int .i64 size, v] 25)
  have HR := Lib.hid (Right_any size l v _ (hv.below hx0 (Nat.le_refl _)))
  rw [hr] at HR
  clear hv hr
  go_enter Tryd.func21, Tryd.ntmps21
  go_wp2_with fail
  refine HR.out.mono ?_
  rintro e w1 ⟨rfl, hb1⟩
  have hx1 := hx0.trans (hb1.mono hx0.size)
  go_wp2_with fail
  go_ret2
  exact ⟨rfl, hx1⟩
set_option maxRecDepth 100000 in
set_option maxHeartbeats 4000000 in
theorem sText_yes (size : Int) (l : Pcs) (v : Value) (w : World) (hv : PieV w v l) (hr : mapB size l = true) (hT : TB w.heap.size w) :
    Calls Tryd.prog 21 #[.agg #[.int .i64 size, v]] w fun e w' => e = .returned (.tuple #[.string (S (txM size l)), .int .i64 0]) ∧ Below w.heap.size w w' := by
  have hM0 := MapAt.new w size v
  have hx0 := (Below.refl w.heap.size w).alloc (Nat.le_refl _) (.cells #[.int .i64 size, v] 25)
  have HR := Lib.hid (Right_any size l v _ (hv.below hx0 (Nat.le_refl _)))
  rw [hr] at HR
  obtain ⟨g1, g2, g3⟩ := mapB_size hr
  have hmem := mapB_mem hr
  obtain ⟨a, c, rfl, hcell⟩ := hv
  have hlI : (l.length : Int) ≤ 4096 := by omega
  go_enter Tryd.func21, Tryd.ntmps21
  go_wp2_with fail
  refine HR.out.mono ?_
  rintro e w1 ⟨rfl, hb1⟩
  have hM1 := hM0.below hb1
  have hx1 := hx0.trans (hb1.mono hx0.size)
  have hz1 := hM1.lt
  have hM2 := hM1.below ((Below.refl _ _).alloc (Nat.le_refl _) (.cells #[.slice none 0 0] 53))
  have hO2 := OutAt.new w1 (.slice none 0 0)
  have hx2 : Below w.heap.size w (w1.alloc (.cells #[.slice none 0 0] 53)) := hx1.alloc hx1.size _
  clear HR hM0 hx0 hb1 hM1
  go_upto_region 5 with fail
  have n0 := hM2.c0
  have n1 := hM2.c1
  generalize w1.alloc (.cells #[.slice none 0 0] 53) = w2 at *
  have hgz := hO2.lt
  generalize w1.heap.size = g at *
  have hM3 := hM2.below ((Below.refl _ _).alloc (Nat.le_refl _) (.cells #[.int .i64 l.length, .int .i64 size] 3))
  have hO3 : OutAt (w2.alloc (.cells #[.int .i64 l.length, .int .i64 size] 3)) g (.slice none 0 0) := hO2.under ((Below.refl w2.heap.size w2).alloc (Nat.le_refl _) _) hgz
  have hI3 := IntsAt.new w2 l.length size
  have hx3 : Below w.heap.size w (w2.alloc (.cells #[.int .i64 l.length, .int .i64 size] 3)) := hx2.alloc hx2.size _
  have hC := put_any l.length size [] g w2.heap.size w.heap.size (.slice none 0 0) _ (by omega) (by omega) (by simp) hO3 (OwnB.nil _ _) hI3 (hT.at hx3 (Nat.le_refl _)) (by omega)
  have HC := Lib.hid hC
  clear hC hO2 hx2
  go_wp2_with fail
  refine HC.out.mono ?_
  rintro e w3 ⟨rfl, vq, hO, hown, hb3⟩
  have hM4 := hM3.under hb3 (by omega)
  have hx4 := hx3.trans (hb3.mono (by omega))
  have n2 := hM4.c1
  rw [List.nil_append] at hown
  have hown0 : OwnB w3 (g + 1) vq (lineI l.length ++ lineI size ++ pieT (l.take 0)) := by simpa [pieT] using hown
  have HTX := Lib.hid (show txM size l = lineI l.length ++ lineI size ++ pieT l by unfold txM pieT; rfl)
  have hpl : (lineI (l.length : Int) ++ lineI size).length ≤ 40 := by
    rw [List.length_append]
    have := lineI_len l.length (by omega) (by omega)
    have := lineI_len size g1 g2
    omega
  have hptl : ∀ k, (pieT (l.take k)).length ≤ 40 * 4096 := by
    intro k
    have := pieT_len (l.take k) (fun p hp => by have := hmem p (List.mem_of_mem_take hp); omega)
    have : (l.take k).length ≤ 4096 := by rw [List.length_take]; omega
    omega
  have HPT := Lib.hid hptl
  clear hptl HC hown hM3 hx3 hI3 hO3 n0 n1
  generalize lineI (l.length : Int) ++ lineI size = hd at *
  go_wp2_with fail
  go_loopw [23] (fun v23 wr => ∃ (k : Nat) (vq : Value), v23 = .int .i64 k ∧ k ≤ l.length ∧ OutAt wr g vq ∧ OwnB wr (g + 1) vq (hd ++ pieT (l.take k)) ∧ Below w.heap.size w wr) (fun v23 _ => l.length - (intOf v23).toNat)
  case atStart => exact ⟨0, vq, rfl, Nat.zero_le _, hO, hown0, hx4⟩
  case round =>
    clear hown0 hO hx4 n2 hM4
    obtain ⟨k, vq, rfl, hk, hO, hown, hb⟩ := hrel
    by_cases hlt : k < l.length
    · obtain ⟨b, off, rfl, hbl, hcl⟩ := hcell (by omega)
      have hkI : (k : Int) < (l.length : Int) := by omega
      have hd' : pieT (l.take (k + 1)) = pieT (l.take k) ++ (lineI l[k].1 ++ lineI l[k].2) := by
        unfold pieT
        rw [List.take_succ_eq_append_getElem hlt, List.flatMap_append]; simp
      have hy0 := (hb.cell (p := ⟨b, off + k * 2, none⟩) hbl).trans (hcl k hlt).1
      have hy1 := (hb.cell (p := ⟨b, off + k * 2 + 1, none⟩) hbl).trans (hcl k hlt).2
      obtain ⟨p1, p2, p3⟩ := hmem l[k] (List.getElem_mem hlt)
      have hol : (hd ++ pieT (l.take k)).length ≤ 1000000 := by rw [List.length_append]; have := HPT.out k; omega
      have HA : Hid (hd ++ pieT (l.take (k + 1)) = (hd ++ pieT (l.take k)) ++ lineI l[k].1 ++ lineI l[k].2) := Lib.hid (by rw [hd']; simp [List.append_assoc])
      clear hd' hcl hcell
      generalize l[k].1 = x at *
      generalize l[k].2 = y at *
      generalize hd ++ pieT (l.take k) = o2 at *
      have hgz := hO.lt
      have hb2 := hb.alloc hb.size (.cells #[.int .i64 x, .int .i64 y] 57)
      have hO2 : OutAt (wr.alloc (.cells #[.int .i64 x, .int .i64 y] 57)) g vq := hO.under ((Below.refl wr.heap.size wr).alloc (Nat.le_refl _) _) hgz
      have hown2 := hown.alloc (.cells #[.int .i64 x, .int .i64 y] 57)
      have q0 : (wr.alloc (.cells #[.int .i64 x, .int .i64 y] 57)).cell? ⟨wr.heap.size, 0, none⟩ = some (.int .i64 x) := by simp
      have q1 : (wr.alloc (.cells #[.int .i64 x, .int .i64 y] 57)).cell? ⟨wr.heap.size, 1, none⟩ = some (.int .i64 y) := by simp
      go_upto_region 9 with fail
      clear hO hown hb
      generalize wr.alloc (.cells #[.int .i64 x, .int .i64 y] 57) = w5 at *
      have hgz5 := hO2.lt
      have hO6 : OutAt (w5.alloc (.cells #[.int .i64 x, .int .i64 y] 3)) g vq := hO2.under ((Below.refl w5.heap.size w5).alloc (Nat.le_refl _) _) hgz5
      have hown6 := hown2.alloc (.cells #[.int .i64 x, .int .i64 y] 3)
      have hb6 : Below w.heap.size w (w5.alloc (.cells #[.int .i64 x, .int .i64 y] 3)) := hb2.alloc hb2.size _
      have HC := Lib.hid (put_any x y o2 g w5.heap.size w.heap.size vq _ (by omega) (by omega) hol hO6 hown6 (IntsAt.new w5 x y) (hT.at hb6 (Nat.le_refl _)) (by omega))
      clear hO6 hown6 hown2 hO2
      go_wp2_with fail
      refine HC.out.mono ?_
      rintro e w7 ⟨rfl, vq7, hO7, hown7, hb7⟩
      go_wp2_with fail
      go_roundw
      case rel => exact ⟨k + 1, vq7, by go_num, by omega, hO7, by rw [HA.out]; exact hown7, hb6.trans (hb7.mono (by omega))⟩
      case measure => simp [intOf]; omega
    · have hk2 : k = l.length := by omega
      subst hk2
      rw [List.take_length, ← HTX.out] at hown
      have o0 := hO.c0
      have hcv := run_string_own _ _ _ _ hown
      go_wp2_with fail
      go_ret2
      exact ⟨rfl, hb⟩
end Go.Proofs.YtnemjfojlgjkfaaDoor
