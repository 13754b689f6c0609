/- The document's Text of a map, walked. -/
import Derived.Test.YtnemjfojlgjkfaaDoorShrK
import Derived.Test.YtnemjfojlgjkfaaDoorShrG
import Derived.Test.YtnemjfojlgjkfaaDoorRdig
namespace Go.Proofs.YtnemjfojlgjkfaaDoor
open Go.RowKit
open Go.Lib (decDigits itoa)

theorem cat2 (a b : List UInt8) : S a ++ (⟨#[10]⟩ : ByteArray) ++ S b ++ ⟨#[10]⟩ = S ((a ++ [10]) ++ (b ++ [10])) := by
  have e : (⟨#[10]⟩ : ByteArray) = S [10] := rfl
  rw [e, S_append, S_append, S_append]
  congr 1
  simp [List.append_assoc]
set_option maxRecDepth 100000 in
set_option maxHeartbeats 4000000 in
theorem rText_any40 (size : Int) (l : Pcs) (v : Value) (w : World) (hv : PieV w v l) (hr : mapB size l = true) :
    Calls Tryd.prog 23 #[.agg #[.int .i64 size, v]] w fun e w' => e = .returned (.string (S (txM size l))) ∧ Below w.heap.size w w' := by
  have hM0 := RMapAt.new w size v
  have hx0 := (Below.refl w.heap.size w).alloc (Nat.le_refl _) (.cells #[.int .i64 size, v] 31)
  obtain ⟨g1, g2, g3⟩ := mapB_size hr
  have hmem := mapB_mem hr
  have HD : Hid (∀ (n : Nat) W, n ≤ 1099511627776 → Calls Tryd.prog 32 #[.int .i64 n] W fun e w' => e = .returned (.string (S (decDigits n))) ∧ ∃ m, w' = W.drewN m) := Lib.hid (fun n W h => rdig_big 13 n (by omega) (by decide) W)
  have HDL : Hid (∀ n : Nat, n ≤ 1099511627776 → (decDigits n).length ≤ 20) := Lib.hid (fun n h => by have := digs_len 13 n (by omega); omega)
  obtain ⟨a, c, rfl, hcell⟩ := hv
  have c0 := hM0.c0
  have c1 := hM0.c1
  obtain ⟨sz, rfl⟩ : ∃ m : Nat, size = m := ⟨size.toNat, by omega⟩
  have HT : Hid (txM sz l = (decDigits l.length ++ [10]) ++ (decDigits sz ++ [10]) ++ pieT l) := Lib.hid (by
    unfold txM pieT
    rw [show lineI (l.length : Int) = decDigits l.length ++ [10] from by unfold lineI; rw [Int.toNat_natCast], show lineI (sz : Int) = decDigits sz ++ [10] from by unfold lineI; rw [Int.toNat_natCast]])
  have HPL : Hid (∀ k, (pieT (l.take k)).length ≤ 40 * 4096) := Lib.hid (fun k => by
    have := pieT_len (l.take k) (fun p hp => by have := hmem p (List.mem_of_mem_take hp); omega)
    have : (l.take k).length ≤ 4096 := by rw [List.length_take]; omega
    omega)
  have HD1 := Lib.hid (fun W => HD.out l.length W (by omega))
  have HD2 := Lib.hid (fun W => HD.out sz W (by omega))
  have hl1 := HDL.out l.length (by omega)
  have hn1 : l.length ≤ 1099511627776 := by omega
  have hn2 : sz ≤ 1099511627776 := by omega
  have hl2 := HDL.out sz (by omega)
  have hcat := Lib.hid (cat2 (decDigits l.length) (decDigits sz))
  have G2 : Hid (sz ≤ 1099511627776) := Lib.hid (by omega)
  clear g1 g2 hr
  go_enter Tryd.func23, Tryd.ntmps23
  go_upto_region 1 with fail
  generalize w.alloc (.cells #[.int .i64 sz, .slice a l.length c] 31) = W at *
  have hlI : (l.length : Int) ≤ 4096 := by omega
  go_quiet ((go_at_call 32; exact Calls.quiet_of (HD.out _ _ (by first | exact hn1 | exact hn2))))
  rw [hcat.out]
  have hb0 : Below w.heap.size w (W.drewN nq) := belowDrewN hx0
  have hM1 := hM0.below (belowDrewN (Below.refl W.heap.size W) : Below W.heap.size W (W.drewN nq))
  have hhl : ((decDigits l.length ++ [10]) ++ (decDigits sz ++ [10])).length ≤ 100 := by simp; omega
  clear hM0 hx0 c0 c1 HD1 HD2 hl1 hl2 hn1 hn2 hcat
  generalize decDigits l.length = d1 at *
  generalize decDigits sz = d2 at *
  generalize W.drewN nq = w1 at *
  generalize (d1 ++ [10]) ++ (d2 ++ [10]) = hd at *
  have hs0 : hd = hd ++ pieT (l.take 0) := by simp [pieT]
  have HS0 := Lib.hid hs0
  clear hs0
  go_wp2_with fail
  go_loopw [3, 4] (fun v3 v4 wr => ∃ k : Nat, v4 = .int .i64 k ∧ v3 = .string (S (hd ++ pieT (l.take k))) ∧ k ≤ l.length ∧ Below w.heap.size w wr ∧ RMapAt wr w.heap.size sz (.slice a l.length c)) (fun _ v4 _ => l.length - (intOf v4).toNat)
  case atStart => exact ⟨0, rfl, by rw [← HS0.out], Nat.zero_le _, hb0, hM1⟩
  case round =>
    clear hb0 hM1 HS0
    obtain ⟨k, rfl, rfl, hk, hb, hM⟩ := hrel
    have c1 := hM.c1
    by_cases hlt : k < l.length
    · obtain ⟨b, off, rfl, hbl, hcl⟩ := hcell (by omega)
      have hkI : (k : Int) < (l.length : Int) := by omega
      have hk0 : (0 : Int) ≤ (k : Int) := by omega
      have hd' : pieT (l.take (k + 1)) = pieT (l.take k) ++ (lineI l[k].1 ++ lineI l[k].2) := by
        unfold pieT
        rw [List.take_succ_eq_append_getElem hlt, List.flatMap_append]; simp
      have y0 := (hb.cell (p := ⟨b, off + k * 2, none⟩) hbl).trans (hcl k hlt).1
      have y1 := (hb.cell (p := ⟨b, off + k * 2 + 1, none⟩) hbl).trans (hcl k hlt).2
      obtain ⟨p1, p2, p3⟩ := hmem l[k] (List.getElem_mem hlt)
      have hol : (hd ++ pieT (l.take k)).length ≤ 1000000 := by rw [List.length_append]; have := HPL.out k; omega
      generalize l[k].1 = x at *
      generalize l[k].2 = y at *
      obtain ⟨nx, rfl⟩ : ∃ m : Nat, x = m := ⟨x.toNat, by omega⟩
      obtain ⟨ny, rfl⟩ : ∃ m : Nat, y = m := ⟨y.toNat, by omega⟩
      have HA : Hid (hd ++ pieT (l.take (k + 1)) = (hd ++ pieT (l.take k)) ++ ((decDigits nx ++ [10]) ++ (decDigits ny ++ [10]))) := Lib.hid (by rw [hd']; unfold lineI; simp [List.append_assoc])
      have hn1 : nx ≤ 1099511627776 := by have := G2.out; omega
      have hn2 : ny ≤ 1099511627776 := by have := G2.out; omega
      have hl1 := HDL.out nx (by omega)
      have hl2 := HDL.out ny (by omega)
      have hcat := Lib.hid (cat2 (decDigits nx) (decDigits ny))
      clear hd' hcl hcell hmem HDL HPL p1 p2 p3
      generalize hd ++ pieT (l.take k) = o2 at *
      go_upto_region 5 with fail
      go_quiet ((go_at_call 32; exact Calls.quiet_of (HD.out _ _ (by first | exact hn1 | exact hn2))))
      rw [hcat.out]
      have hD : Below wr.heap.size wr (wr.drewN nq) := belowDrewN (Below.refl _ _)
      go_wp2_with fail
      go_roundw
      case rel => exact ⟨k + 1, by go_num, by rw [HA.out]; exact congrArg Value.string (S_append _ _), by omega, hb.trans (hD.mono hb.size), hM.below hD⟩
      case measure => simp [intOf]; omega
    · have hk2 : k = l.length := by omega
      subst hk2
      rw [List.take_length, ← HT.out]
      go_wp2_with fail
      go_ret
      exact ⟨rfl, hb⟩
end Go.Proofs.YtnemjfojlgjkfaaDoor
