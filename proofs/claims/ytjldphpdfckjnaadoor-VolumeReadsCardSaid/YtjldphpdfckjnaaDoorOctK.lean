/- Numbers of fields: octal.Octal, of so many bytes as a head has. Numbers of fields: octal.Octal, where there is none; of so many bytes as a head has. -/
import Derived.Test.YtjldphpdfckjnaaDoorOctI
import Derived.Test.YtjldphpdfckjnaaDoorMakeB
namespace Go.Proofs.YtjldphpdfckjnaaDoor
open Go.RowKit

theorem and_7 (m : Int) : bits .and .i64 m 7 = m % 8 := by
  have key : (BitVec.ofInt 64 m &&& BitVec.ofInt 64 7).toNat = (m % ((2 ^ 64 : Nat) : Int)).toNat % 2 ^ 3 := by
    rw [BitVec.toNat_and, BitVec.toNat_ofInt]
    exact Nat.and_two_pow_sub_one_eq_mod _ 3
  show IntKind.i64.wrap ((BitVec.ofInt 64 m &&& BitVec.ofInt 64 7).toNat : Nat) = m % 8
  rw [key, wrap_lit_i64 _ (by omega) (by omega)]
  omega
theorem set_dig (k : Nat) (d : UInt8) (t : List UInt8) : (List.replicate (k + 1) (0 : UInt8) ++ t).set k d = List.replicate k 0 ++ d :: t := by
  rw [List.replicate_succ', List.append_assoc, List.set_append_right _ _ (by simp)]
  simp
theorem dwn (j : Nat) : (j = 0 ∧ Value.int .i64 ((j : Int) - 1) = .int .i64 (-1)) ∨ ∃ i : Nat, j = i + 1 ∧ Value.int .i64 ((j : Int) - 1) = .int .i64 (i : Int) := by
  cases j with
  | zero => exact .inl ⟨rfl, rfl⟩
  | succ i => exact .inr ⟨i, rfl, by congr 1; omega⟩
theorem dig_natJ (d : Nat) (h : d < 8) : (UInt8.ofNat (48 + d)).toNat = 48 + d := by
  rw [UInt8.toNat_ofNat', Nat.mod_eq_of_lt (by omega)]
set_option maxRecDepth 100000 in
set_option maxHeartbeats 2000000 in
theorem oOctal_7 (v n : Nat) (w : World) (hn : n = 7) (hv : v < 8 ^ (n - 1)) :
    Calls Tryd.prog 106 #[.int .i64 v, .int .i64 n] w fun e w' => e = .returned (.tuple #[.string (S (octL (n - 1) v [0])), .bool true]) ∧ Below w.heap.size w w' := by
  have hv2 : v < 8589934592 := Nat.lt_of_lt_of_le hv (Nat.le_trans (Nat.pow_le_pow_right (by omega) (show n - 1 ≤ 11 by omega)) (by decide))
  have hm : mayO (n : Int) = true := decide_eq_true (by omega)
  have HM := Lib.hid (may_any (n : Int) w)
  rw [hm] at HM
  have hmk := mk_bytes n n (Nat.le_refl _) (by omega) w
  have hown0 := own_bytes n n (Nat.le_refl _) (by omega) w w.heap.size (Nat.le_refl _)
  have hx0 : Below w.heap.size w (w.alloc (.cells (zerosA n) 5)) := (Below.refl _ _).alloc (Nat.le_refl _) _
  generalize hO : octL (n - 1) v [0] = O
  obtain ⟨x, hx⟩ : ∃ x : Int, (v : Int) = x := ⟨_, rfl⟩
  have hxv : x.toNat = v := by omega
  rw [← hxv] at hO
  have HO := Lib.hid hO
  clear hO hm
  have a3 : ¬ x < 0 := by omega
  have a4 : ∀ P : Nat, 8 ^ (n - 1) = P → (P : Int) ≤ (v : Int) → False := by intro P e h; subst e; omega
  rw [hx] at a4
  have HXB := Lib.hid (show x < 8589934592 by omega)
  rw [hx]
  clear hv hv2 hxv
  subst hn
  skip
  ·
    have a5 : ¬ x ≥ 262144 := fun h => a4 262144 (by decide) h
    clear a4 hx
    have hmk2 : (Instr.makeSlice 46 (.int .i64 7) (.int .i64 7)).run Tryd.prog w = .ok (.slice (some ⟨w.heap.size, 0, none⟩) 7 7) (w.alloc (.cells (zerosA 7) 5)) := hmk
    clear hmk
    go_enter Tryd.func106, Tryd.ntmps106
    go_wp2_with fail
    refine (HM.out).mono ?_
    rintro e w1 ⟨rfl, rfl⟩
    clear HM
    go_wp2_with fail
    clear hmk2
    generalize w.alloc (.cells (zerosA 7) 5) = W at *
    have hgG : w.heap.size < W.heap.size := (World.ownsRow.lt hown0 _ rfl).2
    generalize hgg : w.heap.size = g at *
    go_loopw [0, 7] (fun v0 v7 wr => ∃ (k : Nat) (y : Int) (t : List UInt8), (k = 0 ∧ v7 = .int .i64 (-1) ∨ ∃ j : Nat, k = j + 1 ∧ v7 = .int .i64 (j : Int)) ∧ v0 = .int .i64 y ∧ 0 ≤ y ∧ Hid (y < 8589934592) ∧ k + t.length = 7 ∧ Hid (octL k y.toNat t = O) ∧
      OwnB wr g (.slice (some ⟨g, 0, none⟩) 7 7) (List.replicate k 0 ++ t) ∧ Below g w wr) (fun _ v7 _ => (intOf v7 + 1).toNat)
    case atStart => exact ⟨6, x, [0], .inr ⟨5, rfl, rfl⟩, rfl, by omega, HXB, rfl, HO, hown0, hx0⟩
    case round =>
      obtain ⟨k, y, t, hk, rfl, hy0, HY, hkt, HB, hown, hb⟩ := hrel
      have hlen : ∀ q : List UInt8, q.length = 7 → OwnB wr g (.slice (some ⟨g, 0, none⟩) 7 7) q → wr.ownsRow g 5 1 (.slice (some ⟨g, 0, none⟩) 7 7) 7 (q.map bv) := fun q hq h => by unfold OwnB at h; rw [hq] at h; exact h
      rcases hk with ⟨rfl, rfl⟩ | ⟨j, rfl, rfl⟩
      · rw [List.replicate_zero, List.nil_append] at hown
        have hstr := run_string_own wr _ _ _ hown
        have HE : Hid (O = t) := Lib.hid HB.out.symm
        clear hlen hkt HY
        go_wp2_with fail
        go_ret2
        exact ⟨by rw [HE.out]; rfl, by rw [hgg]; exact hb⟩
      · have hj : j < 7 := by omega
        have hll : (List.replicate (j + 1) (0 : UInt8) ++ t).length = 7 := by simp; omega
        have ho := hlen _ hll hown
        have hcell := World.ownsRow.cellAt ho j (by omega)
        have hfz := World.ownsRow.frozenAt ho j
        have hst := World.ownsRow.stored ho j (bv (UInt8.ofNat (48 + y.toNat % 8)))
        have hset := set_dig j (UInt8.ofNat (48 + y.toNat % 8)) t
        have hgi : ((List.replicate (j + 1) (0 : UInt8) ++ t).map bv)[j]? = some (bv 0) := by
          rw [List.getElem?_map, List.getElem?_append_left (by simp), List.getElem?_replicate, if_pos (by omega)]
          rfl
        rw [hgi] at hcell
        have hbv : bv (UInt8.ofNat (48 + y.toNat % 8)) = .int .u8 (48 + y % 8) := by
          unfold bv
          rw [dig_natJ _ (Nat.mod_lt _ (by decide))]
          congr 1
          omega
        have HN : Hid (octL j (y / 8).toNat (UInt8.ofNat (48 + y.toNat % 8) :: t) = O) := Lib.hid (by
          rw [← HB.out, show (y / 8).toNat = y.toNat / 8 by omega]; rfl)
        have hown2 : OwnB (wr.setCell ⟨g, j, none⟩ (bv (UInt8.ofNat (48 + y.toNat % 8)))) g (.slice (some ⟨g, 0, none⟩) 7 7) (List.replicate j 0 ++ UInt8.ofNat (48 + y.toNat % 8) :: t) := by
          have h1 := hst.1
          rw [← List.map_set, hset] at h1
          unfold OwnB
          rw [show (List.replicate j (0 : UInt8) ++ UInt8.ofNat (48 + y.toNat % 8) :: t).length = 7 by (simp; omega)]
          exact h1
        have hb2 : Below g w (wr.setCell ⟨g, j, none⟩ (bv (UInt8.ofNat (48 + y.toNat % 8)))) := hb.setCell (Nat.le_refl _) _
        rw [hbv] at hown2 hb2
        have HO2 := Lib.hid hown2
        have HB2 := Lib.hid hb2
        have e7 := and_7 y
        have m0 : (0 : Int) ≤ y % 8 := by omega
        have m7 : y % 8 < 8 := by omega
        have HY2 : Hid (y / 8 < 8589934592) := Lib.hid (by have := HY.out; omega)
        have hy2 : 0 ≤ y / 8 := by omega
        have hw8 : IntKind.i64.wrap (y / 8) = y / 8 := wrap_lit_i64 _ (by omega) (by have := HY.out; omega)
        clear hown2 hb2 hst hset hgi ho hlen hll hbv HY
        go_wp2_with fail
        go_roundw
        case rel => exact ⟨j, y / 8, _, dwn j, rfl, hy2, HY2, by simp; omega, HN, HO2.out, HB2.out⟩
        case measure => simp [intOf] <;> omega
set_option maxRecDepth 100000 in
set_option maxHeartbeats 2000000 in
theorem oOctal_8 (v n : Nat) (w : World) (hn : n = 8) (hv : v < 8 ^ (n - 1)) :
    Calls Tryd.prog 106 #[.int .i64 v, .int .i64 n] w fun e w' => e = .returned (.tuple #[.string (S (octL (n - 1) v [0])), .bool true]) ∧ Below w.heap.size w w' := by
  have hv2 : v < 8589934592 := Nat.lt_of_lt_of_le hv (Nat.le_trans (Nat.pow_le_pow_right (by omega) (show n - 1 ≤ 11 by omega)) (by decide))
  have hm : mayO (n : Int) = true := decide_eq_true (by omega)
  have HM := Lib.hid (may_any (n : Int) w)
  rw [hm] at HM
  have hmk := mk_bytes n n (Nat.le_refl _) (by omega) w
  have hown0 := own_bytes n n (Nat.le_refl _) (by omega) w w.heap.size (Nat.le_refl _)
  have hx0 : Below w.heap.size w (w.alloc (.cells (zerosA n) 5)) := (Below.refl _ _).alloc (Nat.le_refl _) _
  generalize hO : octL (n - 1) v [0] = O
  obtain ⟨x, hx⟩ : ∃ x : Int, (v : Int) = x := ⟨_, rfl⟩
  have hxv : x.toNat = v := by omega
  rw [← hxv] at hO
  have HO := Lib.hid hO
  clear hO hm
  have a3 : ¬ x < 0 := by omega
  have a4 : ∀ P : Nat, 8 ^ (n - 1) = P → (P : Int) ≤ (v : Int) → False := by intro P e h; subst e; omega
  rw [hx] at a4
  have HXB := Lib.hid (show x < 8589934592 by omega)
  rw [hx]
  clear hv hv2 hxv
  subst hn
  skip
  ·
    have a5 : ¬ x ≥ 2097152 := fun h => a4 2097152 (by decide) h
    clear a4 hx
    have hmk2 : (Instr.makeSlice 46 (.int .i64 8) (.int .i64 8)).run Tryd.prog w = .ok (.slice (some ⟨w.heap.size, 0, none⟩) 8 8) (w.alloc (.cells (zerosA 8) 5)) := hmk
    clear hmk
    go_enter Tryd.func106, Tryd.ntmps106
    go_wp2_with fail
    refine (HM.out).mono ?_
    rintro e w1 ⟨rfl, rfl⟩
    clear HM
    go_wp2_with fail
    clear hmk2
    generalize w.alloc (.cells (zerosA 8) 5) = W at *
    have hgG : w.heap.size < W.heap.size := (World.ownsRow.lt hown0 _ rfl).2
    generalize hgg : w.heap.size = g at *
    go_loopw [0, 7] (fun v0 v7 wr => ∃ (k : Nat) (y : Int) (t : List UInt8), (k = 0 ∧ v7 = .int .i64 (-1) ∨ ∃ j : Nat, k = j + 1 ∧ v7 = .int .i64 (j : Int)) ∧ v0 = .int .i64 y ∧ 0 ≤ y ∧ Hid (y < 8589934592) ∧ k + t.length = 8 ∧ Hid (octL k y.toNat t = O) ∧
      OwnB wr g (.slice (some ⟨g, 0, none⟩) 8 8) (List.replicate k 0 ++ t) ∧ Below g w wr) (fun _ v7 _ => (intOf v7 + 1).toNat)
    case atStart => exact ⟨7, x, [0], .inr ⟨6, rfl, rfl⟩, rfl, by omega, HXB, rfl, HO, hown0, hx0⟩
    case round =>
      obtain ⟨k, y, t, hk, rfl, hy0, HY, hkt, HB, hown, hb⟩ := hrel
      have hlen : ∀ q : List UInt8, q.length = 8 → OwnB wr g (.slice (some ⟨g, 0, none⟩) 8 8) q → wr.ownsRow g 5 1 (.slice (some ⟨g, 0, none⟩) 8 8) 8 (q.map bv) := fun q hq h => by unfold OwnB at h; rw [hq] at h; exact h
      rcases hk with ⟨rfl, rfl⟩ | ⟨j, rfl, rfl⟩
      · rw [List.replicate_zero, List.nil_append] at hown
        have hstr := run_string_own wr _ _ _ hown
        have HE : Hid (O = t) := Lib.hid HB.out.symm
        clear hlen hkt HY
        go_wp2_with fail
        go_ret2
        exact ⟨by rw [HE.out]; rfl, by rw [hgg]; exact hb⟩
      · have hj : j < 8 := by omega
        have hll : (List.replicate (j + 1) (0 : UInt8) ++ t).length = 8 := by simp; omega
        have ho := hlen _ hll hown
        have hcell := World.ownsRow.cellAt ho j (by omega)
        have hfz := World.ownsRow.frozenAt ho j
        have hst := World.ownsRow.stored ho j (bv (UInt8.ofNat (48 + y.toNat % 8)))
        have hset := set_dig j (UInt8.ofNat (48 + y.toNat % 8)) t
        have hgi : ((List.replicate (j + 1) (0 : UInt8) ++ t).map bv)[j]? = some (bv 0) := by
          rw [List.getElem?_map, List.getElem?_append_left (by simp), List.getElem?_replicate, if_pos (by omega)]
          rfl
        rw [hgi] at hcell
        have hbv : bv (UInt8.ofNat (48 + y.toNat % 8)) = .int .u8 (48 + y % 8) := by
          unfold bv
          rw [dig_natJ _ (Nat.mod_lt _ (by decide))]
          congr 1
          omega
        have HN : Hid (octL j (y / 8).toNat (UInt8.ofNat (48 + y.toNat % 8) :: t) = O) := Lib.hid (by
          rw [← HB.out, show (y / 8).toNat = y.toNat / 8 by omega]; rfl)
        have hown2 : OwnB (wr.setCell ⟨g, j, none⟩ (bv (UInt8.ofNat (48 + y.toNat % 8)))) g (.slice (some ⟨g, 0, none⟩) 8 8) (List.replicate j 0 ++ UInt8.ofNat (48 + y.toNat % 8) :: t) := by
          have h1 := hst.1
          rw [← List.map_set, hset] at h1
          unfold OwnB
          rw [show (List.replicate j (0 : UInt8) ++ UInt8.ofNat (48 + y.toNat % 8) :: t).length = 8 by (simp; omega)]
          exact h1
        have hb2 : Below g w (wr.setCell ⟨g, j, none⟩ (bv (UInt8.ofNat (48 + y.toNat % 8)))) := hb.setCell (Nat.le_refl _) _
        rw [hbv] at hown2 hb2
        have HO2 := Lib.hid hown2
        have HB2 := Lib.hid hb2
        have e7 := and_7 y
        have m0 : (0 : Int) ≤ y % 8 := by omega
        have m7 : y % 8 < 8 := by omega
        have HY2 : Hid (y / 8 < 8589934592) := Lib.hid (by have := HY.out; omega)
        have hy2 : 0 ≤ y / 8 := by omega
        have hw8 : IntKind.i64.wrap (y / 8) = y / 8 := wrap_lit_i64 _ (by omega) (by have := HY.out; omega)
        clear hown2 hb2 hst hset hgi ho hlen hll hbv HY
        go_wp2_with fail
        go_roundw
        case rel => exact ⟨j, y / 8, _, dwn j, rfl, hy2, HY2, by simp; omega, HN, HO2.out, HB2.out⟩
        case measure => simp [intOf] <;> omega
set_option maxRecDepth 100000 in
set_option maxHeartbeats 2000000 in
theorem oOctal_12 (v n : Nat) (w : World) (hn : n = 12) (hv : v < 8 ^ (n - 1)) :
    Calls Tryd.prog 106 #[.int .i64 v, .int .i64 n] w fun e w' => e = .returned (.tuple #[.string (S (octL (n - 1) v [0])), .bool true]) ∧ Below w.heap.size w w' := by
  have hv2 : v < 8589934592 := Nat.lt_of_lt_of_le hv (Nat.le_trans (Nat.pow_le_pow_right (by omega) (show n - 1 ≤ 11 by omega)) (by decide))
  have hm : mayO (n : Int) = true := decide_eq_true (by omega)
  have HM := Lib.hid (may_any (n : Int) w)
  rw [hm] at HM
  have hmk := mk_bytes n n (Nat.le_refl _) (by omega) w
  have hown0 := own_bytes n n (Nat.le_refl _) (by omega) w w.heap.size (Nat.le_refl _)
  have hx0 : Below w.heap.size w (w.alloc (.cells (zerosA n) 5)) := (Below.refl _ _).alloc (Nat.le_refl _) _
  generalize hO : octL (n - 1) v [0] = O
  obtain ⟨x, hx⟩ : ∃ x : Int, (v : Int) = x := ⟨_, rfl⟩
  have hxv : x.toNat = v := by omega
  rw [← hxv] at hO
  have HO := Lib.hid hO
  clear hO hm
  have a3 : ¬ x < 0 := by omega
  have a4 : ∀ P : Nat, 8 ^ (n - 1) = P → (P : Int) ≤ (v : Int) → False := by intro P e h; subst e; omega
  rw [hx] at a4
  have HXB := Lib.hid (show x < 8589934592 by omega)
  rw [hx]
  clear hv hv2 hxv
  subst hn
  skip
  ·
    have a5 : ¬ x ≥ 8589934592 := fun h => a4 8589934592 (by decide) h
    clear a4 hx
    have hmk2 : (Instr.makeSlice 46 (.int .i64 12) (.int .i64 12)).run Tryd.prog w = .ok (.slice (some ⟨w.heap.size, 0, none⟩) 12 12) (w.alloc (.cells (zerosA 12) 5)) := hmk
    clear hmk
    go_enter Tryd.func106, Tryd.ntmps106
    go_wp2_with fail
    refine (HM.out).mono ?_
    rintro e w1 ⟨rfl, rfl⟩
    clear HM
    go_wp2_with fail
    clear hmk2
    generalize w.alloc (.cells (zerosA 12) 5) = W at *
    have hgG : w.heap.size < W.heap.size := (World.ownsRow.lt hown0 _ rfl).2
    generalize hgg : w.heap.size = g at *
    go_loopw [0, 7] (fun v0 v7 wr => ∃ (k : Nat) (y : Int) (t : List UInt8), (k = 0 ∧ v7 = .int .i64 (-1) ∨ ∃ j : Nat, k = j + 1 ∧ v7 = .int .i64 (j : Int)) ∧ v0 = .int .i64 y ∧ 0 ≤ y ∧ Hid (y < 8589934592) ∧ k + t.length = 12 ∧ Hid (octL k y.toNat t = O) ∧
      OwnB wr g (.slice (some ⟨g, 0, none⟩) 12 12) (List.replicate k 0 ++ t) ∧ Below g w wr) (fun _ v7 _ => (intOf v7 + 1).toNat)
    case atStart => exact ⟨11, x, [0], .inr ⟨10, rfl, rfl⟩, rfl, by omega, HXB, rfl, HO, hown0, hx0⟩
    case round =>
      obtain ⟨k, y, t, hk, rfl, hy0, HY, hkt, HB, hown, hb⟩ := hrel
      have hlen : ∀ q : List UInt8, q.length = 12 → OwnB wr g (.slice (some ⟨g, 0, none⟩) 12 12) q → wr.ownsRow g 5 1 (.slice (some ⟨g, 0, none⟩) 12 12) 12 (q.map bv) := fun q hq h => by unfold OwnB at h; rw [hq] at h; exact h
      rcases hk with ⟨rfl, rfl⟩ | ⟨j, rfl, rfl⟩
      · rw [List.replicate_zero, List.nil_append] at hown
        have hstr := run_string_own wr _ _ _ hown
        have HE : Hid (O = t) := Lib.hid HB.out.symm
        clear hlen hkt HY
        go_wp2_with fail
        go_ret2
        exact ⟨by rw [HE.out]; rfl, by rw [hgg]; exact hb⟩
      · have hj : j < 12 := by omega
        have hll : (List.replicate (j + 1) (0 : UInt8) ++ t).length = 12 := by simp; omega
        have ho := hlen _ hll hown
        have hcell := World.ownsRow.cellAt ho j (by omega)
        have hfz := World.ownsRow.frozenAt ho j
        have hst := World.ownsRow.stored ho j (bv (UInt8.ofNat (48 + y.toNat % 8)))
        have hset := set_dig j (UInt8.ofNat (48 + y.toNat % 8)) t
        have hgi : ((List.replicate (j + 1) (0 : UInt8) ++ t).map bv)[j]? = some (bv 0) := by
          rw [List.getElem?_map, List.getElem?_append_left (by simp), List.getElem?_replicate, if_pos (by omega)]
          rfl
        rw [hgi] at hcell
        have hbv : bv (UInt8.ofNat (48 + y.toNat % 8)) = .int .u8 (48 + y % 8) := by
          unfold bv
          rw [dig_natJ _ (Nat.mod_lt _ (by decide))]
          congr 1
          omega
        have HN : Hid (octL j (y / 8).toNat (UInt8.ofNat (48 + y.toNat % 8) :: t) = O) := Lib.hid (by
          rw [← HB.out, show (y / 8).toNat = y.toNat / 8 by omega]; rfl)
        have hown2 : OwnB (wr.setCell ⟨g, j, none⟩ (bv (UInt8.ofNat (48 + y.toNat % 8)))) g (.slice (some ⟨g, 0, none⟩) 12 12) (List.replicate j 0 ++ UInt8.ofNat (48 + y.toNat % 8) :: t) := by
          have h1 := hst.1
          rw [← List.map_set, hset] at h1
          unfold OwnB
          rw [show (List.replicate j (0 : UInt8) ++ UInt8.ofNat (48 + y.toNat % 8) :: t).length = 12 by (simp; omega)]
          exact h1
        have hb2 : Below g w (wr.setCell ⟨g, j, none⟩ (bv (UInt8.ofNat (48 + y.toNat % 8)))) := hb.setCell (Nat.le_refl _) _
        rw [hbv] at hown2 hb2
        have HO2 := Lib.hid hown2
        have HB2 := Lib.hid hb2
        have e7 := and_7 y
        have m0 : (0 : Int) ≤ y % 8 := by omega
        have m7 : y % 8 < 8 := by omega
        have HY2 : Hid (y / 8 < 8589934592) := Lib.hid (by have := HY.out; omega)
        have hy2 : 0 ≤ y / 8 := by omega
        have hw8 : IntKind.i64.wrap (y / 8) = y / 8 := wrap_lit_i64 _ (by omega) (by have := HY.out; omega)
        clear hown2 hb2 hst hset hgi ho hlen hll hbv HY
        go_wp2_with fail
        go_roundw
        case rel => exact ⟨j, y / 8, _, dwn j, rfl, hy2, HY2, by simp; omega, HN, HO2.out, HB2.out⟩
        case measure => simp [intOf] <;> omega
theorem oOctal_yes (v n : Nat) (w : World) (hn : n = 7 ∨ n = 8 ∨ n = 12) (hv : v < 8 ^ (n - 1)) :
    Calls Tryd.prog 106 #[.int .i64 v, .int .i64 n] w fun e w' => e = .returned (.tuple #[.string (S (octL (n - 1) v [0])), .bool true]) ∧ Below w.heap.size w w' := by
  rcases hn with hn | hn | hn
  · exact oOctal_7 v n w hn hv
  · exact oOctal_8 v n w hn hv
  · exact oOctal_12 v n w hn hv
end Go.Proofs.YtjldphpdfckjnaaDoor
namespace Go.Proofs.YtjldphpdfckjnaaDoor
open Go.RowKit

set_option maxRecDepth 100000 in
set_option maxHeartbeats 2000000 in
theorem oOctal_no (v : Int) (n : Nat) (w : World) (hn : n = 8 ∨ n = 12) (hv : v < 0 ∨ ((8 ^ (n - 1) : Nat) : Int) ≤ v) :
    Calls Tryd.prog 106 #[.int .i64 v, .int .i64 n] w fun e w' => e = .returned (.tuple #[.string (S []), .bool false]) ∧ w = w' := by
  have hm : mayO (n : Int) = true := decide_eq_true (by omega)
  have HM := Lib.hid (may_any (n : Int) w)
  rw [hm] at HM
  clear hm
  by_cases h0 : v < 0
  · clear hv
    rcases hn with rfl | rfl
    all_goals
      go_enter Tryd.func106, Tryd.ntmps106
      go_wp2_with fail
      refine (HM.out).mono ?_
      rintro e w1 ⟨rfl, rfl⟩
      clear HM
      go_wp2_with fail
      go_ret2
      exact ⟨rfl, rfl⟩
  · rcases hn with rfl | rfl
    · have a5 : v ≥ 2097152 := by
        have : (8 : Nat) ^ (8 - 1) = 2097152 := by decide
        rw [this] at hv
        omega
      clear hv
      go_enter Tryd.func106, Tryd.ntmps106
      go_wp2_with fail
      refine (HM.out).mono ?_
      rintro e w1 ⟨rfl, rfl⟩
      clear HM
      go_wp2_with fail
      go_ret2
      exact ⟨rfl, rfl⟩
    · have a5 : v ≥ 8589934592 := by
        have : (8 : Nat) ^ (12 - 1) = 8589934592 := by decide
        rw [this] at hv
        omega
      clear hv
      go_enter Tryd.func106, Tryd.ntmps106
      go_wp2_with fail
      refine (HM.out).mono ?_
      rintro e w1 ⟨rfl, rfl⟩
      clear HM
      go_wp2_with fail
      go_ret2
      exact ⟨rfl, rfl⟩
end Go.Proofs.YtjldphpdfckjnaaDoor
