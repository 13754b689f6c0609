/- Volumes: volume.Join, walked. -/
import Derived.Test.YtjldphpdfckjnaaDoorVolC
import Derived.Test.YtjldphpdfckjnaaDoorStrs
import Derived.Test.YtjldphpdfckjnaaDoorMakeR
import Derived.Lib.Join
namespace Go.Proofs.YtjldphpdfckjnaaDoor
open Go.RowKit

theorem join_plain (l : List (List UInt8)) : Lib.join l [] = l.flatten := by
  induction l with
  | nil => rfl
  | cons x l ih =>
    rw [Lib.join_cons, List.flatten_cons]
    congr 1
    unfold Lib.joinTail
    simp
theorem flat_le (M : Nat) : ∀ l : List (List UInt8), (∀ q ∈ l, q.length ≤ M) → l.flatten.length ≤ l.length * M
  | [], _ => by simp
  | x :: l, h => by
    have h1 := flat_le M l (fun q hq => h q (List.mem_cons_of_mem _ hq))
    have h2 := h x (by simp)
    rw [List.flatten_cons, List.length_append, List.length_cons, Nat.succ_mul]
    omega
theorem getP_le (acc : List (Nat × List UInt8)) (n M : Nat) (h : ∀ p ∈ acc, p.2.length ≤ M) : (getP acc n).length ≤ acc.length * M := by
  unfold getP
  refine Nat.le_trans (flat_le M _ ?_) (Nat.mul_le_mul_right _ ?_)
  · intro q hq
    obtain ⟨p, hp, rfl⟩ := List.mem_map.1 hq
    exact h p (List.mem_filter.1 hp).1
  · rw [List.length_map]; exact List.length_filter_le _ _
theorem gath_le (acc : List (Nat × List UInt8)) (n M : Nat) (h : ∀ p ∈ acc, p.2.length ≤ M) : (gath acc n).length ≤ n * (acc.length * M) := by
  unfold gath
  refine Nat.le_trans (flat_le (acc.length * M) _ ?_) (by simp)
  intro q hq
  obtain ⟨i, hi, rfl⟩ := List.mem_map.1 hq
  exact getP_le acc i M h
theorem info_str1 : (Tryd.prog.info? 9).map (fun i => (i.zero, i.size, i.bytes)) = some (some (.string ⟨#[]⟩), 1, 16) := by kernel_rfl
theorem info_bool1 : (Tryd.prog.info? 4).map (fun i => (i.zero, i.size, i.bytes)) = some (some (.bool false), 1, 1) := by kernel_rfl
theorem vJoin_none (a : Option Addr) (c : Nat) (w : World) : Calls Tryd.prog 16 #[.slice a 0 c] w fun e w' => e = .returned (.tuple #[.string (S []), .int .i64 0, .int .i64 9]) ∧ w = w' := by
  go_enter Tryd.func16, Tryd.ntmps16
  go_wp2_with fail
  go_ret3
  exact ⟨rfl, rfl⟩
def partsF (acc : List (Nat × List UInt8)) (i : Nat) : Value := .string (S (getP acc i))
def thereF (acc : List (Nat × List UInt8)) (i : Nat) : Value := .bool (hasP acc i)
set_option maxRecDepth 100000 in
set_option maxHeartbeats 8000000 in
theorem vJoin_some (L : List (List UInt8)) (v : Value) (h0 : 0 < L.length) (hl : L.length ≤ 1000) (hm : ∀ q ∈ L, q.length ≤ 1000000) (w : World) (hv : StrsV w v L) :
    Calls Tryd.prog 16 #[v] w fun e w' => e = .returned (.tuple #[.string (S (joinV L.length L 0 []).1), .int .i64 (joinV L.length L 0 []).2.1, .int .i64 (joinV L.length L 0 []).2.2]) ∧ Below w.heap.size w w' := by
  obtain ⟨a, c, rfl, hv⟩ := hv
  obtain ⟨b, off, rfl, hb, hcell⟩ := hv h0
  obtain ⟨n, hn⟩ : ∃ n, n = L.length := ⟨_, rfl⟩
  have hcell : ∀ j, j < n → w.cell? ⟨b, off + j, none⟩ = some (.string (S (L.getD j []))) := fun j hj => by
    rw [List.getD_eq_getElem?_getD, List.getElem?_eq_getElem (by omega)]; exact hcell j (by omega)
  have hmm : ∀ k, k < n → (L.getD k []).length ≤ 1000000 := fun k h => by
    rw [List.getD_eq_getElem?_getD, List.getElem?_eq_getElem (by omega)]; exact hm _ (List.getElem_mem _)
  have hdr : ∀ k, k < n → L.drop k = L.getD k [] :: L.drop (k + 1) := fun k h => by
    rw [List.getD_eq_getElem?_getD, List.getElem?_eq_getElem (by omega)]; exact List.drop_eq_getElem_cons (by omega)
  rw [← hn] at h0 hl ⊢
  obtain ⟨R, hR⟩ : ∃ R, joinV n L 0 [] = R := ⟨_, rfl⟩
  rw [hR]
  have HCE := Lib.hid hcell
  have HM := Lib.hid hmm
  have HDR := Lib.hid hdr
  have hn0 : ((n : Int) == 0) = false := beq_eq_false_iff_ne.2 (by omega)
  have hmk1 : ∀ w : World, (Instr.makeSlice 29 (.int .i64 n) (.int .i64 n)).run Tryd.prog w = .ok (.slice (some ⟨w.heap.size, 0, none⟩) n n) (w.alloc (.cells (madeCells #[.string ⟨#[]⟩] n) 9)) := fun w => mk_row _ _ _ 16 Tryd.underlying29 info_str1 rfl (by decide) n (by omega) w
  have hmk2 : ∀ w : World, (Instr.makeSlice 78 (.int .i64 n) (.int .i64 n)).run Tryd.prog w = .ok (.slice (some ⟨w.heap.size, 0, none⟩) n n) (w.alloc (.cells (madeCells #[.bool false] n) 4)) := fun w => mk_row _ _ _ 1 Tryd.underlying78 info_bool1 rfl (by decide) n (by omega) w
  have HN := Lib.hid hn
  have HR := Lib.hid hR
  clear hv hcell hm hn hR hmm hdr
  go_enter Tryd.func16, Tryd.ntmps16
  go_upto_region 5 with (fail)
  have hP0 : RowF ((w.alloc (.cells (madeCells #[.string ⟨#[]⟩] n) 9)).alloc (.cells (madeCells #[.bool false] n) 4)) w.heap.size 9 n (partsF []) := (RowF.new w _ _ n).alloc _
  have hT0 : RowF ((w.alloc (.cells (madeCells #[.string ⟨#[]⟩] n) 9)).alloc (.cells (madeCells #[.bool false] n) 4)) (w.heap.size + 1) 4 n (thereF []) := by
    have := RowF.new (w.alloc (.cells (madeCells #[.string ⟨#[]⟩] n) 9)) 4 (.bool false) n
    rw [show (w.alloc (.cells (madeCells #[.string ⟨#[]⟩] n) 9)).heap.size = w.heap.size + 1 by simp] at this
    exact this
  have hX0 : Below w.heap.size w ((w.alloc (.cells (madeCells #[.string ⟨#[]⟩] n) 9)).alloc (.cells (madeCells #[.bool false] n) 4)) := ((Below.refl _ _).alloc (Nat.le_refl _) _).alloc (by simp) _
  generalize (w.alloc (.cells (madeCells #[.string ⟨#[]⟩] n) 9)).alloc (.cells (madeCells #[.bool false] n) 4) = W0 at *
  clear hmk1 hmk2
  go_wp2_with fail
  go_loopw [23] (fun i wr => ∃ (k : Nat) (acc : List (Nat × List UInt8)), i = .int .i64 k ∧ k ≤ n ∧ Hid (joinV n (L.drop k) k acc = R) ∧ Hid (acc.length = k) ∧ Hid (∀ p ∈ acc, p.2.length ≤ 1000000) ∧ RowF wr w.heap.size 9 n (partsF acc) ∧ RowF wr (w.heap.size + 1) 4 n (thereF acc) ∧ Below w.heap.size w wr) (fun i _ => n - (intOf i).toNat)
  case atStart => exact ⟨0, [], rfl, Nat.zero_le _, Lib.hid (by rw [List.drop_zero]; exact HR.out), Lib.hid rfl, Lib.hid (by simp), hP0, hT0, hX0⟩
  case round =>
    obtain ⟨k, acc, rfl, hk, HJ, HA, HQ, hP, hT, hX⟩ := hrel
    clear hP0 hT0 hX0
    by_cases hlt : k < n
    · have hc : wr.cell? ⟨b, off + k, none⟩ = some (.string (S (L.getD k []))) := by rw [hX.cell (by exact hb)]; exact HCE.out k hlt
      have hml := HM.out k hlt
      have hd := HDR.out k hlt
      generalize L.getD k [] = q at *
      have hRN := read_num q
      have hRA := fun w => vRead_any q hml w
      replace HJ := HJ.out
      rw [hd, joinV] at HJ
      generalize readV q = P at *
      obtain ⟨⟨nu, cn, lz, ls⟩, by', er⟩ := P
      simp only at hRN HJ
      have HRA := Lib.hid hRA
      unfold LabV at HRA
      clear hRA hd
      go_wp2_with fail
      refine (HRA.out _).mono ?_
      rintro e w1 ⟨rfl, hb1⟩
      have hX1 := hX.trans (hb1.mono hX.size)
      have hP1 := hP.below hb1
      have hT1 := hT.below hb1
      have hlT := hT1.lt
      clear hX hP hT hb1 hc HRA
      by_cases he : er = 0
      rotate_left
      · have HE := Lib.hid (show R = ([], k, er) by rw [← HJ, if_pos he])
        have hb : ((er : Int) != 0) = true := bne_iff_ne.2 (by omega)
        clear HJ he hRN
        go_wp2_with fail
        go_ret3
        exact ⟨by rw [HE.out]; rfl, hX1.alloc hX1.size _⟩
      subst he
      rw [if_neg (fun g => g rfl)] at HJ
      have hb : (((0 : Nat) : Int) != 0) = false := rfl
      by_cases he : cn = n
      rotate_left
      · have HE := Lib.hid (show R = ([], k, 2) by rw [← HJ, if_pos he])
        have hb2 : (cn != (n : Int)) = true := bne_iff_ne.2 he
        clear HJ he hRN
        go_wp2_with fail
        go_ret3
        exact ⟨by rw [HE.out]; rfl, hX1.alloc hX1.size _⟩
      subst he
      rw [if_neg (fun g => g rfl)] at HJ
      obtain ⟨r0, r1, r2⟩ := hRN rfl
      obtain ⟨x, rfl⟩ : ∃ x : Nat, nu = x := ⟨nu.toNat, by omega⟩
      rw [Int.toNat_natCast] at HJ
      have hxn : x < n := by omega
      have hbn : ((n : Int) != (n : Int)) = false := by simp
      have hX2 : Below w.heap.size w (w1.alloc (.cells #[.int .i64 x, .int .i64 n, .int .i64 lz, .int .i64 ls] 31)) := hX1.alloc hX1.size _
      have hP2 : RowF (w1.alloc (.cells #[.int .i64 x, .int .i64 n, .int .i64 lz, .int .i64 ls] 31)) w.heap.size 9 n (partsF acc) := hP1.alloc _
      have hT2 : RowF (w1.alloc (.cells #[.int .i64 x, .int .i64 n, .int .i64 lz, .int .i64 ls] 31)) (w.heap.size + 1) 4 n (thereF acc) := hT1.alloc _
      have hAt : AtB (w1.alloc (.cells #[.int .i64 x, .int .i64 n, .int .i64 lz, .int .i64 ls] 31)) w1.heap.size 31 [.int .i64 x, .int .i64 n, .int .i64 lz, .int .i64 ls] := AtB.new w1 _ [.int .i64 x, .int .i64 n, .int .i64 lz, .int .i64 ls]
      go_upto_region 9 with (fail)
      generalize w1.alloc (.cells #[.int .i64 x, .int .i64 n, .int .i64 lz, .int .i64 ls] 31) = w2 at *
      have hgl : w.heap.size + 1 < w1.heap.size := hlT
      generalize w1.heap.size = g9 at *
      have c0 : w2.cell? ⟨g9, 0, none⟩ = some (.int .i64 x) := hAt.cell 0
      have c1 : w2.cell? ⟨g9, 1, none⟩ = some (.int .i64 n) := hAt.cell 1
      clear hX1 hP1 hT1 hAt hlT
      have hxI : (x : Int) < (n : Int) := by omega
      cases hh : hasP acc x with
      | true =>
        have HE := Lib.hid (show R = ([], k, 13) by rw [← HJ, if_pos hh])
        have ct : w2.cell? ⟨w.heap.size + 1, x, none⟩ = some (.bool true) := by rw [hT2.cell x hxn, thereF, hh]
        clear HJ hh r0 r1 r2
        go_wp2_with fail
        go_ret3
        exact ⟨by rw [HE.out]; rfl, hX2⟩
      | false =>
        rw [hh, if_neg (by decide)] at HJ
        have ct : w2.cell? ⟨w.heap.size + 1, x, none⟩ = some (.bool false) := by rw [hT2.cell x hxn, thereF, hh]
        have cp : w2.cell? ⟨w.heap.size, x, none⟩ = some (.string (S (getP acc x))) := hP2.cell x hxn
        have ft : w2.frozen? ⟨w.heap.size + 1, x, none⟩ = false := hT2.fz x
        have fp : w2.frozen? ⟨w.heap.size, x, none⟩ = false := hP2.fz x
        have HNW := Lib.hid HJ
        have HPN : Hid (RowF (((w2.setCell ⟨w.heap.size + 1, x, none⟩ (.bool true)).setCell ⟨w.heap.size, x, none⟩ (.string (S by'))).drew) w.heap.size 9 n (partsF (acc ++ [(x, by')]))) := Lib.hid (by
          have e : Value.string (S by') = partsF (acc ++ [(x, by')]) x := by
            unfold partsF
            rw [getP_app, getP_none acc x hh, getP_one, if_pos rfl]; rfl
          rw [e]
          refine ((hP2.setOther (w.heap.size + 1) x _ (by omega)).set x (partsF (acc ++ [(x, by')])) (fun j _ hj => ?_)).drew
          unfold partsF
          rw [getP_app, getP_one, if_neg (fun e => hj e.symm), List.append_nil])
        have HTN : Hid (RowF (((w2.setCell ⟨w.heap.size + 1, x, none⟩ (.bool true)).setCell ⟨w.heap.size, x, none⟩ (.string (S by'))).drew) (w.heap.size + 1) 4 n (thereF (acc ++ [(x, by')]))) := Lib.hid (by
          have e : Value.bool true = thereF (acc ++ [(x, by')]) x := by
            unfold thereF
            rw [hasP_app]; simp
          rw [e]
          refine ((hT2.set x (thereF (acc ++ [(x, by')])) (fun j _ hj => ?_)).setOther w.heap.size x _ (by omega)).drew
          unfold thereF
          rw [hasP_app]
          have : (x == j) = false := beq_eq_false_iff_ne.2 (fun e => hj e.symm)
          rw [this, Bool.or_false])
        have HXN : Hid (Below w.heap.size w (((w2.setCell ⟨w.heap.size + 1, x, none⟩ (.bool true)).setCell ⟨w.heap.size, x, none⟩ (.string (S by'))).drew)) := Lib.hid (((hX2.setCell (by simp) _).setCell (by simp) _).drew)
        have HLN : Hid ((acc ++ [(x, by')]).length = k + 1) := Lib.hid (by rw [List.length_append, HA.out]; rfl)
        have HQN : Hid (∀ p ∈ acc ++ [(x, by')], p.2.length ≤ 1000000) := Lib.hid (by
          intro p hp
          rcases List.mem_append.1 hp with g | g
          · exact HQ.out p g
          · rw [List.mem_singleton.1 g]; exact Nat.le_trans r2 hml)
        clear HJ hh r0 r1 r2 hX2 hP2 hT2 hml
        go_wp2_with fail
        go_region
        go_wp2_with fail
        go_roundw
        case rel => exact ⟨k + 1, acc ++ [(x, by')], by go_num, by omega, HNW, HLN, HQN, HPN.out, HTN.out, HXN.out⟩
        case measure => simp [intOf] <;> omega
    · have hkn : k = n := by omega
      subst hkn
      have HRE := Lib.hid (show R = (gath acc k, 0, 0) by
        rw [← HJ.out, List.drop_eq_nil_of_le (by rw [← HN.out]; exact Nat.le_refl _), joinV])
      have hjl : Lib.join (((List.range k).map fun i => S (getP acc i)).map (·.data.toList)) (⟨#[]⟩ : ByteArray).data.toList = gath acc k := by
        rw [show (⟨#[]⟩ : ByteArray).data.toList = [] from rfl, join_plain, List.map_map]
        rfl
      have hgl : (gath acc k).length ≤ 140737488355328 := by
        have := gath_le acc k 1000000 HQ.out
        rw [HA.out] at this
        have h2 : k * (k * 1000000) ≤ 1000 * (1000 * 1000000) := Nat.mul_le_mul hl (Nat.mul_le_mul_right _ hl)
        omega
      have hSJ := Go.Proofs.Tryd.strings_Join w.heap.size 0 k ((List.range k).map fun i => S (getP acc i)) ⟨#[]⟩ wr (fun j x hx => by
        rw [List.getElem?_map] at hx
        obtain ⟨i, hi, rfl⟩ := Option.map_eq_some_iff.1 hx
        obtain ⟨hj, rfl⟩ := List.getElem?_eq_some_iff.1 hi
        rw [List.getElem_range, Nat.zero_add]
        rw [List.length_range] at hj
        exact hP.cell j hj) hP.lt (by simp; omega) (by simp) (by rw [hjl]; exact hgl)
      rw [hjl, List.length_map, List.length_range] at hSJ
      have HSJ := Lib.hid hSJ
      clear hSJ hjl
      go_wp2_with fail
      refine HSJ.out.mono ?_
      rintro e w1 ⟨rfl, hb1⟩
      go_wp2_with fail
      go_ret3
      exact ⟨by rw [HRE.out]; rfl, hX.trans (hb1.mono hX.size)⟩
end Go.Proofs.YtjldphpdfckjnaaDoor
