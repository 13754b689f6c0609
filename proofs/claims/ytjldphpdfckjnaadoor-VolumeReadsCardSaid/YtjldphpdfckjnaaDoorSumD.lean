/- Sums of blocks: sums.both, walked; the document's Sum. Sums of blocks: the document's Sum, walked. Sums of blocks: Right, the program's and the document's, walked. Sums of blocks: Seal, the program's and the document's, walked. -/
import Derived.Test.YtjldphpdfckjnaaDoorSumP
import Derived.Test.YtjldphpdfckjnaaDoorAtB
import Derived.Test.YtjldphpdfckjnaaDoorOctG
import Derived.Test.YtjldphpdfckjnaaDoorOctK
import Derived.BigQuiet
namespace Go.Proofs.YtjldphpdfckjnaaDoor
open Go.RowKit

theorem i8_wrap (c : UInt8) : IntKind.i8.wrap (c.toNat : Int) = if 128 ≤ c.toNat then (c.toNat : Int) - 256 else c.toNat := by
  have h := all_bytes (fun c => decide (IntKind.i8.wrap (c.toNat : Int) = if 128 ≤ c.toNat then (c.toNat : Int) - 256 else c.toNat)) (by decide +kernel) c
  exact of_decide_eq_true h
theorem getD_S (s : List UInt8) (k : Nat) (h : k < (S s).size) : s.getD k 0 = (S s)[k]'h := by
  rw [S_size] at h
  rw [List.getD_eq_getElem?_getD, List.getElem?_eq_getElem h]; rfl
set_option maxRecDepth 100000 in
set_option maxHeartbeats 2000000 in
theorem both_any (s : List UInt8) (w : World) (hs : s.length ≤ 1000000) :
    Calls Tryd.prog 93 #[.string (S s)] w fun e w' => e = .returned (.agg #[.int .i64 (sumU s s.length : Nat), .int .i64 (sumS s s.length)]) ∧ Below w.heap.size w w' := by
  go_enter Tryd.func93, Tryd.ntmps93
  go_wp2_with fail
  have hx0 : Below w.heap.size w ((w.alloc (.cells #[.int .i64 0, .int .i64 0] 136)).alloc (.cells #[.int .i64 0, .int .i64 0] 136)) := ((Below.refl _ _).alloc (Nat.le_refl _) _).alloc (by simp) _
  have hR0 : AtB ((w.alloc (.cells #[.int .i64 0, .int .i64 0] 136)).alloc (.cells #[.int .i64 0, .int .i64 0] 136)) w.heap.size 136 [.int .i64 0, .int .i64 0] := (AtB.new w _ [.int .i64 0, .int .i64 0]).alloc _
  have hA0 : AtB ((w.alloc (.cells #[.int .i64 0, .int .i64 0] 136)).alloc (.cells #[.int .i64 0, .int .i64 0] 136)) (w.heap.size + 1) 136 [.int .i64 0, .int .i64 0] := by
    have := AtB.new (w.alloc (.cells #[.int .i64 0, .int .i64 0] 136)) 136 [.int .i64 0, .int .i64 0]
    simpa using this
  generalize (w.alloc (.cells #[.int .i64 0, .int .i64 0] 136)).alloc (.cells #[.int .i64 0, .int .i64 0] 136) = W at *
  go_loopw [8] (fun v8 wr => ∃ k : Nat, v8 = .int .i64 k ∧ k ≤ s.length ∧ AtB wr (w.heap.size + 1) 136 [.int .i64 (sumU s k : Nat), .int .i64 (sumS s k)] ∧ AtB wr w.heap.size 136 [.int .i64 0, .int .i64 0] ∧ Below w.heap.size w wr) (fun v8 _ => s.length - (intOf v8).toNat)
  case atStart => exact ⟨0, rfl, Nat.zero_le _, hA0, hR0, hx0⟩
  case round =>
    obtain ⟨k, rfl, hk, hA, hR, hb⟩ := hrel
    by_cases hlt : k < s.length
    · have hkI : (k : Int) < (s.length : Int) := by omega
      have hks : k < (S s).size := by rw [S_size]; exact hlt
      have u1 := sumU_le s k
      have u2 := sumS_le s k
      have hcl := ((S s)[k]'hks).toNat_lt
      have e1 : sumU s (k + 1) = sumU s k + byU k ((S s)[k]'hks) := by rw [sumU, getD_S s k hks]
      have e2 : sumS s (k + 1) = sumS s k + byS k ((S s)[k]'hks) := by rw [sumS, getD_S s k hks]
      have c0 := hA.cell 0
      have c1 := hA.cell 1
      have f0 := hA.fz 0
      have f1 := hA.fz 1
      simp only [List.getElem?_cons_zero, List.getElem?_cons_succ] at c0 c1
      have hA2 := Lib.hid fun u v : Value => (hA.set 0 u).set 1 v
      have hR2 := Lib.hid fun u v : Value => (hR.setOther (w.heap.size + 1) 0 u (by omega)).setOther (w.heap.size + 1) 1 v (by omega)
      have hB2 := Lib.hid (show ∀ u v : Value, Below w.heap.size w ((wr.setCell ⟨w.heap.size + 1, 0, none⟩ u).setCell ⟨w.heap.size + 1, 1, none⟩ v) from fun u v => (hb.setCell (by simp) u).setCell (by simp) v)
      by_cases hin : 148 ≤ k ∧ k < 156
      · have e3 : byU k ((S s)[k]'hks) = 32 := by unfold byU; rw [if_pos hin]
        have e4 : byS k ((S s)[k]'hks) = 32 := by unfold byS; rw [if_pos hin]
        have HE1 : Hid (((sumU s (k + 1) : Nat) : Int) = (sumU s k : Nat) + 32) := Lib.hid (by rw [e1, e3]; push_cast; rfl)
        have HE2 : Hid (sumS s (k + 1) = sumS s k + 32) := Lib.hid (by rw [e2, e4])
        have w1 : IntKind.i64.wrap (((sumU s k : Nat) : Int) + 32) = ((sumU s k : Nat) : Int) + 32 := wrap_lit_i64 _ (by omega) (by omega)
        have w2 : IntKind.i64.wrap (sumS s k + 32) = sumS s k + 32 := wrap_lit_i64 _ (by omega) (by omega)
        have w3 : IntKind.i8.wrap 32 = 32 := by decide
        obtain ⟨i1, i2⟩ := hin
        have i1I : (148 : Int) ≤ (k : Int) := by omega
        have i2I : (k : Int) < 156 := by omega
        clear e1 e2 e3 e4 hA hR hb u1 u2
        generalize sumU s k = A at *
        generalize sumS s k = B at *
        go_wp2_with fail
        go_roundw
        case rel => exact ⟨k + 1, by go_num, by omega, by rw [HE1.out, HE2.out]; exact hA2.out _ _, hR2.out _ _, hB2.out _ _⟩
        case measure => simp [intOf] <;> omega
      · have e3 : byU k ((S s)[k]'hks) = ((S s)[k]'hks).toNat := by unfold byU; rw [if_neg hin]
        have e4 : byS k ((S s)[k]'hks) = IntKind.i8.wrap (((S s)[k]'hks).toNat : Int) := by unfold byS; rw [if_neg hin, i8_wrap]
        have e5 := i8_wrap ((S s)[k]'hks)
        have HE1 : Hid (((sumU s (k + 1) : Nat) : Int) = (sumU s k : Nat) + (((S s)[k]'hks).toNat : Int)) := Lib.hid (by rw [e1, e3]; push_cast; rfl)
        obtain ⟨d, hd⟩ : ∃ d, IntKind.i8.wrap (((S s)[k]'hks).toNat : Int) = d := ⟨_, rfl⟩
        rw [hd] at e4 e5
        have hd1 : -128 ≤ d ∧ d ≤ 255 := by
          subst e5
          split <;> omega
        have HE2 : Hid (sumS s (k + 1) = sumS s k + d) := Lib.hid (by rw [e2, e4])
        have w1 : IntKind.i64.wrap (((sumU s k : Nat) : Int) + (((S s)[k]'hks).toNat : Int)) = ((sumU s k : Nat) : Int) + (((S s)[k]'hks).toNat : Int) := wrap_lit_i64 _ (by omega) (by omega)
        have w2 : IntKind.i64.wrap (sumS s k + d) = sumS s k + d := wrap_lit_i64 _ (by omega) (by omega)
        have w3 : IntKind.i64.wrap d = d := wrap_lit_i64 _ (by omega) (by omega)
        clear e1 e2 e3 e4 e5 hA hR hb u1 u2 hd1
        generalize sumU s k = A at *
        generalize sumS s k = B at *
        by_cases i1 : 148 ≤ k
        · have i1I : (148 : Int) ≤ (k : Int) := by omega
          have i2I : ¬ (k : Int) < 156 := by omega
          clear hin
          go_wp2_with fail
          go_roundw
          case rel => exact ⟨k + 1, by go_num, by omega, by rw [HE1.out, HE2.out]; exact hA2.out _ _, hR2.out _ _, hB2.out _ _⟩
          case measure => simp [intOf] <;> omega
        · have i1I : ¬ (148 : Int) ≤ (k : Int) := by omega
          clear hin
          go_wp2_with fail
          go_roundw
          case rel => exact ⟨k + 1, by go_num, by omega, by rw [HE1.out, HE2.out]; exact hA2.out _ _, hR2.out _ _, hB2.out _ _⟩
          case measure => simp [intOf] <;> omega
    · have hkk : k = s.length := by omega
      subst hkk
      have hkI : ¬ (s.length : Int) < (s.length : Int) := by omega
      have c0 := hA.cell 0
      have c1 := hA.cell 1
      have r0 := hR.cell 0
      have r1 := hR.cell 1
      have f0 := hR.fz 0
      have f1 := hR.fz 1
      simp only [List.getElem?_cons_zero, List.getElem?_cons_succ] at c0 c1 r0 r1
      have hR2 := Lib.hid fun u v : Value => (hR.set 0 u).set 1 v
      have hB2 := Lib.hid (show ∀ u v : Value, Below w.heap.size w ((wr.setCell ⟨w.heap.size, 0, none⟩ u).setCell ⟨w.heap.size, 1, none⟩ v) from fun u v => (hb.setCell (by simp) u).setCell (by simp) v)
      clear hA hR hb
      go_wp2_with fail
      have q0 := (hR2.out (.int .i64 (sumU s s.length : Nat)) (.int .i64 (sumS s s.length))).cell 0
      have q1 := (hR2.out (.int .i64 (sumU s s.length : Nat)) (.int .i64 (sumS s s.length))).cell 1
      refine bodyPost_ret (v := _) (by simp [results, Tryd.results93, go_sem, q0, q1]) rfl ⟨rfl, hB2.out _ _⟩
end Go.Proofs.YtjldphpdfckjnaaDoor
namespace Go.Proofs.YtjldphpdfckjnaaDoor
open Go.RowKit

set_option maxRecDepth 100000 in
set_option maxHeartbeats 2000000 in
theorem rSum_u (s : List UInt8) (w : World) (hs : s.length = 512) :
    Calls Tryd.prog 54 #[.string (S s), .bool false] w fun e w' => e = .returned (.int .i64 (sumU s 512 : Nat)) ∧ w = w' := by
  go_enter Tryd.func54, Tryd.ntmps54
  go_wp2_with fail
  go_loopw [5, 6] (fun v5 v6 wr => ∃ k : Nat, v6 = .int .i64 k ∧ v5 = .int .i64 (sumU s k : Nat) ∧ k ≤ 512 ∧ w = wr) (fun _ v6 _ => 512 - (intOf v6).toNat)
  case atStart => exact ⟨0, rfl, rfl, Nat.zero_le _, rfl⟩
  case round =>
    obtain ⟨k, rfl, rfl, hk, rfl⟩ := hrel
    by_cases hlt : k < 512
    · have hkI : (k : Int) < 512 := by omega
      have hks : k < (S s).size := by rw [S_size]; omega
      have hkI2 : (k : Int) < (s.length : Int) := by omega
      have u1 := sumU_le s k
      have hcl := ((S s)[k]'hks).toNat_lt
      have e1 : sumU s (k + 1) = sumU s k + byU k ((S s)[k]'hks) := by rw [sumU, getD_S s k hks]
      by_cases hin : 148 ≤ k ∧ k < 156
      · have e3 : byU k ((S s)[k]'hks) = 32 := by unfold byU; rw [if_pos hin]
        have HE1 : Hid (((sumU s (k + 1) : Nat) : Int) = (sumU s k : Nat) + 32) := Lib.hid (by rw [e1, e3]; push_cast; rfl)
        have w1 : IntKind.i64.wrap (((sumU s k : Nat) : Int) + 32) = ((sumU s k : Nat) : Int) + 32 := wrap_lit_i64 _ (by omega) (by omega)
        obtain ⟨i1, i2⟩ := hin
        have i1I : (148 : Int) ≤ (k : Int) := by omega
        have i2I : (k : Int) ≤ 155 := by omega
        clear e1 e3 u1 hs
        generalize sumU s k = A at *
        go_wp2_with fail
        go_roundw
        case rel => exact ⟨k + 1, by go_num, by rw [HE1.out], by omega, trivial⟩
        case measure => simp [intOf] <;> omega
      · have e3 : byU k ((S s)[k]'hks) = ((S s)[k]'hks).toNat := by unfold byU; rw [if_neg hin]
        have HE1 : Hid (((sumU s (k + 1) : Nat) : Int) = (sumU s k : Nat) + (((S s)[k]'hks).toNat : Int)) := Lib.hid (by rw [e1, e3]; push_cast; rfl)
        have w1 : IntKind.i64.wrap (((sumU s k : Nat) : Int) + (((S s)[k]'hks).toNat : Int)) = ((sumU s k : Nat) : Int) + (((S s)[k]'hks).toNat : Int) := wrap_lit_i64 _ (by omega) (by omega)
        clear e1 e3 u1 hs
        generalize sumU s k = A at *
        by_cases i1 : 148 ≤ k
        · have i1I : (148 : Int) ≤ (k : Int) := by omega
          have i2I : ¬ (k : Int) ≤ 155 := by omega
          clear hin
          go_wp2_with fail
          go_roundw
          case rel => exact ⟨k + 1, by go_num, by rw [HE1.out], by omega, trivial⟩
          case measure => simp [intOf] <;> omega
        · have i1I : ¬ (148 : Int) ≤ (k : Int) := by omega
          clear hin
          go_wp2_with fail
          go_roundw
          case rel => exact ⟨k + 1, by go_num, by rw [HE1.out], by omega, trivial⟩
          case measure => simp [intOf] <;> omega
    · have hkk : k = 512 := by omega
      subst hkk
      go_wp2_with fail
      go_ret
      exact ⟨rfl, rfl⟩
set_option maxRecDepth 100000 in
set_option maxHeartbeats 2000000 in
theorem rSum_s (s : List UInt8) (w : World) (hs : s.length = 512) :
    Calls Tryd.prog 54 #[.string (S s), .bool true] w fun e w' => e = .returned (.int .i64 (sumS s 512)) ∧ w = w' := by
  go_enter Tryd.func54, Tryd.ntmps54
  go_wp2_with fail
  go_loopw [5, 6] (fun v5 v6 wr => ∃ k : Nat, v6 = .int .i64 k ∧ v5 = .int .i64 (sumS s k) ∧ k ≤ 512 ∧ w = wr) (fun _ v6 _ => 512 - (intOf v6).toNat)
  case atStart => exact ⟨0, rfl, rfl, Nat.zero_le _, rfl⟩
  case round =>
    obtain ⟨k, rfl, rfl, hk, rfl⟩ := hrel
    by_cases hlt : k < 512
    · have hkI : (k : Int) < 512 := by omega
      have hks : k < (S s).size := by rw [S_size]; omega
      have hkI2 : (k : Int) < (s.length : Int) := by omega
      have u1 := sumS_le s k
      have hcl := ((S s)[k]'hks).toNat_lt
      have e1 : sumS s (k + 1) = sumS s k + byS k ((S s)[k]'hks) := by rw [sumS, getD_S s k hks]
      by_cases hin : 148 ≤ k ∧ k < 156
      · have e3 : byS k ((S s)[k]'hks) = 32 := by unfold byS; rw [if_pos hin]
        have HE1 : Hid (sumS s (k + 1) = sumS s k + 32) := Lib.hid (by rw [e1, e3])
        have w1 : IntKind.i64.wrap (sumS s k + 32) = sumS s k + 32 := wrap_lit_i64 _ (by omega) (by omega)
        obtain ⟨i1, i2⟩ := hin
        have i1I : (148 : Int) ≤ (k : Int) := by omega
        have i2I : (k : Int) ≤ 155 := by omega
        clear e1 e3 u1 hs
        generalize sumS s k = A at *
        go_wp2_with fail
        go_roundw
        case rel => exact ⟨k + 1, by go_num, by rw [HE1.out], by omega, trivial⟩
        case measure => simp [intOf] <;> omega
      · have hcase : (128 ≤ ((S s)[k]'hks).toNat ∧ byS k ((S s)[k]'hks) = (((S s)[k]'hks).toNat : Int) - 256) ∨ (((S s)[k]'hks).toNat < 128 ∧ byS k ((S s)[k]'hks) = (((S s)[k]'hks).toNat : Int)) := by
          unfold byS
          rw [if_neg hin]
          by_cases h : 128 ≤ ((S s)[k]'hks).toNat
          · exact .inl ⟨h, by rw [if_pos h]⟩
          · exact .inr ⟨by omega, by rw [if_neg h]⟩
        have i1 : k < 148 ∨ (148 ≤ k ∧ 156 ≤ k) := by omega
        rcases hcase with ⟨hc, e3⟩ | ⟨hc, e3⟩
        · have HE1 : Hid (sumS s (k + 1) = sumS s k + ((((S s)[k]'hks).toNat : Int) - 256)) := Lib.hid (by rw [e1, e3])
          have w0 : IntKind.i64.wrap ((((S s)[k]'hks).toNat : Int) - 256) = (((S s)[k]'hks).toNat : Int) - 256 := wrap_lit_i64 _ (by omega) (by omega)
          have w1 : IntKind.i64.wrap (sumS s k + ((((S s)[k]'hks).toNat : Int) - 256)) = sumS s k + ((((S s)[k]'hks).toNat : Int) - 256) := wrap_lit_i64 _ (by omega) (by omega)
          have hcI : (((S s)[k]'hks).toNat : Int) ≥ 128 := by omega
          clear e1 e3 u1 hs hin
          generalize sumS s k = A at *
          rcases i1 with i1 | ⟨i1, i2⟩
          · have i1I : ¬ (148 : Int) ≤ (k : Int) := by omega
            go_wp2_with fail
            go_roundw
            case rel => exact ⟨k + 1, by go_num, by rw [HE1.out], by omega, trivial⟩
            case measure => simp [intOf] <;> omega
          · have i1I : (148 : Int) ≤ (k : Int) := by omega
            have i2I : ¬ (k : Int) ≤ 155 := by omega
            go_wp2_with fail
            go_roundw
            case rel => exact ⟨k + 1, by go_num, by rw [HE1.out], by omega, trivial⟩
            case measure => simp [intOf] <;> omega
        · have HE1 : Hid (sumS s (k + 1) = sumS s k + (((S s)[k]'hks).toNat : Int)) := Lib.hid (by rw [e1, e3])
          have w1 : IntKind.i64.wrap (sumS s k + (((S s)[k]'hks).toNat : Int)) = sumS s k + (((S s)[k]'hks).toNat : Int) := wrap_lit_i64 _ (by omega) (by omega)
          have hcI : ¬ (((S s)[k]'hks).toNat : Int) ≥ 128 := by omega
          clear e1 e3 u1 hs hin
          generalize sumS s k = A at *
          rcases i1 with i1 | ⟨i1, i2⟩
          · have i1I : ¬ (148 : Int) ≤ (k : Int) := by omega
            go_wp2_with fail
            go_roundw
            case rel => exact ⟨k + 1, by go_num, by rw [HE1.out], by omega, trivial⟩
            case measure => simp [intOf] <;> omega
          · have i1I : (148 : Int) ≤ (k : Int) := by omega
            have i2I : ¬ (k : Int) ≤ 155 := by omega
            go_wp2_with fail
            go_roundw
            case rel => exact ⟨k + 1, by go_num, by rw [HE1.out], by omega, trivial⟩
            case measure => simp [intOf] <;> omega
    · have hkk : k = 512 := by omega
      subst hkk
      go_wp2_with fail
      go_ret
      exact ⟨rfl, rfl⟩
end Go.Proofs.YtjldphpdfckjnaaDoor
namespace Go.Proofs.YtjldphpdfckjnaaDoor
open Go.RowKit

theorem idx2_0 (A B : Int) (w : World) : (Instr.index 136 (.agg #[.int .i64 A, .int .i64 B]) (.int .i64 0)).run Tryd.prog w = .ok (.int .i64 A) w := by kernel_rfl
theorem idx2_1 (A B : Int) (w : World) : (Instr.index 136 (.agg #[.int .i64 A, .int .i64 B]) (.int .i64 1)).run Tryd.prog w = .ok (.int .i64 B) w := by kernel_rfl
theorem right_no1 (s : List UInt8) (h : s.length ≠ 512) : rightL s = false := by
  unfold rightL; rw [decide_eq_false h]; rfl
theorem right_no2 (s : List UInt8) (h : ¬ (s.getD 148 0).toNat < 128) : rightL s = false := by
  unfold rightL; rw [decide_eq_false h]; simp
theorem right_no3 (s : List UInt8) (h : (readO (fldL s 148 8)).2 ≠ 0) : rightL s = false := by
  unfold rightL; rw [decide_eq_false h]; simp
theorem right_is (s : List UInt8) (h1 : s.length = 512) (h2 : (s.getD 148 0).toNat < 128) (h3 : (readO (fldL s 148 8)).2 = 0) :
    rightL s = (decide ((readO (fldL s 148 8)).1 = (sumU s 512 : Int)) || decide ((readO (fldL s 148 8)).1 = sumS s 512)) := by
  unfold rightL
  rw [decide_eq_true h1, decide_eq_true h2, decide_eq_true h3]
  simp
set_option maxRecDepth 100000 in
set_option maxHeartbeats 2000000 in
theorem sRight_any (s : List UInt8) (w : World) (hs : s.length ≤ 1000000) :
    Calls Tryd.prog 55 #[.string (S s)] w fun e w' => e = .returned (.bool (rightL s)) ∧ Below w.heap.size w w' := by
  by_cases h1 : s.length = 512
  rotate_left
  · have HR := Lib.hid (right_no1 s h1)
    have h1I : ¬ (s.length : Int) = 512 := by omega
    have h1b : ((s.length : Int) != 512) = true := bne_iff_ne.2 h1I
    clear h1
    go_enter Tryd.func55, Tryd.ntmps55
    go_wp2_with fail
    go_ret
    exact ⟨by rw [HR.out]; rfl, Below.refl _ _⟩
  have hk : 148 < (S s).size := by rw [S_size]; omega
  have hg := getD_S s 148 hk
  have h1I : (s.length : Int) = 512 := by omega
  have h1b : ((s.length : Int) != 512) = false := by rw [h1I]; rfl
  have h148 : (148 : Int) < (s.length : Int) := by omega
  by_cases h2 : (s.getD 148 0).toNat < 128
  rotate_left
  · have HR := Lib.hid (right_no2 s h2)
    rw [hg] at h2
    have h2I : (((S s)[148]'hk).toNat : Int) ≥ 128 := by omega
    clear h2 hg h1
    go_enter Tryd.func55, Tryd.ntmps55
    go_wp2_with fail
    go_ret
    exact ⟨by rw [HR.out]; rfl, Below.refl _ _⟩
  have HD := Lib.hid (oRead_any (fldL s 148 8) w (by rw [fld_len s 148 8 (by omega)]; decide))
  have hext : (S s).extract 148 156 = S (fldL s 148 8) := fld_ext s 148 156
  have HBo := Lib.hid (both_any s w hs)
  by_cases h3 : (readO (fldL s 148 8)).2 = 0
  rotate_left
  · have HR := Lib.hid (right_no3 s h3)
    rw [hg] at h2
    have h2I : ¬ (((S s)[148]'hk).toNat : Int) ≥ 128 := by omega
    have h3b : (((readO (fldL s 148 8)).2 : Int) != 0) = true := bne_iff_ne.2 (by omega)
    generalize readO (fldL s 148 8) = R at *
    clear h2 hg h1 h3
    go_enter Tryd.func55, Tryd.ntmps55
    go_wp2_with fail
    refine HD.out.mono ?_
    rintro e w1 ⟨rfl, rfl⟩
    go_wp2_with fail
    go_ret
    exact ⟨by rw [HR.out]; rfl, Below.refl _ _⟩
  have HR := Lib.hid (right_is s h1 h2 h3)
  rw [h1] at HBo
  rw [hg] at h2
  have h2I : ¬ (((S s)[148]'hk).toNat : Int) ≥ 128 := by omega
  have h3b : (((readO (fldL s 148 8)).2 : Int) != 0) = false := by rw [h3]; rfl
  generalize readO (fldL s 148 8) = R at *
  obtain ⟨v, n⟩ := R
  generalize ((sumU s 512 : Nat) : Int) = A at *
  generalize sumS s 512 = B at *
  clear h2 hg h1 h3
  go_enter Tryd.func55, Tryd.ntmps55
  go_wp2_with fail
  refine HD.out.mono ?_
  rintro e w1 ⟨rfl, rfl⟩
  clear HD
  go_wp2_with fail
  have x0 := idx2_0 A B
  have x1 := idx2_1 A B
  refine HBo.out.mono ?_
  rintro e w1 ⟨rfl, hx1⟩
  clear HBo
  go_wp2_with fail
  go_loopw [25] (fun v25 wr => (v25 = .int .i64 0 ∨ (v25 = .int .i64 1 ∧ v ≠ A) ∨ (v25 = .int .i64 2 ∧ v ≠ A ∧ v ≠ B)) ∧ Below w.heap.size w wr) (fun v25 _ => 2 - (intOf v25).toNat)
  case atStart => exact ⟨.inl rfl, hx1⟩
  case round =>
    obtain ⟨hc, hb⟩ := hrel
    clear hx1
    rcases hc with rfl | ⟨rfl, hA⟩ | ⟨rfl, hA, hB⟩
    · by_cases hA : v = A
      · have hAb : (v == A) = true := beq_iff_eq.2 hA
        have HF : Hid (rightL s = true) := Lib.hid (by rw [HR.out, decide_eq_true hA]; rfl)
        go_wp2_with fail
        go_ret
        exact ⟨by rw [HF.out]; rfl, hb⟩
      · have hAb : (v == A) = false := beq_eq_false_iff_ne.2 hA
        go_wp2_with fail
        go_roundw
        case rel => exact ⟨.inr (.inl ⟨rfl, hA⟩), hb⟩
        case measure => simp [intOf]
    · by_cases hB : v = B
      · have hAb : (v == B) = true := beq_iff_eq.2 hB
        have HF : Hid (rightL s = true) := Lib.hid (by rw [HR.out, decide_eq_true hB]; simp)
        go_wp2_with fail
        go_ret
        exact ⟨by rw [HF.out]; rfl, hb⟩
      · have hAb : (v == B) = false := beq_eq_false_iff_ne.2 hB
        go_wp2_with fail
        go_roundw
        case rel => exact ⟨.inr (.inr ⟨rfl, hA, hB⟩), hb⟩
        case measure => simp [intOf]
    · have HF : Hid (rightL s = false) := Lib.hid (by rw [HR.out, decide_eq_false hA, decide_eq_false hB]; rfl)
      go_wp2_with fail
      go_ret
      exact ⟨by rw [HF.out]; rfl, hb⟩
set_option maxRecDepth 100000 in
set_option maxHeartbeats 2000000 in
theorem rRightS_any (s : List UInt8) (w : World)  :
    Calls Tryd.prog 64 #[.string (S s)] w fun e w' => e = .returned (.bool (rightL s)) ∧ w = w' := by
  by_cases h1 : s.length = 512
  rotate_left
  · have HR := Lib.hid (right_no1 s h1)
    have h1I : ¬ (s.length : Int) = 512 := by omega
    have h1b : ((s.length : Int) != 512) = true := bne_iff_ne.2 h1I
    clear h1
    go_enter Tryd.func64, Tryd.ntmps64
    go_wp2_with fail
    go_ret
    exact ⟨by rw [HR.out]; rfl, rfl⟩
  have hk : 148 < (S s).size := by rw [S_size]; omega
  have hg := getD_S s 148 hk
  have h1I : (s.length : Int) = 512 := by omega
  have h1b : ((s.length : Int) != 512) = false := by rw [h1I]; rfl
  have h148 : (148 : Int) < (s.length : Int) := by omega
  by_cases h2 : (s.getD 148 0).toNat < 128
  rotate_left
  · have HR := Lib.hid (right_no2 s h2)
    rw [hg] at h2
    have h2I : (((S s)[148]'hk).toNat : Int) ≥ 128 := by omega
    clear h2 hg h1
    go_enter Tryd.func64, Tryd.ntmps64
    go_wp2_with fail
    go_ret
    exact ⟨by rw [HR.out]; rfl, rfl⟩
  have HD := Lib.hid (rRead_any (fldL s 148 8) w (by rw [fld_len s 148 8 (by omega)]; decide))
  have hext : (S s).extract 148 156 = S (fldL s 148 8) := fld_ext s 148 156
  have HU := Lib.hid (rSum_u s w h1)
  have HS := Lib.hid (rSum_s s w h1)
  by_cases h3 : (readO (fldL s 148 8)).2 = 0
  rotate_left
  · have HR := Lib.hid (right_no3 s h3)
    rw [hg] at h2
    have h2I : ¬ (((S s)[148]'hk).toNat : Int) ≥ 128 := by omega
    have h3b : (((readO (fldL s 148 8)).2 : Int) == 0) = false := beq_eq_false_iff_ne.2 (by omega)
    generalize readO (fldL s 148 8) = R at *
    clear h2 hg h1 h3
    go_enter Tryd.func64, Tryd.ntmps64
    go_wp2_with fail
    refine HD.out.mono ?_
    rintro e w1 ⟨rfl, rfl⟩
    go_wp2_with fail
    go_ret
    exact ⟨by rw [HR.out]; rfl, rfl⟩
  have HR := Lib.hid (right_is s h1 h2 h3)
  rw [hg] at h2
  have h2I : ¬ (((S s)[148]'hk).toNat : Int) ≥ 128 := by omega
  have h3b : (((readO (fldL s 148 8)).2 : Int) == 0) = true := by rw [h3]; rfl
  generalize readO (fldL s 148 8) = R at *
  obtain ⟨v, n⟩ := R
  generalize ((sumU s 512 : Nat) : Int) = A at *
  generalize sumS s 512 = B at *
  clear h2 hg h1 h3
  by_cases hA : v = A
  · have hAb : (v == A) = true := beq_iff_eq.2 hA
    have HF : Hid (rightL s = true) := Lib.hid (by rw [HR.out, decide_eq_true hA]; rfl)
    clear hA
    go_enter Tryd.func64, Tryd.ntmps64
    go_wp2_with fail
    refine HD.out.mono ?_
    rintro e w1 ⟨rfl, rfl⟩
    go_wp2_with fail
    refine HU.out.mono ?_
    rintro e w1 ⟨rfl, rfl⟩
    go_wp2_with fail
    go_ret
    exact ⟨by rw [HF.out]; rfl, rfl⟩
  · have hAb : (v == A) = false := beq_eq_false_iff_ne.2 hA
    have HF : Hid (rightL s = (v == B)) := Lib.hid (by rw [HR.out, decide_eq_false hA]; rfl)
    clear hA
    go_enter Tryd.func64, Tryd.ntmps64
    go_wp2_with fail
    refine HD.out.mono ?_
    rintro e w1 ⟨rfl, rfl⟩
    go_wp2_with fail
    refine HU.out.mono ?_
    rintro e w1 ⟨rfl, rfl⟩
    go_wp2_with fail
    refine HS.out.mono ?_
    rintro e w1 ⟨rfl, rfl⟩
    go_wp2_with fail
    go_ret
    exact ⟨by rw [HF.out]; rfl, rfl⟩
end Go.Proofs.YtjldphpdfckjnaaDoor
namespace Go.Proofs.YtjldphpdfckjnaaDoor
open Go.RowKit

theorem take_S (s : List UInt8) (k : Nat) : (S s).extract 0 k = S (s.take k) := by rw [S_extract, List.drop_zero, Nat.sub_zero]
theorem drop_S (s : List UInt8) (k n : Nat) (h : n = s.length) : (S s).extract k n = S (s.drop k) := by
  subst h
  rw [S_extract, List.take_of_length_le (by rw [List.length_drop]; exact Nat.le_refl _)]
theorem seal_app (s : List UInt8) : S (s.take 148) ++ S (octL 6 (sumU s 512) [0]) ++ S [32] ++ S (s.drop 156) = S (sealL s) := by
  rw [S_append, S_append, S_append]; rfl
set_option maxRecDepth 100000 in
set_option maxHeartbeats 2000000 in
theorem sSeal_any (s : List UInt8) (w : World) (hs : s.length = 512) :
    Calls Tryd.prog 107 #[.string (S s)] w fun e w' => e = .returned (.tuple #[.string (S (sealL s)), .int .i64 0]) ∧ Below w.heap.size w w' := by
  have hb : ((s.length : Int) != 512) = false := by rw [hs]; rfl
  have h1 : (148 : Int) ≤ (s.length : Int) := by omega
  have h2 : (156 : Int) ≤ (s.length : Int) := by omega
  have hsum : sumU s 512 < 8 ^ (7 - 1) := by have := sumU_le s 512; have e : (8 : Nat) ^ (7 - 1) = 262144 := by decide
                                             omega
  have HBo := Lib.hid (both_any s w (by omega))
  rw [hs] at HBo
  have HO := Lib.hid fun w => oOctal_7 (sumU s 512) 7 w rfl hsum
  have e1 := take_S s 148
  have e2 := drop_S s 156 s.length rfl
  have HF := Lib.hid (seal_app s)
  have x0 := idx2_0 (sumU s 512 : Nat) (sumS s 512)
  generalize sumU s 512 = A at *
  generalize sumS s 512 = B at *
  have lL : (s.take 148).length ≤ 512 := by rw [List.length_take]; omega
  have lR : (s.drop 156).length ≤ 512 := by rw [List.length_drop]; omega
  generalize s.take 148 = L at *
  generalize s.drop 156 = R at *
  clear hs hsum
  go_enter Tryd.func107, Tryd.ntmps107
  go_wp2_with fail
  refine HBo.out.mono ?_
  rintro e w1 ⟨rfl, hx1⟩
  clear HBo
  go_wp2_with fail
  refine (HO.out _).mono ?_
  rintro e w2 ⟨rfl, hb2⟩
  have hx2 := hx1.trans (hb2.mono hx1.size)
  clear HO hx1 hb2
  have lO : (octL (7 - 1) A [0]).length ≤ 512 := by rw [octL_len]; decide
  generalize octL (7 - 1) A [0] = OO at *
  go_wp2_with fail
  go_quiet (fail)
  go_wp2_with fail
  go_ret2
  refine ⟨?_, belowDrewN hx2⟩
  rw [← HF.out]
  rfl
/-! ### The document's -/
theorem seal_app2 (s d : List UInt8) (h : octL 6 (sumU s 512) [] = d) : S (s.take 148) ++ S d ++ S [0, 32] ++ S (s.drop 156) = S (sealL s) := by
  subst h
  rw [S_append, S_append, S_append, seal_eq]
  congr 1
  rw [show ([0, 32] : List UInt8) = [] ++ [0, 32] from rfl, octL_app]
  simp [List.append_assoc]
set_option maxRecDepth 100000 in
set_option maxHeartbeats 2000000 in
theorem rSeal_any (s : List UInt8) (w : World) (hs : s.length = 512) :
    Calls Tryd.prog 27 #[.string (S s)] w fun e w' => e = .returned (.string (S (sealL s))) ∧ Below w.heap.size w w' := by
  have h1 : (148 : Int) ≤ (s.length : Int) := by omega
  have h2 : (156 : Int) ≤ (s.length : Int) := by omega
  have hsum : sumU s 512 < 262144 := by have := sumU_le s 512; omega
  have HU := Lib.hid (rSum_u s w hs)
  have e1 := take_S s 148
  have e2 := drop_S s 156 s.length rfl
  have HF := Lib.hid (seal_app2 s)
  generalize sumU s 512 = A at *
  have lL : (s.take 148).length ≤ 512 := by rw [List.length_take]; omega
  have lR : (s.drop 156).length ≤ 512 := by rw [List.length_drop]; omega
  generalize s.take 148 = L at *
  generalize s.drop 156 = R at *
  generalize hO : octL 6 A [] = O at *
  have HO := Lib.hid hO
  clear hs hO
  go_enter Tryd.func27, Tryd.ntmps27
  go_wp2_with fail
  refine HU.out.mono ?_
  rintro e w1 ⟨rfl, rfl⟩
  clear HU
  go_wp2_with fail
  go_loopw [3, 4, 5] (fun v3 v4 v5 wr => ∃ (k x : Nat) (t : List UInt8), v5 = .int .i64 k ∧ v3 = .int .i64 x ∧ v4 = .string (S t) ∧ k ≤ 6 ∧ x < 262144 ∧ t.length ≤ 20 + k ∧ Hid (octL (6 - k) x t = O) ∧ w = wr) (fun _ _ v5 _ => 6 - (intOf v5).toNat)
  case atStart => exact ⟨0, A, [], rfl, rfl, rfl, Nat.zero_le _, hsum, by simp, HO, rfl⟩
  case round =>
    obtain ⟨k, x, t, rfl, rfl, rfl, hk, hx, ht, HB, rfl⟩ := hrel
    clear HO hsum
    by_cases hlt : k < 6
    · have hkI : (k : Int) < 6 := by omega
      have HN : Hid (octL (6 - (k + 1)) (x / 8) (UInt8.ofNat (48 + x % 8) :: t) = O) := Lib.hid (by
        rw [← HB.out, show 6 - k = (6 - (k + 1)) + 1 by omega]; rfl)
      have hlt8 : x % 8 < 8 := Nat.mod_lt _ (by decide)
      have hm0 : (0 : Int) ≤ (x : Int) % 8 := by omega
      have hm7 : (x : Int) % 8 < 8 := by omega
      have hw : IntKind.i64.wrap ((x : Int) % 8 + 1) = (x : Int) % 8 + 1 := wrap_lit_i64 _ (by omega) (by omega)
      go_wp2_with fail
      go_roundw
      case rel => exact ⟨k + 1, x / 8, UInt8.ofNat (48 + x % 8) :: t, by go_num, by push_cast; rfl, congrArg Value.string ((congrArg (· ++ S t) (dig8 _ hlt8)).trans (S_append [UInt8.ofNat (48 + x % 8)] t)), by omega, by omega, by rw [List.length_cons]; omega, HN, trivial⟩
      case measure => simp [intOf] <;> omega
    · have hkk : k = 6 := by omega
      subst hkk
      have HE : Hid (O = t) := Lib.hid (by rw [← HB.out, Nat.sub_self]; rfl)
      have HF2 := Lib.hid (HF.out t HE.out)
      go_wp2_with fail
      go_quiet (fail)
      go_wp2_with fail
      go_ret
      exact ⟨by rw [← HF2.out]; rfl, belowDrewN (Below.refl _ _)⟩
end Go.Proofs.YtjldphpdfckjnaaDoor
