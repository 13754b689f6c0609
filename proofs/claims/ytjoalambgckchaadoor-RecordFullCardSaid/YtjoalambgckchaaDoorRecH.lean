/- boulterref06.Print. -/
import Derived.Test.YtjoalambgckchaaDoorRecG
namespace Go.Proofs.YtjoalambgckchaaDoor
open Go.RowKit Go.Lib

theorem cell_keep {w W : World} {b o : Nat} {u : Value} (h : w.cell? ⟨b, o, none⟩ = some u) (h1 : b < w.heap.size) (hb : Below w.heap.size w W) : W.cell? ⟨b, o, none⟩ = some u :=
  (hb.cell (p := ⟨b, o, none⟩) h1).trans h
set_option maxRecDepth 100000 in
set_option maxHeartbeats 4000000 in
theorem rPrint06_any (l : List PR) (v : Value) (hm : ∀ p ∈ l, p.1.length + p.2.length ≤ 100000) (hl : l.length ≤ 256) (w : World) (hv : PairsV w v l) :
    Calls Tryd.prog 13 #[v] w fun e w' => e = .returned (.tuple #[.string (S (printF l).1), .int .i64 ((printF l).2 : Nat)]) ∧ Below w.heap.size w w' := by
  obtain ⟨a, c, rfl, hv⟩ := hv
  go_enter Tryd.func13, Tryd.ntmps13
  go_wp2
  go_loopw [4] (fun i wr => ∃ k : Nat, k ≤ l.length ∧ i = .int .i64 k ∧ (l.take k).all rightP = true ∧ Below w.heap.size w wr) (fun i _ => l.length - (RowKit.intOf i).toNat)
  case atStart => exact ⟨0, by omega, rfl, rfl, Below.refl _ _⟩
  case round =>
    obtain ⟨k, hk, rfl, hall, hb⟩ := hrel
    by_cases hlt : k < l.length
    · obtain ⟨b, off, rfl, h1, h2⟩ := hv (by omega)
      have hc0 : wr.cell? ⟨b, off + k * 2, none⟩ = some (.string (S l[k].1)) := by rw [hb.cell (by exact h1)]; exact h2 k hlt 0 _ rfl
      have hc1 : wr.cell? ⟨b, off + k * 2 + 1, none⟩ = some (.string (S l[k].2)) := by rw [hb.cell (by exact h1)]; exact h2 k hlt 1 _ rfl
      have hsz := hm l[k] (List.getElem_mem hlt)
      have HA := Lib.hid (all_take l k hlt hall)
      have HN := Lib.hid (not_all l k hlt)
      clear h2
      have hrr : rightP l[k] = rightP (l[k].1, l[k].2) := rfl
      rw [hrr] at HA HN
      generalize l[k].1 = kk at *
      generalize l[k].2 = vv at *
      clear hrr hall
      have HR := Lib.hid (fun W => rRight06_any kk vv (by omega) W)
      go_wp2_with fail
      refine (HR.out _).mono ?_
      rintro e w1 ⟨rfl, hb1⟩
      have hB2 := chain hb hb1
      cases hr : rightP (kk, vv)
      · have HP := Lib.hid (show printF l = ([], 2) by unfold printF; rw [if_neg (by omega), if_pos (HN.out hr)])
        go_wp2
        go_ret2
        exact ⟨by rw [HP.out]; rfl, hB2⟩
      · have hR := Lib.hid (HA.out hr)
        go_wp2_with fail
        go_roundw
        case rel => exact ⟨k + 1, by omega, by go_num, hR.out, hB2⟩
        case measure => simp [RowKit.intOf]; omega
    · have : k = l.length := by omega
      subst this
      rw [List.take_length] at *
      have HAll := Lib.hid hall
      clear hall
      obtain ⟨wo, hwo⟩ : ∃ wo : World, wo = wr := ⟨_, rfl⟩
      subst hwo
      go_wp2
      go_loopw [5, 6] (fun s i wr => ∃ k : Nat, k ≤ l.length ∧ i = .int .i64 k ∧ s = .string (S (recsL (l.take k))) ∧ totP (l.take k) ≤ 65536 ∧ Below w.heap.size w wr) (fun _ i _ => l.length - (RowKit.intOf i).toNat)
      case atStart => exact ⟨0, by omega, rfl, rfl, by simp [totP], hb⟩
      case round =>
        clear hb hk
        obtain ⟨k, hk, rfl, rfl, htk, hb⟩ := hrel
        have htl := tot_take_le l (k + 1)
        have hrl : (recsL (l.take k)).length = totP (l.take k) := recs_len _ (fun p hp => by have := hm p (List.mem_of_mem_take hp); unfold bareP; omega)
        have hrl1 : (recsL (l.take (k + 1))).length = totP (l.take (k + 1)) := recs_len _ (fun p hp => by have := hm p (List.mem_of_mem_take hp); unfold bareP; omega)
        by_cases hlt : k < l.length
        · obtain ⟨b, off, rfl, h1, h2⟩ := hv (by omega)
          have CE := Lib.hid (fun (W : World) (hB : Below w.heap.size w W) => And.intro (cell_keep (h2 k hlt 0 _ rfl) h1 hB) (cell_keep (h2 k hlt 1 _ rfl) h1 hB))
          have hc := CE.out _ hb
          have hsz := hm l[k] (List.getElem_mem hlt)
          have hR := recs_take l k hlt
          have hpp : recL l[k] = recL (l[k].1, l[k].2) := rfl
          rw [hpp] at hR
          have hT := tot_take l k hlt
          have hpz : sizeP l[k] = sizeP (l[k].1, l[k].2) := rfl
          rw [hpz] at hT
          clear h2 hpp hpz
          generalize l[k].1 = kk at *
          generalize l[k].2 = vv at *
          have hbs := (bigP kk vv (by omega)).2.2.1
          have hdl := digs_len 5 (sizeP (kk, vv)) (by omega)
          have hcat : S (decDigits (sizeP (kk, vv))) ++ (⟨#[32]⟩ : ByteArray) ++ S kk ++ ⟨#[61]⟩ ++ S vv ++ ⟨#[10]⟩ = S (recL (kk, vv)) := by
            show _ = S (decDigits (sizeP (kk, vv)) ++ ([32] ++ (kk ++ ([61] ++ (vv ++ [10])))))
            rw [← List.append_assoc, ← List.append_assoc, ← List.append_assoc, ← List.append_assoc, ← S_append, ← S_append, ← S_append, ← S_append, ← S_append]; rfl
          have hcat2 : S (recsL (l.take k)) ++ S (recL (kk, vv)) = S (recsL (l.take (k + 1))) := by rw [S_append, hR]
          have hlen : (recL (kk, vv)).length = sizeP (kk, vv) := rec_len _ (by show kk.length + vv.length + 3 ≤ _; omega)
          have HS := Lib.hid (fun W => rSize06_any kk vv (by omega) W)
          have HD := Lib.hid (fun W => rdig_big 6 (sizeP (kk, vv)) (by omega) (by decide) W)
          obtain ⟨hc0, hc1⟩ := hc
          have hbd : Below w.heap.size w wr.drew := hb.drew
          clear hR
          generalize recL (kk, vv) = rr at *
          generalize hS1 : recsL (l.take (k + 1)) = R1 at *
          generalize sizeP (kk, vv) = zz at *
          generalize decDigits zz = dd at *
          have n1 : ¬ 9223372036854775807 < dd.length + 1 := by omega
          have n2 : ¬ 9223372036854775807 < dd.length + 1 + kk.length := by omega
          have n3 : ¬ 9223372036854775807 < dd.length + 1 + kk.length + 1 := by omega
          have n4 : ¬ 9223372036854775807 < dd.length + 1 + kk.length + 1 + vv.length := by omega
          have n5 : ¬ 9223372036854775807 < dd.length + 1 + kk.length + 1 + vv.length + 1 := by omega
          have n6 : ¬ 9223372036854775807 < totP (l.take k) + zz := by omega
          go_wp2_with fail
          go_region_held3 (fun W => W.cell? ⟨b, off + k * 2, none⟩ = some (.string (S kk)) ∧ W.cell? ⟨b, off + k * 2 + 1, none⟩ = some (.string (S vv))) (first | assumption | exact ⟨hc0, hc1⟩) (first
            | (go_at_call 9; (with_reducible refine (HS.out _).mono ?_); rintro e v1 ⟨rfl, hb1⟩; have hx1 := chain (w := w) (by assumption) hb1; have hS := CE.out _ hx1)
            | (go_at_call 18; (with_reducible refine (HD.out _).mono ?_); rintro e v2 ⟨rfl, m2, rfl⟩; have hx2 : Below w.heap.size w _ := belowDrewN (n := m2) (by assumption); have hS := CE.out _ hx2))
          clear n1 n2 n3 n4 n5 n6 hcat hcat2
          by_cases htot : 65536 < totP (l.take (k + 1))
          · have HP := Lib.hid (show printF l = ([], 12) by unfold printF; rw [if_neg (by omega), if_neg (by rw [HAll.out]; decide), if_pos (by omega)])
            go_wp2
            go_ret2
            exact ⟨by rw [HP.out]; rfl, by assumption⟩
          · have H1 := Lib.hid hS1
            clear hS1
            go_wp2
            go_roundw
            case rel => exact ⟨k + 1, by omega, by go_num, by rw [H1.out], by omega, by assumption⟩
            case measure => simp [RowKit.intOf]; omega
        · have : k = l.length := by omega
          subst this
          rw [List.take_length] at *
          have HP := Lib.hid (show printF l = (recsL l, 0) by unfold printF; rw [if_neg (by omega), if_neg (by rw [HAll.out]; decide), if_neg (by omega)])
          go_wp2
          go_ret2
          exact ⟨by rw [HP.out]; rfl, hb⟩
end Go.Proofs.YtjoalambgckchaaDoor
