/- The law TextFields: for every input the law's call returns true and changes nothing that was there. No condition. -/
import Derived.Test.YtpfblnegaipgdaaDoorFields2
namespace Go.Proofs.YtpfblnegaipgdaaDoor
open Go.RowKit

theorem chain {w u v : World} (h : Below w.heap.size w u) (k : Below u.heap.size u v) : Below w.heap.size w v := h.trans (k.mono h.size)
theorem join_ab (w : World) : Calls Tryd.prog 46 #[.string (S [97]), .string (S [98])] w fun e w' => e = .returned (.string (S [97, 47, 98])) ∧ w = w' := by
  have h0 : (S [97]).toList.isEmpty = false := by rw [S_toList]; rfl
  go_enter Tryd.func46, Tryd.ntmps46
  go_wp2
  go_ret
  exact ⟨rfl, rfl⟩
theorem awake02 (w : World) : Calls Tryd.prog 29 #[] w fun e w' => e = .returned (.bool true) ∧ Below w.heap.size w w' := by
  have e1 : writeV (S [97, 98]).data.toList 4 = .tuple #[.string (S [97, 98, 0, 0]), .bool true] := by
    unfold writeV
    rw [if_pos (by decide)]
    rfl
  go_enter Tryd.func29, Tryd.ntmps29
  go_wp2_with fail
  refine (write_any (S [97, 98]) 4 _ (by decide)).mono ?_
  rintro e w1 ⟨rfl, hb1⟩
  rw [e1]
  clear e1
  go_wp2_with fail
  refine (read_any (S [97, 98, 0, 0]) _ (by decide)).mono ?_
  rintro e w2 ⟨rfl, hb2⟩
  rw [show headL (S [97, 98, 0, 0]).data.toList = [97, 98] from rfl]
  go_wp2_with fail
  refine (join_ab _).mono ?_
  rintro e w' ⟨rfl, rfl⟩
  go_wp2_with fail
  go_ret
  exact ⟨rfl, chain hb1 hb2⟩

theorem pad_facts (l : List UInt8) (n : Int) (h : fitB l n = true) : headL (padL l n.toNat) = l ∧ ((padL l n.toNat).length : Int) = n := by
  obtain ⟨h1, h2, h3, h4⟩ := (fit_iff l n).1 h
  have hlen : (padL l n.toNat).length = n.toNat := by rw [padL, List.length_append, List.length_replicate]; omega
  refine ⟨?_, by omega⟩
  have hnz : ∀ b ∈ l, b ≠ 0 := by
    rw [← h4]
    intro b hb
    have := List.all_eq_true.1 (List.all_takeWhile (p := (· != 0)) (l := l)) b hb
    simpa using this
  have := head_take (padL l n.toNat) l.length (fun j hj => ⟨l[j], by rw [padL, List.getElem?_append_left hj, List.getElem?_eq_getElem hj], hnz _ (List.getElem_mem hj)⟩) (by
    rw [padL, List.getElem?_append_right (Nat.le_refl _), Nat.sub_self, List.getElem?_replicate]
    split
    · exact .inr rfl
    · exact .inl rfl)
  rw [this, padL, List.take_left]

set_option maxRecDepth 100000 in
set_option maxHeartbeats 1000000 in
theorem lawFields (f s : ByteArray) (n : Int) (w : World) :
    Calls Tryd.prog 10 #[.string f, .string s, .int .i64 n] w fun e w' => e = .returned (.bool true) ∧ Below w.heap.size w w' := by
  by_cases hl : f.size ≤ 600 ∧ s.size ≤ 600
  · obtain ⟨h1, h2⟩ := hl
    obtain ⟨l, rfl⟩ : ∃ l, s = S l := ⟨_, S_eta s⟩
    have hl : l.length ≤ 600 := by rwa [S_size] at h2
    have W1 := fun w => write_any (S l) n w (by omega)
    have W2 := fun w => rwrite_any l n w (by omega)
    by_cases hf : fitB l n = true
    · have e1 : writeV l n = .tuple #[.string (S (padL l n.toNat)), .bool true] := by unfold writeV; rw [if_pos hf]
      have hp := pad_facts l n hf
      obtain ⟨h3, h4, h5, h6⟩ := (fit_iff l n).1 hf
      rw [S_data] at W1
      rw [e1] at W1 W2
      generalize padL l n.toNat = q at *
      have W1' := Lib.hid W1
      have W2' := Lib.hid W2
      have HP := Lib.hid hp.1
      have hq : ((q.length : Int) == n) = true := by rw [beq_iff_eq]; exact hp.2
      have hql : q.length ≤ 512 := by have := hp.2; omega
      clear W1 W2 e1 hp hf h6
      go_enter Tryd.func10, Tryd.ntmps10
      go_wp2_with fail
      refine (W1'.out _).mono ?_
      rintro e w1 ⟨rfl, hb1⟩
      go_wp2_with fail
      refine (W2'.out _).mono ?_
      rintro e w' ⟨rfl, rfl⟩
      go_wp2_with fail
      refine (read_any f _ (by omega)).mono ?_
      rintro e w2 ⟨rfl, hb2⟩
      go_wp2_with fail
      refine (rread_any f _ (by omega)).mono ?_
      rintro e w' ⟨rfl, rfl⟩
      go_wp2_with fail
      refine (blank_any f _ (by omega)).mono ?_
      rintro e w3 ⟨rfl, hb3⟩
      go_wp2_with fail
      refine (rblank_any f _ (by omega)).mono ?_
      rintro e w' ⟨rfl, rfl⟩
      go_wp2_with fail
      refine (read_any (S q) _ (by rw [S_size]; omega)).mono ?_
      rintro e w4 ⟨rfl, hb4⟩
      rw [S_data, HP.out]
      go_wp2_with fail
      refine (awake02 _).mono ?_
      rintro e w5 ⟨rfl, hb5⟩
      go_wp2_with fail
      go_ret
      exact ⟨rfl, chain (chain (chain (chain hb1 hb2) hb3) hb4) hb5⟩
    · have e1 : writeV l n = .tuple #[.string (S []), .bool false] := by unfold writeV; rw [if_neg hf]
      rw [S_data] at W1
      rw [e1] at W1 W2
      have W1' := Lib.hid W1
      have W2' := Lib.hid W2
      clear W1 W2 e1 hf
      go_enter Tryd.func10, Tryd.ntmps10
      go_wp2_with fail
      refine (W1'.out _).mono ?_
      rintro e w1 ⟨rfl, hb1⟩
      go_wp2_with fail
      refine (W2'.out _).mono ?_
      rintro e w' ⟨rfl, rfl⟩
      go_wp2_with fail
      refine (read_any f _ (by omega)).mono ?_
      rintro e w2 ⟨rfl, hb2⟩
      go_wp2_with fail
      refine (rread_any f _ (by omega)).mono ?_
      rintro e w' ⟨rfl, rfl⟩
      go_wp2_with fail
      refine (blank_any f _ (by omega)).mono ?_
      rintro e w3 ⟨rfl, hb3⟩
      go_wp2_with fail
      refine (rblank_any f _ (by omega)).mono ?_
      rintro e w' ⟨rfl, rfl⟩
      go_wp2_with fail
      refine (awake02 _).mono ?_
      rintro e w5 ⟨rfl, hb5⟩
      go_wp2_with fail
      go_ret
      exact ⟨rfl, chain (chain (chain hb1 hb2) hb3) hb5⟩
  · have hl2 : 600 < f.size ∨ 600 < s.size := by omega
    clear hl
    rcases hl2 with hl2 | hl2 <;> by_cases hl3 : 600 < f.size
    all_goals
      go_enter Tryd.func10, Tryd.ntmps10
      go_wp2_with (go_at_call 29; refine (awake02 _).mono ?_; rintro e w1 ⟨rfl, hb1⟩)
    all_goals (first | (exfalso; omega) | (go_ret; exact ⟨rfl, hb1⟩))
end Go.Proofs.YtpfblnegaipgdaaDoor
