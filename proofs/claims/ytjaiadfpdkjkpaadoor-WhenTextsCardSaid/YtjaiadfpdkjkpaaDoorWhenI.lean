/- when.pad; the document's digits and sign. -/
import Derived.Test.YtjaiadfpdkjkpaaDoorItoa
import Derived.Test.YtjaiadfpdkjkpaaDoorWhenH
namespace Go.Proofs.YtjaiadfpdkjkpaaDoor
open Go.RowKit Go.Lib

theorem rep_one (c : UInt8) (n : Nat) : Lib.repeatL [c] n = List.replicate n c := by
  induction n with
  | zero => rfl
  | succ n ih => rw [Lib.repeatL, ih, List.replicate_succ]; rfl
set_option maxRecDepth 100000 in
theorem pad_any (v n : Nat) (hv : v ≤ 1000000000) (hn : n ≤ 20) (w : World) {B : Nat} (hT : TB B w) :
    Calls Tryd.prog 45 #[.int .i64 v, .int .i64 n] w fun e w' => e = .returned (.string (S (padL n v))) ∧ Below w.heap.size w w' := by
  have hl := digs_len 9 v (by omega)
  have hmx : max ((n : Int) - ((decDigits v).length : Int)) 0 = ((n - (decDigits v).length : Nat) : Int) := by omega
  have hcat : S (List.replicate (n - (decDigits v).length) 48) ++ S (decDigits v) = S (padL n v) := S_append _ _
  have HC := Lib.hid hcat
  have I := Lib.hid (fun W hT => itoa_any v hv W (B := B) hT)
  clear hcat
  generalize hq : n - (decDigits v).length = q at *
  have hq2 : q ≤ 20 := by omega
  clear hq
  generalize decDigits v = d at *
  go_enter Tryd.func45, Tryd.ntmps45
  go_wp2_with fail
  refine (I.out _ hT).mono ?_
  rintro e w1 ⟨rfl, hb1⟩
  go_wp2_with fail
  refine (Go.Proofs.Tryd.strings_Repeat _ q _ (by omega) (by show 1 * q ≤ _; omega)).mono ?_
  rintro e w2 ⟨rfl, hb2⟩
  have hz : (⟨(Lib.repeatL (⟨#[48]⟩ : ByteArray).data.toList q).toArray⟩ : ByteArray) = S (List.replicate q 48) := by
    rw [show (⟨#[48]⟩ : ByteArray).data.toList = [48] from rfl, rep_one]; rfl
  rw [hz]
  have hrl : (List.replicate q (48 : UInt8)).length ≤ 20 := by rw [List.length_replicate]; exact hq2
  have HC2 := HC.out
  generalize List.replicate q (48 : UInt8) = z at *
  go_wp2_with fail
  go_ret
  exact ⟨by rw [← HC2]; rfl, hb1.trans (hb2.mono hb1.size)⟩
theorem rdigF_ok (l : List UInt8) (k n : Nat) (h : k + n ≤ l.length) (hd : AllDg ((l.drop k).take n)) : rdigF l k n = (decN ((l.drop k).take n) : Int) := by
  unfold rdigF; rw [if_neg (by omega), if_pos (List.all_eq_true.2 hd)]
theorem rdigF_no (l : List UInt8) (k n j : Nat) (h : k + n ≤ l.length) (hj : j < n) (hd : ∃ c, (l.drop k)[j]? = some c ∧ dg c = false) : rdigF l k n = -1 := by
  unfold rdigF
  rw [if_neg (by omega), if_neg]
  intro g
  obtain ⟨c, hc, hdc⟩ := hd
  have h2 : ((l.drop k).take n)[j]? = some c := by rw [List.getElem?_take_of_lt hj, hc]
  have := List.all_eq_true.1 g c (List.mem_of_getElem? h2)
  rw [this] at hdc; cases hdc
theorem getD_S (s : List UInt8) (k j : Nat) (h : k + j < s.length) : (s.drop k)[j]? = some ((S s)[k + j]'(by rw [S_size]; exact h)) := by
  rw [List.getElem?_drop, List.getElem?_eq_getElem h]; rfl
theorem dg_iff (c : UInt8) : dg c = true ↔ 48 ≤ (c.toNat : Int) ∧ (c.toNat : Int) ≤ 57 := by unfold dg; rw [decide_eq_true_iff]; omega
theorem dg_not (c : UInt8) : dg c = false ↔ ((c.toNat : Int) < 48 ∨ 57 < (c.toNat : Int)) := by unfold dg; rw [decide_eq_false_iff_not]; omega
set_option maxRecDepth 100000 in
set_option maxHeartbeats 2000000 in
theorem rdig29_any (l : List UInt8) (k n : Nat) (hl : l.length ≤ 1000) (hk : k ≤ 1000) (hn : n ≤ 9) (w : World) :
    Calls Tryd.prog 50 #[.string (S l), .int .i64 k, .int .i64 n] w fun e w' => e = .returned (.int .i64 (rdigF l k n)) ∧ w' = w := by
  by_cases hlen : l.length < k + n
  · have HR := Lib.hid (show rdigF l k n = -1 by unfold rdigF; rw [if_pos hlen])
    go_enter Tryd.func50, Tryd.ntmps50
    go_wp2
    go_ret
    exact ⟨by rw [HR.out]; rfl, rfl⟩
  · go_enter Tryd.func50, Tryd.ntmps50
    go_wp2
    go_loop [7, 8] (fun v i => ∃ j : Nat, j ≤ n ∧ i = .int .i64 ((k : Int) + (j : Int)) ∧ v = .int .i64 (decN ((l.drop k).take j)) ∧ AllDg ((l.drop k).take j)) (fun _ i => k + n + 1 - (RowKit.intOf i).toNat)
    case atStart => exact ⟨0, by omega, by simp, rfl, by intro c hc; simp at hc⟩
    case round =>
      obtain ⟨j, hj, rfl, rfl, had⟩ := hrel
      by_cases hlt : j < n
      · have hlt2 : k + j < l.length := by omega
        have hget := getD_S l k j hlt2
        have hsn : (l.drop k).take (j + 1) = (l.drop k).take j ++ [(S l)[k + j]'(by rw [S_size]; exact hlt2)] := by
          rw [List.take_add_one, hget]; rfl
        by_cases hd : dg ((S l)[k + j]'(by rw [S_size]; exact hlt2)) = true
        · have hdd := (dg_iff _).1 hd
          have HA := Lib.hid (show AllDg ((l.drop k).take (j + 1)) by
            rw [hsn]; intro c hc
            rcases List.mem_append.1 hc with g | g
            · exact had c g
            · rw [List.mem_singleton.1 g]; exact hd)
          have HS := Lib.hid (show decN ((l.drop k).take (j + 1)) = 10 * decN ((l.drop k).take j) + (((S l)[k + j]'(by rw [S_size]; exact hlt2)).toNat - 48) by rw [hsn, decN_snoc])
          have hb := decN_lt j ((l.drop k).take j) had (by rw [List.length_take, List.length_drop]; omega)
          have hp : 10 ^ j ≤ 10 ^ 9 := Nat.pow_le_pow_right (by decide) (by omega)
          have hb2 : decN ((l.drop k).take j) ≤ 1000000000 := by omega
          clear had hsn hget hb hp hd
          generalize decN ((l.drop k).take j) = dv at *
          go_wp2
          go_round
          case rel => exact ⟨j + 1, by omega, by go_num, by rw [HS.out]; go_num, HA.out⟩
          case measure => simp [RowKit.intOf]; omega
        · have hdn : dg ((S l)[k + j]'(by rw [S_size]; exact hlt2)) = false := by simpa using hd
          have HR := Lib.hid (rdigF_no l k n j (by omega) hlt ⟨_, hget, hdn⟩)
          have hdd := (dg_not _).1 hdn
          clear had hsn hget hd hdn
          rcases hdd with hdd | hdd
          all_goals
            go_wp2
            go_ret
            exact ⟨by rw [HR.out]; rfl, rfl⟩
      · have : j = n := by omega
        subst this
        have HR := Lib.hid (rdigF_ok l k j (by omega) had)
        clear had
        go_wp2
        go_ret
        exact ⟨by rw [HR.out]; rfl, rfl⟩
set_option maxRecDepth 100000 in
theorem rsign_any (l : List UInt8) (k : Nat) (b : UInt8) (w : World) :
    Calls Tryd.prog 48 #[.string (S l), .int .i64 k, .int .u8 b.toNat] w fun e w' => e = .returned (.bool (decide (l[k]? = some b))) ∧ w' = w := by
  by_cases hlt : k < l.length
  · have hg : l[k]? = some ((S l)[k]'(by rw [S_size]; exact hlt)) := by rw [List.getElem?_eq_getElem hlt]; rfl
    by_cases hc : (S l)[k]'(by rw [S_size]; exact hlt) = b
    · have hb := byte_beq _ b (b.toNat : Int) rfl hc
      have HR := Lib.hid (show decide (l[k]? = some b) = true from decide_eq_true (by rw [hg, hc]))
      clear hg hc
      go_enter Tryd.func48, Tryd.ntmps48
      go_wp2
      go_ret
      exact ⟨by rw [HR.out]; rfl, rfl⟩
    · have hb := byte_beq' _ b (b.toNat : Int) rfl hc
      have HR := Lib.hid (show decide (l[k]? = some b) = false from decide_eq_false (fun e => hc (by rw [hg] at e; exact Option.some.inj e)))
      clear hg hc
      go_enter Tryd.func48, Tryd.ntmps48
      go_wp2
      go_ret
      exact ⟨by rw [HR.out]; rfl, rfl⟩
  · have HR := Lib.hid (show decide (l[k]? = some b) = false from decide_eq_false (by rw [List.getElem?_eq_none (by omega)]; simp))
    go_enter Tryd.func48, Tryd.ntmps48
    go_wp2
    go_ret
    exact ⟨by rw [HR.out]; rfl, rfl⟩
end Go.Proofs.YtjaiadfpdkjkpaaDoor
