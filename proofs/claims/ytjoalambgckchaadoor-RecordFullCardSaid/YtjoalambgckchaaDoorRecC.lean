/- record.count: the number that begins a record. (Printed by gen_recc.py.) -/
import Derived.Test.YtjoalambgckchaaDoorRecB
import Derived.Test.YtjoalambgckchaaDoorCutC
namespace Go.Proofs.YtjoalambgckchaaDoor
open Go.RowKit Go.Lib

theorem getS (s : List UInt8) (k : Nat) (h : k < s.length) : s[k]? = some ((S s)[k]'(by rw [S_size]; exact h)) := by
  rw [List.getElem?_eq_getElem h]; rfl
theorem take_snocL (s : List UInt8) (k : Nat) (h : k < s.length) : s.take (k + 1) = s.take k ++ [(S s)[k]'(by rw [S_size]; exact h)] := by
  rw [List.take_succ_eq_append_getElem h]; rfl
theorem dg_iff (c : UInt8) : dg c = true ↔ 48 ≤ (c.toNat : Int) ∧ (c.toNat : Int) ≤ 57 := by unfold dg; rw [decide_eq_true_iff]; omega
theorem dg_not (c : UInt8) : dg c = false ↔ ((c.toNat : Int) < 48 ∨ 57 < (c.toNat : Int)) := by unfold dg; rw [decide_eq_false_iff_not]; omega
theorem cnt_no (s : List UInt8) (k : Nat) (h : preD 7 s = k) (hc : k = 0 ∨ 6 < k ∨ s.head? = some 48 ∨ s[k]? ≠ some 32) : countF s = (0, 0) := by
  unfold countF; rw [h, if_pos hc]
theorem cnt_yes (s : List UInt8) (k : Nat) (h : preD 7 s = k) (h1 : k ≠ 0) (h2 : ¬ 6 < k) (h3 : s.head? ≠ some 48) (h4 : s[k]? = some 32) : countF s = (decN (s.take k), k) := by
  unfold countF; rw [h, if_neg]
  rintro (g | g | g | g)
  · exact h1 g
  · exact h2 g
  · exact h3 g
  · exact g h4
def cntV (p : Nat × Nat) : Value := .tuple #[.int .i64 p.1, .int .i64 p.2]
theorem head_get (s : List UInt8) (h0 : 0 < (S s).size) : s.head? = some ((S s)[0]'h0) := by
  have : 0 < s.length := by rw [S_size] at h0; exact h0
  rw [List.head?_eq_getElem?]; exact getS s 0 this
set_option maxRecDepth 100000 in
set_option maxHeartbeats 8000000 in
theorem count06_any (s : List UInt8) (hs : s.length ≤ 1000000) (w : World) :
    Calls Tryd.prog 21 #[.string (S s)] w fun e w' => e = .returned (cntV (countF s)) ∧ w' = w := by
  go_enter Tryd.func21, Tryd.ntmps21
  go_wp2
  go_loopw [2, 3] (fun v i wr => ∃ k : Nat, k ≤ 7 ∧ k ≤ s.length ∧ i = .int .i64 k ∧ v = .int .i64 (decN (s.take k)) ∧ (∀ j, j < k → ∃ c, s[j]? = some c ∧ dg c = true) ∧ wr = w) (fun _ i _ => 7 - (RowKit.intOf i).toNat)
  case atStart => exact ⟨0, by omega, by omega, rfl, rfl, fun j hj => absurd hj (Nat.not_lt_zero _), rfl⟩
  case round =>
    obtain ⟨k, hk7, hk, rfl, rfl, hj, rfl⟩ := hrel
    by_cases hgo : k < s.length ∧ k < 7 ∧ ∃ h : k < (S s).size, dg ((S s)[k]'h) = true
    · obtain ⟨hlt, hlt7, _, hd⟩ := hgo
      have hget := getS s k hlt
      have hdd := (dg_iff _).1 hd
      have hJ : ∀ j, j < k + 1 → ∃ c, s[j]? = some c ∧ dg c = true := by
        intro j hjk
        by_cases e : j = k
        · subst e; exact ⟨_, hget, hd⟩
        · exact hj j (by omega)
      have HJ := Lib.hid hJ
      have HS := Lib.hid (show decN (s.take (k + 1)) = 10 * decN (s.take k) + (((S s)[k]'(by rw [S_size]; exact hlt)).toNat - 48) by rw [take_snocL s k hlt, decN_snoc])
      have hb := decN_lt k (s.take k) (fun c hc => by
        obtain ⟨i, hi, e⟩ := List.getElem_of_mem hc
        rw [List.length_take] at hi
        obtain ⟨c', hc', hd'⟩ := hj i (by omega)
        rw [List.getElem_take] at e
        rw [List.getElem?_eq_getElem (by omega)] at hc'
        rw [← e, Option.some.inj hc']; exact hd') (by rw [List.length_take]; omega)
      have hp : 10 ^ k ≤ 10 ^ 7 := Nat.pow_le_pow_right (by decide) hk7
      have hb2 : decN (s.take k) ≤ 10000000 := by omega
      clear hj hJ hget hb hp hd
      go_wp2
      go_roundw
      case rel => exact ⟨k + 1, by omega, by omega, by go_num, by rw [HS.out]; go_num, HJ.out, by first | trivial | rfl⟩
      case measure => simp [RowKit.intOf]; omega
    · have HP := Lib.hid (show preD 7 s = k from preD_eq 7 k s hj hk7 (by
        by_cases h1 : k < s.length
        · by_cases h2 : k < 7
          · right; right
            refine ⟨_, getS s k h1, ?_⟩
            cases hd : dg ((S s)[k]'(by rw [S_size]; exact h1))
            · rfl
            · exact absurd ⟨h1, h2, _, hd⟩ hgo
          · exact .inl (by omega)
        · exact .inr (.inl (List.getElem?_eq_none (by omega)))))
      clear hj
      by_cases hlt : k < s.length
      · have hget := getS s k hlt
        by_cases hlt7 : k < 7
        · have hdn : dg ((S s)[k]'(by rw [S_size]; exact hlt)) = false := by
            cases hd : dg ((S s)[k]'(by rw [S_size]; exact hlt))
            · rfl
            · exact absurd ⟨hlt, hlt7, _, hd⟩ hgo
          have hdd := (dg_not _).1 hdn
          clear hdn hgo
          rcases hdd with hdd | hdd
          · skip
            by_cases hk0 : k = 0
            · subst hk0
              clear hget
              have HC := Lib.hid (cnt_no s 0 HP.out (.inl rfl))
              go_wp2
              go_ret2
              exact ⟨by rw [HC.out]; rfl, rfl⟩
            · skip
              have hk6n : ¬ 6 < k := by omega
              have hke : ((k : Int) == 0) = false := by rw [beq_eq_false_iff_ne]; omega
              have hkl : ((k : Int) == (s.length : Int)) = false := by rw [beq_eq_false_iff_ne]; omega
              have h0 : 0 < (S s).size := by rw [S_size]; omega
              have hh := head_get s h0
              by_cases hz : (S s)[0]'h0 = 48
              · have hzb := byte_beq ((S s)[0]'h0) 48 48 rfl hz
                have HC0 := Lib.hid (show s.head? = some 48 by rw [hh, hz])
                clear hh hz
                have HC := Lib.hid (cnt_no s k HP.out (.inr (.inr (.inl HC0.out))))
                go_wp2
                go_ret2
                exact ⟨by rw [HC.out]; rfl, rfl⟩
              · have hzb := byte_beq' ((S s)[0]'h0) 48 48 rfl hz
                have HH := Lib.hid (show s.head? ≠ some 48 from fun e => hz (by rw [hh] at e; exact Option.some.inj e))
                clear hh hz
                by_cases h32 : (S s)[k]'(by rw [S_size]; exact hlt) = 32
                · have hb := byte_bne' _ 32 32 rfl h32
                  have HG := Lib.hid (show s[k]? = some 32 by rw [hget, h32])
                  clear hget h32
                  have HC := Lib.hid (cnt_yes s k HP.out hk0 hk6n HH.out HG.out)
                  go_wp2
                  go_ret2
                  exact ⟨by rw [HC.out]; rfl, rfl⟩
                · have hb := byte_bne _ 32 32 rfl h32
                  have HG := Lib.hid (show s[k]? ≠ some 32 from fun e => h32 (by rw [hget] at e; exact Option.some.inj e))
                  clear hget h32
                  have HC := Lib.hid (cnt_no s k HP.out (.inr (.inr (.inr HG.out))))
                  go_wp2
                  go_ret2
                  exact ⟨by rw [HC.out]; rfl, rfl⟩
          · skip
            by_cases hk0 : k = 0
            · subst hk0
              clear hget
              have HC := Lib.hid (cnt_no s 0 HP.out (.inl rfl))
              go_wp2
              go_ret2
              exact ⟨by rw [HC.out]; rfl, rfl⟩
            · skip
              have hk6n : ¬ 6 < k := by omega
              have hke : ((k : Int) == 0) = false := by rw [beq_eq_false_iff_ne]; omega
              have hkl : ((k : Int) == (s.length : Int)) = false := by rw [beq_eq_false_iff_ne]; omega
              have h0 : 0 < (S s).size := by rw [S_size]; omega
              have hh := head_get s h0
              by_cases hz : (S s)[0]'h0 = 48
              · have hzb := byte_beq ((S s)[0]'h0) 48 48 rfl hz
                have HC0 := Lib.hid (show s.head? = some 48 by rw [hh, hz])
                clear hh hz
                have HC := Lib.hid (cnt_no s k HP.out (.inr (.inr (.inl HC0.out))))
                go_wp2
                go_ret2
                exact ⟨by rw [HC.out]; rfl, rfl⟩
              · have hzb := byte_beq' ((S s)[0]'h0) 48 48 rfl hz
                have HH := Lib.hid (show s.head? ≠ some 48 from fun e => hz (by rw [hh] at e; exact Option.some.inj e))
                clear hh hz
                by_cases h32 : (S s)[k]'(by rw [S_size]; exact hlt) = 32
                · have hb := byte_bne' _ 32 32 rfl h32
                  have HG := Lib.hid (show s[k]? = some 32 by rw [hget, h32])
                  clear hget h32
                  have HC := Lib.hid (cnt_yes s k HP.out hk0 hk6n HH.out HG.out)
                  go_wp2
                  go_ret2
                  exact ⟨by rw [HC.out]; rfl, rfl⟩
                · have hb := byte_bne _ 32 32 rfl h32
                  have HG := Lib.hid (show s[k]? ≠ some 32 from fun e => h32 (by rw [hget] at e; exact Option.some.inj e))
                  clear hget h32
                  have HC := Lib.hid (cnt_no s k HP.out (.inr (.inr (.inr HG.out))))
                  go_wp2
                  go_ret2
                  exact ⟨by rw [HC.out]; rfl, rfl⟩
        · skip
          have hk6 : 6 < k := by omega
          have hke : ((k : Int) == 0) = false := by rw [beq_eq_false_iff_ne]; omega
          clear hgo hget
          have HC := Lib.hid (cnt_no s k HP.out (.inr (.inl hk6)))
          go_wp2
          all_goals
            go_ret2
            exact ⟨by rw [HC.out]; rfl, rfl⟩
      · have hkl : s.length ≤ k := by omega
        clear hgo
        by_cases hk0 : k = 0
        · subst hk0
          have HC := Lib.hid (cnt_no s 0 HP.out (.inl rfl))
          go_wp2
          go_ret2
          exact ⟨by rw [HC.out]; rfl, rfl⟩
        · skip
          have hke : ((k : Int) == 0) = false := by rw [beq_eq_false_iff_ne]; omega
          have hn : s[k]? ≠ some 32 := by rw [List.getElem?_eq_none (by omega)]; simp
          have HN := Lib.hid hn
          clear hn
          by_cases hk6 : 6 < k
          · skip
            have HC := Lib.hid (cnt_no s k HP.out (.inr (.inl hk6)))
            go_wp2
            go_ret2
            exact ⟨by rw [HC.out]; rfl, rfl⟩
          · skip
            have hklb : ((k : Int) == (s.length : Int)) = true := by rw [beq_iff_eq]; omega
            have h0 : 0 < (S s).size := by rw [S_size]; omega
            have hh := head_get s h0
            by_cases hz : (S s)[0]'h0 = 48
            · have hzb := byte_beq ((S s)[0]'h0) 48 48 rfl hz
              have HC0 := Lib.hid (show s.head? = some 48 by rw [hh, hz])
              clear hh hz
              have HC := Lib.hid (cnt_no s k HP.out (.inr (.inr (.inl HC0.out))))
              go_wp2
              go_ret2
              exact ⟨by rw [HC.out]; rfl, rfl⟩
            · have hzb := byte_beq' ((S s)[0]'h0) 48 48 rfl hz
              have HH := Lib.hid (show s.head? ≠ some 48 from fun e => hz (by rw [hh] at e; exact Option.some.inj e))
              clear hh hz
              have HC := Lib.hid (cnt_no s k HP.out (.inr (.inr (.inr HN.out))))
              go_wp2
              go_ret2
              exact ⟨by rw [HC.out]; rfl, rfl⟩
end Go.Proofs.YtjoalambgckchaaDoor
