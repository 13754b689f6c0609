/- The law RecordParses, walked. -/
import Derived.Test.YtjoalambgckchaaDoorRecK
namespace Go.Proofs.YtjoalambgckchaaDoor
open Go.RowKit Go.Lib

theorem printF_len (l : List PR) (hb : ∀ p ∈ l, bareP p ≤ 1000000) : (printF l).1.length ≤ 65536 := by
  have := recs_len l hb
  unfold printF
  split
  · simp
  · split
    · simp
    · split
      · simp
      · show (recsL l).length ≤ _; omega
theorem parseF_code : ∀ (f : Nat) (s : List UInt8) (out : List PR), (parseF f s out).2 ≤ 12
  | 0, _, _ => by rw [parseF]; decide
  | f + 1, s, out => by
    rw [parseF]
    split
    · simp
    · split
      · simp
      · split
        · simp
        · split
          · simp
          · split
            · simp
            · exact parseF_code f _ _
theorem parseF_len : ∀ (f : Nat) (s : List UInt8) (out : List PR), out.length ≤ 256 → (parseF f s out).1.length ≤ 256
  | 0, _, _, _ => by rw [parseF]; simp
  | f + 1, s, out, h => by
    rw [parseF]
    split
    · exact h
    · split
      · simp
      · split
        · simp
        · split
          · simp
          · split
            · simp
            · exact parseF_len f _ _ (by rw [List.length_append, List.length_singleton]; omega)
set_option maxRecDepth 100000 in
set_option maxHeartbeats 4000000 in
theorem lawParses (s : ByteArray) (w : World) (hs : s.size ≤ maxLen) (hT : TB w.heap.size w) :
    Calls Tryd.prog 4 #[.string s] w fun e w' => e = .returned (.bool true) ∧ Below w.heap.size w w' := by
  obtain ⟨l, rfl⟩ : ∃ l : List UInt8, s = S l := ⟨s.data.toList, S_eta s⟩
  have hml : l.length ≤ 9223372036854775807 := by simpa [maxLen] using hs
  by_cases hbig : 400 < l.length
  · go_enter Tryd.func4, Tryd.ntmps4
    go_wp2_with fail
    refine (awake06 _ hT).mono ?_
    rintro e w1 ⟨rfl, hb1⟩
    go_wp2_with fail
    go_ret
    exact ⟨rfl, hb1⟩
  · have P1 := fun W => Parse06_any l (by omega) W
    have P2 := fun W => rParse06_any l (by omega) W
    have hq : parseQ l = parseF (l.length + 1) l [] := by unfold parseQ; rw [if_neg (by omega)]
    rw [← hq] at P2
    have hcode : (parseQ l).2 ≤ 12 := by rw [hq]; exact parseF_code _ _ _
    have hlen : (parseQ l).2 = 0 → (printF (parseQ l).1).2 = 0 ∧ (printF (parseQ l).1).1.length ≤ l.length ∧ parseQ (printF (parseQ l).1).1 = ((parseQ l).1, 0) ∧ (∀ p ∈ (parseQ l).1, bareP p ≤ 100000) := fun h => parse_print l (parseQ l).1 (by rw [← h])
    have hol : (parseQ l).1.length ≤ 256 := by rw [hq]; exact parseF_len _ _ _ (by simp)
    have Q1 := Lib.hid P1
    have Q2 := Lib.hid P2
    have HL := Lib.hid hlen
    clear P1 P2 hq hlen hs hml
    generalize hp : parseQ l = p at *
    clear hp
    obtain ⟨out, code⟩ := p
    have hcode : code ≤ 12 := hcode
    have hol : out.length ≤ 256 := hol
    have HL := Lib.hid (show code = 0 → (printF out).2 = 0 ∧ (printF out).1.length ≤ l.length ∧ parseQ (printF out).1 = (out, 0) ∧ (∀ p ∈ out, bareP p ≤ 100000) from HL.out)
    have hoo : decide (out = out) = true := decide_eq_true rfl
    have Q4 := Lib.hid (show ∀ (u v : Value) (W : World), PairsV W u out → PairsV W v out → Calls Tryd.prog 15 #[u, v] W fun e w' => e = .returned (.bool true) ∧ Below W.heap.size W w' from fun u v W h1 h2 => by
      have := rSame06_any out out u v (by omega) (by omega) W h1 h2
      rw [hoo] at this; exact this)
    clear hoo
    go_enter Tryd.func4, Tryd.ntmps4
    go_wp2_with fail
    refine (Q1.out _).mono ?_
    rintro e w1 ⟨⟨v1, rfl, hO1⟩, hb1⟩
    have hR1 := Lib.hid (hO1.rows pf_len)
    obtain ⟨a1, c1, rfl⟩ := hO1.shape
    clear hO1
    go_wp2_with fail
    refine (Q2.out _).mono ?_
    rintro e w2 ⟨⟨v2, rfl, hO2⟩, hb2⟩
    have hR2 := Lib.hid (hO2.rows pf_len)
    obtain ⟨a2, c2, rfl⟩ := hO2.shape
    clear hO2
    have hB2 := chain hb1 hb2
    have hR1b := Lib.hid (RowsV.below hR1.out hb2 (Nat.le_refl _))
    go_wp2_with fail
    refine (Q4.out _ _ _ hR1b.out hR2.out).mono ?_
    rintro e w3 ⟨rfl, hb3⟩
    have hB3 := chain hB2 hb3
    have hR1c := Lib.hid (RowsV.below hR1b.out hb3 (Nat.le_refl _))
    by_cases hz : code = 0
    · subst hz
      obtain ⟨l1, l2, l3, l4⟩ := HL.out rfl
      have P5 := fun W hT hv => Print06_any out (.slice a1 out.length c1) (fun p hp => by have := l4 p hp; unfold bareP at this; omega) (by omega) W hT hv
      rw [l1] at P5
      have P6 := fun W => Parse06_any (printF out).1 (by omega) W
      rw [l3] at P6
      have Q5 := Lib.hid P5
      have Q6 := Lib.hid P6
      clear P5 P6 l1 l3 l4 HL
      generalize (printF out).1 = t at *
      go_wp2_with fail
      refine (Q5.out _ (hT.up hB3 hB3.size) hR1c.out).mono ?_
      rintro e w4 ⟨rfl, hb4⟩
      have hB4 := chain hB3 hb4
      have hR1d := Lib.hid (RowsV.below hR1c.out hb4 (Nat.le_refl _))
      go_wp2_with fail
      refine (Q6.out _).mono ?_
      rintro e w5 ⟨⟨v5, rfl, hO5⟩, hb5⟩
      have hB5 := chain hB4 hb5
      have hR5 := Lib.hid (hO5.rows pf_len)
      obtain ⟨a5, c5, rfl⟩ := hO5.shape
      have hR1e := Lib.hid (RowsV.below hR1d.out hb5 (Nat.le_refl _))
      clear hO5
      go_wp2_with fail
      refine (Q4.out _ _ _ hR5.out hR1e.out).mono ?_
      rintro e w6 ⟨rfl, hb6⟩
      have hB6 := chain hB5 hb6
      go_wp2_with fail
      refine (awake06 _ (hT.up hB6 hB6.size)).mono ?_
      rintro e w7 ⟨rfl, hb7⟩
      go_wp2_with fail
      go_ret
      exact ⟨rfl, chain hB6 hb7⟩
    · have hzc : ((code : Int) != 0) = true := by rw [bne_iff_ne]; omega
      clear hz HL
      go_wp2_with fail
      refine (awake06 _ (hT.up hB3 hB3.size)).mono ?_
      rintro e w4 ⟨rfl, hb4⟩
      go_wp2_with fail
      go_ret
      exact ⟨rfl, chain hB3 hb4⟩
end Go.Proofs.YtjoalambgckchaaDoor
