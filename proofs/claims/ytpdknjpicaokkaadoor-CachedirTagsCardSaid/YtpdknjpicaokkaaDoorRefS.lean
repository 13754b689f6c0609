/- The document's Under. -/
import Derived.Test.YtpdknjpicaokkaaDoorRefQ
import Derived.Test.YtpdknjpicaokkaaDoorSame26
namespace Go.Proofs.YtpdknjpicaokkaaDoor
open Go.RowKit

def underB (a b : List (List UInt8)) : Bool := decide (b.length < a.length ∧ a.take b.length = b)
set_option maxRecDepth 100000 in
set_option maxHeartbeats 1000000 in
theorem rUnder_any (s t : ByteArray) (hs : s.size ≤ 1000000) (ht : t.size ≤ 1000000) (w : World) :
    Calls Tryd.prog 26 #[.string s, .string t] w fun e w' => e = .returned (.bool (underB (partsL s.data.toList) (partsL t.data.toList))) ∧ Below w.heap.size w w' := by
  have hla := parts_len s.data.toList
  have hlb := parts_len t.data.toList
  rw [size_len] at hla hlb
  have h1 := fun w => rParts_any s hs w
  have h2 := fun w => rParts_any t ht w
  generalize partsL s.data.toList = a at *
  generalize partsL t.data.toList = b at *
  have H1 := Lib.hid h1
  have H2 := Lib.hid h2
  clear h1 h2
  go_enter Tryd.func26, Tryd.ntmps26
  go_wp2_with fail
  refine (H1.out _).mono ?_
  rintro e w1 ⟨⟨v, rfl, hO1⟩, hb1⟩
  go_wp2_with fail
  refine (H2.out _).mono ?_
  rintro e w2 ⟨⟨u, rfl, hO2⟩, hb2⟩
  have hS1 := hO1.strs.below hb2 (Nat.le_refl _)
  have hS2 := hO2.strs
  have hB := hb1.trans (hb2.mono hb1.size)
  clear hO1 hO2 hb1 hb2
  obtain ⟨v1, c1, rfl, hv⟩ := hS1
  obtain ⟨v2, c2, rfl, hu⟩ := hS2
  by_cases hlen : a.length ≤ b.length
  · have HN := Lib.hid (show underB a b = false by unfold underB; rw [decide_eq_false_iff_not]; omega)
    go_wp2_with fail
    go_ret
    exact ⟨by rw [HN.out]; rfl, hB⟩
  · have hlt0 : b.length < a.length := by omega
    clear hlen
    go_wp2
    go_loopw [7] (fun i wr => ∃ k : Nat, k ≤ b.length ∧ i = .int .i64 k ∧ a.take k = b.take k ∧ ∃ m, wr = w2.drewN m) (fun i _ => b.length - (intOf i).toNat)
    case atStart => exact ⟨0, by omega, rfl, rfl, 0, rfl⟩
    case round =>
      obtain ⟨k, hk, rfl, heq, hm⟩ := hrel
      have HE := Lib.hid heq
      have hBr : Below w.heap.size w wr := by obtain ⟨m, rfl⟩ := hm; exact belowDrewN hB
      by_cases hlt : k < b.length
      · have hlt2 : k < a.length := by omega
        obtain ⟨g, off, rfl, _, h2⟩ := hv (by omega)
        obtain ⟨g2, off2, rfl, _, h4⟩ := hu (by omega)
        have hc : wr.cell? ⟨g, off + k, none⟩ = some (.string (S a[k])) := by obtain ⟨m, rfl⟩ := hm; exact h2 k hlt2
        have hc2 : wr.cell? ⟨g2, off2 + k, none⟩ = some (.string (S b[k])) := by obtain ⟨m, rfl⟩ := hm; exact h4 k hlt
        have HM := Lib.hid hm
        clear h2 h4 hm heq hv hu
        by_cases he : a[k] = b[k]
        · have hb : (a[k] == b[k]) = true := beq_iff_eq.2 he
          have HN := Lib.hid (getl a k hlt2 b hlt HE.out he)
          clear he
          go_wp2
          go_quiet (fail)
          go_wp2
          go_roundw
          case rel => exact ⟨k + 1, by omega, by go_num, HN.out, by obtain ⟨m, rfl⟩ := HM.out; exact ⟨m + nq, drewN_add _ _ _⟩⟩
          case measure => simp [intOf]; omega
        · have hb : (a[k] == b[k]) = false := beq_eq_false_iff_ne.2 he
          have HN := Lib.hid (show underB a b = false by
            unfold underB
            rw [decide_eq_false_iff_not]
            rintro ⟨_, g⟩
            apply he
            have := congrArg (fun l : List (List UInt8) => l[k]?) g
            simp only [List.getElem?_take_of_lt hlt, List.getElem?_eq_getElem hlt2, List.getElem?_eq_getElem hlt] at this
            exact Option.some.inj this)
          clear he
          go_wp2
          go_quiet (fail)
          go_wp2
          go_ret
          exact ⟨by rw [HN.out]; rfl, belowDrewN hBr⟩
      · have : k = b.length := by omega
        subst this
        have HY := Lib.hid (show underB a b = true by
          unfold underB
          rw [decide_eq_true_iff]
          exact ⟨hlt0, by rw [heq, List.take_length]⟩)
        clear heq hv hu
        go_wp2
        go_ret
        exact ⟨by rw [HY.out]; rfl, hBr⟩
end Go.Proofs.YtpdknjpicaokkaaDoor
