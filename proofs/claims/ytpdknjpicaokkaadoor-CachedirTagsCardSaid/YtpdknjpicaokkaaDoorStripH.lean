/- strip.Clean; the law StripParts. -/
import Derived.Test.YtpdknjpicaokkaaDoorStripG
namespace Go.Proofs.YtpdknjpicaokkaaDoor
open Go.RowKit

theorem parts_each (s q : List UInt8) (h : q ∈ partsL s) : q.length ≤ s.length := by
  have hsum := parts_sum s
  have : q.length + 1 ≤ ((partsL s).map fun q => q.length + 1).sum := by
    generalize partsL s = l at h ⊢
    clear hsum
    induction l with
    | nil => cases h
    | cons a l ih =>
      rw [List.map_cons, List.sum_cons]
      rcases List.mem_cons.1 h with rfl | h
      · omega
      · have := ih h; omega
  omega
set_option maxRecDepth 100000 in
theorem Clean_any (s : List UInt8) (hs : s.length ≤ 100000) (w : World) :
    Calls Tryd.prog 31 #[.string (S s)] w fun e w' => e = .returned (.string (S (joinL (undot (partsL s))))) ∧ Below w.heap.size w w' := by
  have hlen := parts_len s
  have hP := fun w => Parts_any s (by omega) w
  have hm : ∀ q ∈ partsL s, q.length ≤ 1000000 := fun q hq => Nat.le_trans (parts_each s q hq) (by omega)
  generalize partsL s = l at *
  have HP := Lib.hid hP
  have HM := Lib.hid hm
  have hul := undot_le l
  clear hP hm
  go_enter Tryd.func31, Tryd.ntmps31
  go_wp2_with fail
  refine (HP.out _).mono ?_
  rintro e w1 ⟨⟨v, rfl, hO⟩, hb⟩
  by_cases h0 : l = []
  · subst h0
    obtain ⟨a, c, rfl, _⟩ := hO.strs
    go_wp2_with fail
    refine (delete_none a c _ _).mono ?_
    rintro e w2 ⟨rfl, rfl⟩
    go_wp2_with fail
    refine (Join_any [] _ (by simp) (fun q hq => by cases hq) _ ⟨a, c, rfl, fun h => absurd h (Nat.lt_irrefl _)⟩).mono ?_
    rintro e w3 ⟨rfl, hb3⟩
    have hB := chainB hb hb3
    go_wp2_with fail
    go_ret
    exact ⟨rfl, hB⟩
  · obtain ⟨g1, g2⟩ := id hO
    rcases g2 with ⟨rfl, h1⟩ | ⟨g, cap, cur, rfl, hg, hh, hn, r⟩
    · exact absurd (List.eq_nil_of_length_eq_zero h1) h0
    · clear r g1 hh h0
      go_wp2_with fail
      refine (delete_dot w1 hO (by omega) hn).mono ?_
      rintro e w2 ⟨rfl, hb2, hS⟩
      have hB2 : Below w.heap.size w w2 := hb.trans (hb2.mono (by omega))
      clear hO hb2 hb
      go_wp2_with fail
      refine (Join_any (undot l) _ (by omega) (fun q hq => HM.out q ((List.mem_filter.1 hq).1)) _ hS).mono ?_
      rintro e w3 ⟨rfl, hb3⟩
      have hB3 : Below w.heap.size w w3 := hB2.trans (hb3.mono hB2.size)
      go_wp2_with fail
      go_ret
      exact ⟨rfl, hB3⟩
end Go.Proofs.YtpdknjpicaokkaaDoor
