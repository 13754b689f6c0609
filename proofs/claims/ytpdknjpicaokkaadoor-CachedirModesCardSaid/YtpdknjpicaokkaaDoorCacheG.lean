/- The law CachedirModes: for every input the call returns true. -/
import Derived.Test.YtpdknjpicaokkaaDoorCacheF
namespace Go.Proofs.YtpdknjpicaokkaaDoor
open Go.RowKit

set_option maxRecDepth 100000 in
set_option maxHeartbeats 4000000 in
theorem modes_no (l : List (List UInt8)) (v : Value) (s t : ByteArray) (w : World) (hv : StrsV w v l) (h : 12 < l.length ∨ 200 < s.size ∨ 100 < t.size) :
    Calls Tryd.prog 3 #[v, .string s, .string t] w fun e w' => e = .returned (.bool true) ∧ Below w.heap.size w w' := by
  obtain ⟨a, c, rfl, _⟩ := hv
  have hcase : decide (12 < l.length) = true ∨ (decide (12 < l.length) = false ∧ (decide (200 < s.size) = true ∨ (decide (200 < s.size) = false ∧ 100 < t.size))) := by
    by_cases h1 : 12 < l.length
    · exact .inl (decide_eq_true h1)
    · by_cases h2 : 200 < s.size
      · exact .inr ⟨decide_eq_false h1, .inl (decide_eq_true h2)⟩
      · exact .inr ⟨decide_eq_false h1, .inr ⟨decide_eq_false h2, by omega⟩⟩
  clear h
  rcases hcase with h1 | ⟨h1, h2 | ⟨h2, h3⟩⟩
  all_goals
    simp only [decide_eq_true_eq, decide_eq_false_iff_not] at h1
    try simp only [decide_eq_true_eq, decide_eq_false_iff_not] at h2
    go_enter Tryd.func3, Tryd.ntmps3
    go_wp2_with fail
    refine (new_any _).mono ?_
    rintro e w1 ⟨rfl, hI1, hb1⟩
    go_wp2_with fail
    refine (awake_any28 _).mono ?_
    rintro e w2 ⟨rfl, hb⟩
    have hb2 := chainB hb1 hb
    go_wp2_with fail
    go_ret
    exact ⟨rfl, hb2⟩
theorem bytes_join (x y : List UInt8) : S x ++ (⟨#[47]⟩ : ByteArray) ++ S y = S (x ++ 47 :: y) := by
  rw [show (⟨#[47]⟩ : ByteArray) = S [47] from rfl, S_append, S_append]
  simp
set_option maxRecDepth 100000 in
set_option maxHeartbeats 4000000 in
theorem lawModes (l : List (List UInt8)) (v : Value) (s t : ByteArray) (w : World) (hv : StrsV w v l) :
    Calls Tryd.prog 3 #[v, .string s, .string t] w fun e w' => e = .returned (.bool true) ∧ Below w.heap.size w w' := by
  by_cases hno : 12 < l.length ∨ 200 < s.size ∨ 100 < t.size
  · exact modes_no l v s t w hv hno
  obtain ⟨x, rfl⟩ : ∃ x : List UInt8, s = S x := ⟨s.data.toList, S_eta s⟩
  obtain ⟨y, rfl⟩ : ∃ x : List UInt8, t = S x := ⟨t.data.toList, S_eta t⟩
  rw [S_size, S_size] at hno
  have hl : ¬ 12 < l.length := by omega
  have hx : ¬ 200 < x.length := by omega
  have hy : ¬ 100 < y.length := by omega
  obtain ⟨a, c, rfl, hv⟩ := hv
  have HJ := Lib.hid (bytes_join x y)
  clear hno
  go_enter Tryd.func3, Tryd.ntmps3
  go_wp2_with fail
  refine (new_any _).mono ?_
  rintro e w1 ⟨rfl, hI1, hb1⟩
  have hg1 := hI1.lt
  generalize hgg : w.heap.size + 1 = g at *
  have HG := Lib.hid hgg
  clear hgg
  go_wp2_with fail
  go_loopw [36] (fun i wr => ∃ (k n : Nat) (M : List UInt8 → Bool), k ≤ l.length ∧ n ≤ k ∧ i = .int .i64 k ∧ IdxAt wr g w.heap.size n M ∧ Below w.heap.size w wr) (fun i _ => l.length - (intOf i).toNat)
  case atStart => exact ⟨0, 0, _, by omega, by omega, rfl, hI1, hb1⟩
  case round =>
    obtain ⟨k, n, M, hk, hnk, rfl, hI, hB⟩ := hrel
    have hsz := hB.size
    by_cases hlt : k < l.length
    · obtain ⟨b, off, rfl, g1, g2⟩ := hv (by omega)
      have hc : wr.cell? ⟨b, off + k, none⟩ = some (.string (S l[k])) := by rw [hB.cell (by exact g1)]; exact g2 k hlt
      clear g2 hv
      generalize l[k] = q at *
      by_cases hq : 100 < q.length
      · go_wp2_with fail
        refine (awake_any28 _).mono ?_
        rintro e w2 ⟨rfl, hb⟩
        have hB1 := chainB hB hb
        go_wp2_with fail
        go_ret
        exact ⟨rfl, hB1⟩
      · go_wp2_with fail
        refine (put_any g w.heap.size n M q (by omega) (by omega) (by have := HG.out; omega) _ hI).mono ?_
        rintro e w2 ⟨rfl, hI2, hg2⟩
        have hB2 : Below w.heap.size w w2 := hB.grown hg2 hsz (fun k e => by injection e with e; omega)
        go_wp2_with fail
        go_roundw
        case rel => exact ⟨k + 1, n + 1, _, by omega, by omega, by go_num, hI2, hB2⟩
        case measure => simp [intOf]; omega
    · obtain rfl : k = l.length := by omega
      clear hv hI1 hb1 hg1
      have H1 := Lib.hid (fun (m : Nat) (hm : m ≤ 3) W h => Out_any g w.heap.size n M x (by omega) (m : Int) (by omega) W h)
      have h2 := fun W h => Out_any g w.heap.size n M (x ++ 47 :: y) (by simp; omega) 2 (by omega) W h
      rw [parts_app] at h2
      have HN := Lib.hid (fun m hm h => out_next M (partsL x) m hm h)
      have HB := Lib.hid (fun h => out_below M (partsL x) (partsL y) h)
      have H0 := Lib.hid (out_zero M (partsL x))
      have H2 := Lib.hid h2
      clear h2
      generalize partsL x ++ partsL y = Q at *
      generalize partsL x = P at *
      go_wp2_with fail
      go_loopw [10] (fun i wx => ∃ m : Nat, m ≤ 3 ∧ i = .int .i64 m ∧ IdxAt wx g w.heap.size n M ∧ Below w.heap.size w wx) (fun i _ => 3 - (intOf i).toNat)
      case atStart => exact ⟨0, by omega, rfl, hI, hB⟩
      case round =>
        clear hI hB hsz
        obtain ⟨m, hm, rfl, hI, hB⟩ := hrel
        by_cases hlt3 : m < 3
        · by_cases ho : outB M P m = true
          · have hon := HN.out m hlt3 ho
            have h1 := fun W h => H1.out m hm W h
            have h3 := fun W h => H1.out (m + 1) (by omega) W h
            rw [ho] at h1
            rw [show ((m + 1 : Nat) : Int) = (m : Int) + 1 by omega, hon] at h3
            have K1 := Lib.hid h1
            have K3 := Lib.hid h3
            clear h1 h3 ho hon
            go_wp2_with fail
            refine (K1.out _ hI).mono ?_
            rintro e w2 ⟨rfl, hb2⟩
            have hI2 := hI.step hb2
            have hB2 := chainB hB hb2
            go_wp2_with fail
            refine (K3.out _ hI2).mono ?_
            rintro e w3 ⟨rfl, hb3⟩
            have hI3 := hI2.step hb3
            have hB3 := chainB hB2 hb3
            go_wp2_with fail
            go_roundw
            case rel => exact ⟨m + 1, by omega, by go_num, hI3, hB3⟩
            case measure => simp [intOf]; omega
          · have hof : outB M P m = false := by simpa using ho
            have h1 := fun W h => H1.out m hm W h
            rw [hof] at h1
            have K1 := Lib.hid h1
            clear h1 ho hof
            go_wp2_with fail
            refine (K1.out _ hI).mono ?_
            rintro e w2 ⟨rfl, hb2⟩
            have hI2 := hI.step hb2
            have hB2 := chainB hB hb2
            go_wp2_with fail
            go_roundw
            case rel => exact ⟨m + 1, by omega, by go_num, hI2, hB2⟩
            case measure => simp [intOf]; omega
        · obtain rfl : m = 3 := by omega
          have h1 := fun W h => H1.out 2 (by omega) W h
          have h0 := fun W h => H1.out 0 (by omega) W h
          rw [show ((0 : Nat) : Int) = 0 from rfl, H0.out] at h0
          have K0 := Lib.hid h0
          clear h0
          have hxy : (S x).size + 1 + (S y).size ≤ 1000 := by rw [S_size, S_size]; omega
          by_cases ho : outB M P 2 = true
          · have h2 := H2.out
            rw [show ((2 : Nat) : Int) = 2 from rfl, ho] at h1
            rw [HB.out ho] at h2
            have K1 := Lib.hid h1
            have K2 := Lib.hid h2
            clear h1 h2 ho
            go_wp2_with fail
            refine (K1.out _ hI).mono ?_
            rintro e w2 ⟨rfl, hb2⟩
            have hI2 := hI.step hb2
            have hB2 := chainB hB hb2
            go_wp2_with fail
            rw [HJ.out]
            refine (K2.out _ hI2).mono ?_
            rintro e w3 ⟨rfl, hb3⟩
            have hI3 := hI2.step hb3
            have hB3 := chainB hB2 hb3
            go_wp2_with fail
            refine (K0.out _ hI3).mono ?_
            rintro e w4 ⟨rfl, hb4⟩
            have hB4 := chainB hB3 hb4
            go_wp2_with fail
            refine (awake_any28 _).mono ?_
            rintro e w5 ⟨rfl, hb5⟩
            have hB5 := chainB hB4 hb5
            go_wp2_with fail
            go_ret
            exact ⟨rfl, hB5⟩
          · have hof : outB M P 2 = false := by simpa using ho
            rw [show ((2 : Nat) : Int) = 2 from rfl, hof] at h1
            have K1 := Lib.hid h1
            clear h1 ho hof
            go_wp2_with fail
            refine (K1.out _ hI).mono ?_
            rintro e w2 ⟨rfl, hb2⟩
            have hI2 := hI.step hb2
            have hB2 := chainB hB hb2
            go_wp2_with fail
            refine (K0.out _ hI2).mono ?_
            rintro e w4 ⟨rfl, hb4⟩
            have hB4 := chainB hB2 hb4
            go_wp2_with fail
            refine (awake_any28 _).mono ?_
            rintro e w5 ⟨rfl, hb5⟩
            have hB5 := chainB hB4 hb5
            go_wp2_with fail
            go_ret
            exact ⟨rfl, hB5⟩
end Go.Proofs.YtpdknjpicaokkaaDoor
