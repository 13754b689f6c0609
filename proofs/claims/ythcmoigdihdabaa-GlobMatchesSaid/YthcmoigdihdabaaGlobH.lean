/- The chapter's examples of globs; the law GlobQuotes, walked. -/
import Derived.Test.YthcmoigdihdabaaGlobG
import Derived.Test.YthcmoigdihdabaaGlobC
namespace Go.Proofs.Ythcmoigdihdabaa
open Go.RowKit
attribute [local irreducible] wordP

theorem digits_set : ∃ p, parseP [97, 42, 91, 48, 45, 57, 93] 2 true = some (p, 7) ∧ p 55 = true := by
  have h : (parseP [97, 42, 91, 48, 45, 57, 93] 2 true).map (fun r => (r.1 55, r.2)) = some (true, 7) := by decide +kernel
  obtain ⟨⟨p, n⟩, h1, h2⟩ := Option.map_eq_some_iff.1 h
  obtain ⟨h3, rfl⟩ := Prod.mk.inj h2
  exact ⟨p, h1, h3⟩
theorem parse_example : ∃ p, parseG [97, 42, 91, 48, 45, 57, 93] 8 0 [] = some ([.byte 97, .star, .set p], 0, 0) ∧ p 55 = true := by
  obtain ⟨p, h1, h2⟩ := digits_set
  refine ⟨p, ?_, h2⟩
  simp [parseG, tokF, h1]
theorem match_example (p : Nat → Bool) (h : p 55 = true) : matchG (freeG false) ([Tk.byte 97, .star, .set p].map (Tk.gt false false)) [97, 120, 55] = true ∧ matchG (freeG false) ([Tk.byte 97, .star, .set p].map (Tk.gt false false)) [97, 55] = true ∧
    matchG (freeG false) ([Tk.byte 97, .star, .set p].map (Tk.gt false false)) [97, 47, 55] = false ∧ matchG (freeG true) ([Tk.byte 97, .star, .set p].map (Tk.gt false true)) [97, 47, 55] = true := by
  refine ⟨?_, ?_, ?_, ?_⟩ <;> simp [matchG, Tk.gt, oneG, freeG, h]
set_option maxRecDepth 100000 in
set_option maxHeartbeats 2000000 in
theorem awake15 (m : Int) (w : World) (hm : w.cell? ⟨0, 0, none⟩ = some (.int .i64 m)) :
    Calls Try.prog 19 #[] w fun e w' => e = .returned (.bool true) ∧ Below w.heap.size w w' := by
  obtain ⟨p, hp, h55⟩ := parse_example
  obtain ⟨m1, m2, m3, m4⟩ := match_example p h55
  have HP := Lib.hid (GParse_any [97, 42, 91, 48, 45, 57, 93] (by decide) w m hm)
  rw [show ([97, 42, 91, 48, 45, 57, 93] : List UInt8).length + 1 = 8 from rfl, hp] at HP
  have HM := Lib.hid (fun s slash v W hv hs => Match_any [.byte 97, .star, .set p] s false slash v W hv (by simp) hs)
  have M1 := Lib.hid m1
  have M2 := Lib.hid m2
  have M3 := Lib.hid m3
  have M4 := Lib.hid m4
  clear hp h55 m1 m2 m3 m4
  go_enter Try.func19, Try.ntmps19
  go_wp2_with fail
  refine (HP.out).mono ?_
  rintro e w1 ⟨v, rfl, hown, hb1⟩
  have hr1 := hown.rows Tk.cells_len
  go_wp2_with fail
  refine (HM.out [97, 120, 55] false v _ hr1 (by decide)).mono ?_
  rintro e w2 ⟨rfl, hb2⟩
  rw [M1.out]
  have hr2 := hr1.below hb2 (Nat.le_refl _)
  have hx2 := hb1.trans (hb2.mono hb1.size)
  go_wp2_with fail
  refine (HM.out [97, 55] false v _ hr2 (by decide)).mono ?_
  rintro e w3 ⟨rfl, hb3⟩
  rw [M2.out]
  have hr3 := hr2.below hb3 (Nat.le_refl _)
  have hx3 := hx2.trans (hb3.mono hx2.size)
  go_wp2_with fail
  refine (HM.out [97, 47, 55] false v _ hr3 (by decide)).mono ?_
  rintro e w4 ⟨rfl, hb4⟩
  rw [M3.out]
  have hr4 := hr3.below hb4 (Nat.le_refl _)
  have hx4 := hx3.trans (hb4.mono hx3.size)
  go_wp2_with fail
  refine (HM.out [97, 47, 55] true v _ hr4 (by decide)).mono ?_
  rintro e w5 ⟨rfl, hb5⟩
  rw [M4.out]
  go_wp2_with fail
  go_ret
  exact ⟨rfl, hx4.trans (hb5.mono hx4.size)⟩
set_option maxRecDepth 100000 in
set_option maxHeartbeats 2000000 in
theorem quotes_awake (s o : ByteArray) (m : Int) (w : World) (hm : w.cell? ⟨0, 0, none⟩ = some (.int .i64 m)) (h : 200 < s.size ∨ (s.size ≤ 200 ∧ 200 < o.size)) :
    Calls Try.prog 9 #[.string s, .string o] w fun e w' => e = .returned (.bool true) ∧ Below w.heap.size w w' := by
  have HW := Lib.hid (awake15 m w hm)
  rcases h with h | ⟨h1, h⟩
  all_goals
    go_enter Try.func9, Try.ntmps9
    go_wp2_with fail
    refine (HW.out).mono ?_
    rintro e w1 ⟨rfl, hb1⟩
    go_wp2_with fail
    go_ret
    exact ⟨rfl, hb1⟩
set_option maxRecDepth 100000 in
set_option maxHeartbeats 2000000 in
theorem quotes_main (s o : List UInt8) (m : Int) (w : World) (hm : w.cell? ⟨0, 0, none⟩ = some (.int .i64 m)) (h1 : s.length ≤ 200) (h2 : o.length ≤ 200) :
    Calls Try.prog 9 #[.string (S s), .string (S o)] w fun e w' => e = .returned (.bool true) ∧ Below w.heap.size w w' := by
  have hgW : 0 < w.heap.size := World.block_lt_of_cell? w ⟨0, 0, none⟩ hm
  have hq := quoteG_len s
  have hp := parse_quote (quoteG s) s ((quoteG s).length + 1) 0 [] rfl (Nat.zero_le _) (by simp; omega) (by
    have : s.length ≤ (quoteG s).length := by
      unfold quoteG
      clear hq h1
      induction s with
      | nil => simp
      | cons b s ih =>
        rw [List.flatMap_cons, List.length_append, List.length_cons]
        have : 1 ≤ (if signB b = true then [92, b] else [b]).length := by split <;> simp
        omega
    omega)
  rw [List.nil_append] at hp
  have HQ := Lib.hid (fun W => GQuote_any s (by omega) W)
  have HP := fun W hW => GParse_any (quoteG s) (by omega) W m hW
  rw [hp] at HP
  have HP := Lib.hid HP
  have HPL := Lib.hid (fun v W hv => GPlain_any s (by omega) v W hv)
  have HM := Lib.hid (fun o v W hv ho => Match_any (s.map Tk.byte) o false false v W hv (by rw [List.length_map]; omega) ho)
  have hmb := fun o => match_bytes (freeG false) false s o
  have HMB := Lib.hid hmb
  have HA := Lib.hid (fun W hW => awake15 m W hW)
  clear hq hp hmb
  have hself : (s == s) = true := by simp
  go_enter Try.func9, Try.ntmps9
  go_wp2_with fail
  refine (HQ.out _).mono ?_
  rintro e w1 ⟨rfl, hb1⟩
  go_wp2_with fail
  refine (HP.out _ ((hb1.cell (p := ⟨0, 0, none⟩) hgW).trans hm)).mono ?_
  rintro e w2 ⟨v, rfl, hown, hb2⟩
  have hr2 := hown.rows Tk.cells_len
  have hx2 := hb1.trans (hb2.mono hb1.size)
  go_wp2_with fail
  refine (HPL.out v _ hr2).mono ?_
  rintro e w3 ⟨rfl, hb3⟩
  have hr3 := hr2.below hb3 (Nat.le_refl _)
  have hx3 := hx2.trans (hb3.mono hx2.size)
  go_wp2_with fail
  refine (HM.out o v _ hr3 (by omega)).mono ?_
  rintro e w4 ⟨rfl, hb4⟩
  rw [HMB.out o]
  have hr4 := hr3.below hb4 (Nat.le_refl _)
  have hx4 := hx3.trans (hb4.mono hx3.size)
  have hso : ((s == o) == (s == o)) = true := by simp
  go_wp2_with fail
  refine (HM.out s v _ hr4 (by omega)).mono ?_
  rintro e w5 ⟨rfl, hb5⟩
  rw [HMB.out s, hself]
  have hx5 := hx4.trans (hb5.mono hx4.size)
  go_wp2_with fail
  refine (HA.out _ ((hx5.cell (p := ⟨0, 0, none⟩) hgW).trans hm)).mono ?_
  rintro e w6 ⟨rfl, hb6⟩
  go_wp2_with fail
  go_ret
  exact ⟨rfl, hx5.trans (hb6.mono hx5.size)⟩
theorem lawQuotesG (s o : ByteArray) (w : World) (hmx : ∃ m, w.cell? ⟨0, 0, none⟩ = some (.int .i64 m)) :
    Calls Try.prog 9 #[.string s, .string o] w fun e w' => e = .returned (.bool true) ∧ Below w.heap.size w w' := by
  obtain ⟨m, hm⟩ := hmx
  by_cases h1 : 200 < s.size
  · exact quotes_awake s o m w hm (Or.inl h1)
  by_cases h2 : 200 < o.size
  · exact quotes_awake s o m w hm (Or.inr ⟨by omega, h2⟩)
  · exact quotes_main s.data.toList o.data.toList m w hm (by rw [size_len]; omega) (by rw [size_len]; omega)
end Go.Proofs.Ythcmoigdihdabaa
