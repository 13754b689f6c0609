import Derived.Test.YtpfblnegaipgdaaDoorNetF
namespace Go.Proofs.YtpfblnegaipgdaaDoor
open Go.RowKit Go.Lib

theorem TB.up {B : Nat} {w w1 : World} (h : TB B w) (hb : Below B w w1) (hB : B ≤ w1.heap.size) : TB w1.heap.size w1 :=
  fun w' hw => h w' (hb.trans (hw.mono hB))
theorem takeF_suf : ∀ (f : Nat) (s : List UInt8) (all : Nat) (out : List (List UInt8)), (takeF f s all out).2.2 = 0 → ∃ k, k ≤ s.length ∧ (takeF f s all out).2.1 = s.drop k
  | 0, s, all, out, h => by rw [takeF] at h; cases h
  | f + 1, s, all, out, h => by
    rw [takeF] at h ⊢
    split
    · rename_i hh
      refine ⟨1, ?_, rfl⟩
      cases s with
      | nil => cases hh
      | cons => simp
    · rename_i h1
      rw [if_neg h1] at h
      split
      · rename_i h2; rw [if_pos h2] at h; exact absurd h h2
      · rename_i h2
        rw [if_neg h2] at h
        split
        · rename_i h3; rw [if_pos h3] at h; cases h
        · rename_i h3
          rw [if_neg h3] at h
          split
          · rename_i h4; rw [if_pos h4] at h; cases h
          · rename_i h4
            rw [if_neg h4] at h
            split
            · rename_i h5; rw [if_pos h5] at h; cases h
            · rename_i h5
              rw [if_neg h5] at h
              obtain ⟨k, hk, e⟩ := takeF_suf f _ _ _ h
              rw [e, List.drop_drop]
              rw [List.length_drop] at hk
              exact ⟨_, by omega, rfl⟩
theorem takeF_bad : ∀ (f : Nat) (s : List UInt8) (all : Nat) (out : List (List UInt8)), (takeF f s all out).2.2 ≠ 0 → (takeF f s all out).2.1 = [] ∧ (takeF f s all out).1 = []
  | 0, s, all, out, _ => by rw [takeF]; exact ⟨rfl, rfl⟩
  | f + 1, s, all, out, h => by
    rw [takeF] at h ⊢
    split
    · rename_i h1; rw [if_pos h1] at h; exact absurd rfl h
    · rename_i h1
      rw [if_neg h1] at h
      split
      · exact ⟨rfl, rfl⟩
      · rename_i h2
        rw [if_neg h2] at h
        split
        · exact ⟨rfl, rfl⟩
        · rename_i h3
          rw [if_neg h3] at h
          split
          · exact ⟨rfl, rfl⟩
          · rename_i h4
            rw [if_neg h4] at h
            split
            · exact ⟨rfl, rfl⟩
            · rename_i h5
              rw [if_neg h5] at h
              exact takeF_bad f _ _ _ h
theorem takeF_len : ∀ (f : Nat) (s : List UInt8) (all : Nat) (out : List (List UInt8)), (takeF f s all out).1.length ≤ out.length + s.length ∧ (takeF f s all out).2.2 ≤ 12
  | 0, s, all, out => by rw [takeF]; simp
  | f + 1, s, all, out => by
    rw [takeF]
    split
    · exact ⟨by simp, by simp⟩
    · split
      · have := (lenF_code s).1
        exact ⟨by simp, by show (lenF s).2.2 ≤ 12; omega⟩
      · split
        · exact ⟨by simp, by simp⟩
        · split
          · exact ⟨by simp, by simp⟩
          · split
            · exact ⟨by simp, by simp⟩
            · have := takeF_len f (s.drop ((lenF s).2.1 + 1 + (lenF s).1 + 1)) (all + ((lenF s).2.1 + 2 + (lenF s).1)) (out ++ [(s.drop ((lenF s).2.1 + 1)).take (lenF s).1])
              rw [List.length_append, List.length_singleton, List.length_drop] at this
              refine ⟨?_, this.2⟩
              have := this.1
              omega

theorem awake41 (w : World) (hT : TB w.heap.size w) : Calls Tryd.prog 11 #[] w fun e w' => e = .returned (.bool true) ∧ Below w.heap.size w w' := by
  have e1 : decDigits 2 = [50] := by rw [decDigits, dif_pos (by omega)]; rfl
  have e0 : decDigits 0 = [48] := by rw [decDigits, dif_pos (by omega)]; rfl
  have ht : textsL [[97, 98], []] = [50, 58, 97, 98, 44, 48, 58, 44] := by
    unfold textsL textL
    simp [e1, e0]
  have hp : putV [[97, 98], []] = .tuple #[.string (S [50, 58, 97, 98, 44, 48, 58, 44, 10]), .int .i64 0] := by
    unfold putV putB
    rw [ht, if_pos (by decide)]; rfl
  have hV : ∀ w : World, StrsV (w.alloc (.cells #[.string ⟨#[97, 98]⟩, .string ⟨#[]⟩] 9)) (.slice (some ⟨w.heap.size, 0, none⟩) 2 2) [[97, 98], []] := fun w =>
    ⟨_, 2, rfl, fun _ => ⟨w.heap.size, 0, rfl, by simp, fun j hj => by
      have h2 : j = 0 ∨ j = 1 := by have : j < 2 := hj; omega
      unfold World.cell?
      rw [heap_alloc_new]
      rcases h2 with rfl | rfl <;> rfl⟩⟩
  have HV := Lib.hid hV
  have HP := Lib.hid hp
  have HT := Lib.hid ht
  clear hV hp ht e1 e0
  go_enter Tryd.func11, Tryd.ntmps11
  go_wp2_with fail
  refine (Put_any [[97, 98], []] _ (by decide) (by decide) _ (hT.up ((Below.refl _ _).alloc (Nat.le_refl _) _) (by simp)) (HV.out w)).mono ?_
  rintro e w1 ⟨rfl, hb1⟩
  rw [HP.out]
  have hx1 : Below w.heap.size w w1 := ((Below.refl w.heap.size w).alloc (Nat.le_refl _) _).trans (hb1.mono (by simp))
  have hz := hx1.size
  go_wp2_with fail
  refine (Size_any [[97, 98], []] _ (by decide) (by rw [HT.out]; decide) (by decide) _ ((hT.on hx1).on ((Below.refl _ _).alloc hz _)) (by simp; omega) (HV.out w1)).mono ?_
  rintro e w2 ⟨rfl, hb2⟩
  rw [HT.out]
  go_wp2_with fail
  go_ret
  exact ⟨rfl, hx1.trans (((Below.refl w.heap.size w1).alloc hz _).trans (hb2.mono (by simp; omega)))⟩

set_option maxRecDepth 100000 in
set_option maxHeartbeats 1000000 in
theorem lawTakes (s : ByteArray) (w : World) (hT : TB w.heap.size w) :
    Calls Tryd.prog 4 #[.string s] w fun e w' => e = .returned (.bool true) ∧ Below w.heap.size w w' := by
  obtain ⟨s, rfl⟩ : ∃ l, s = S l := ⟨_, S_eta s⟩
  by_cases hl : s.length ≤ 9000
  · have hT1 := fun w => Take_any s (by omega) w
    have hT2 := fun w => rTake_any s 0 (by omega) (by omega) w
    rw [List.drop_zero] at hT2
    have hsuf := takeF_suf (s.length + 1) s 0 []
    have hbad := takeF_bad (s.length + 1) s 0 []
    have hlen := takeF_len (s.length + 1) s 0 []
    have eR : takeF (s.length + 1) s 0 [] = takeR s := rfl
    rw [eR] at hT1 hsuf hbad hlen
    generalize takeR s = R at *
    obtain ⟨out, rest, c⟩ := R
    clear eR
    have hout : out.length ≤ s.length := by have := hlen.1; simpa using this
    have hc12 : c ≤ 12 := hlen.2
    clear hlen
    have H1 := Lib.hid hT1
    have H2 := Lib.hid hT2
    clear hT1 hT2
    have hcc : ((c : Int) != (c : Int)) = false := by simp
    by_cases hc : c = 0
    · subst hc
      obtain ⟨k, hk, hrest⟩ := hsuf rfl
      have hrest : rest = s.drop k := hrest
      have hat : atF s.length (out, rest, 0) = k := by unfold atF; rw [if_pos rfl, hrest, List.length_drop]; omega
      have hx : (S s).extract k s.length = S rest := by rw [drop_S, hrest]
      have HAT := Lib.hid hat
      clear hsuf hbad hat hrest
      go_enter Tryd.func4, Tryd.ntmps4
      go_wp2_with fail
      refine (H1.out _).mono ?_
      rintro e w1 ⟨⟨v, rfl, hO1⟩, hb1⟩
      go_wp2_with fail
      refine (H2.out _).mono ?_
      rintro e w2 ⟨⟨v2, rfl, hO2⟩, hb2⟩
      rw [HAT.out]
      have hO1' := hO1.below hb2 (Nat.le_refl _)
      go_wp2_with fail
      refine (Same_any out out v v2 (by omega) _ hO1'.strs hO2.strs).mono ?_
      rintro e w3 ⟨rfl, hm⟩
      have hb3 := drewN_of hm
      rw [show decide (out = out) = true from decide_eq_true rfl]
      clear hm
      go_wp2_with fail
      refine (awake41 _ (hT.up (chain (chain hb1 hb2) hb3) (chain (chain hb1 hb2) hb3).size)).mono ?_
      rintro e w4 ⟨rfl, hb4⟩
      go_wp2_with fail
      go_ret
      exact ⟨rfl, chain (chain (chain hb1 hb2) hb3) hb4⟩
    · obtain ⟨h1, h2⟩ := hbad hc
      have h1 : rest = [] := h1
      have h2 : out = [] := h2
      subst h1 h2
      have hcn : ((c : Int) != 0) = true := bne_iff_ne.2 fun e => hc (by exact_mod_cast e)
      clear hsuf hbad
      go_enter Tryd.func4, Tryd.ntmps4
      go_wp2_with fail
      refine (H1.out _).mono ?_
      rintro e w1 ⟨⟨v, rfl, hO1⟩, hb1⟩
      go_wp2_with fail
      refine (H2.out _).mono ?_
      rintro e w2 ⟨⟨v2, rfl, hO2⟩, hb2⟩
      have hO1' := hO1.below hb2 (Nat.le_refl _)
      go_wp2_with fail
      refine (Same_any [] [] v v2 (by simp) _ hO1'.strs hO2.strs).mono ?_
      rintro e w3 ⟨rfl, hm⟩
      have hb3 := drewN_of hm
      clear hm
      go_wp2_with fail
      refine (awake41 _ (hT.up (chain (chain hb1 hb2) hb3) (chain (chain hb1 hb2) hb3).size)).mono ?_
      rintro e w4 ⟨rfl, hb4⟩
      go_wp2_with fail
      go_ret
      exact ⟨rfl, chain (chain (chain hb1 hb2) hb3) hb4⟩
  · have : 9000 < s.length := by omega
    go_enter Tryd.func4, Tryd.ntmps4
    go_wp2_with fail
    refine (awake41 _ hT).mono ?_
    rintro e w1 ⟨rfl, hb1⟩
    go_wp2_with fail
    go_ret
    exact ⟨rfl, hb1⟩
end Go.Proofs.YtpfblnegaipgdaaDoor
