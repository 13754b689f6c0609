import Derived.Test.YtpfblnegaipgdaaDoorNetI
namespace Go.Proofs.YtpfblnegaipgdaaDoor
open Go.RowKit Go.Lib

theorem texts_parts : ∀ (l : List (List UInt8)), l.length ≤ (textsL l).length ∧ ∀ s ∈ l, s.length ≤ (textsL l).length
  | [] => ⟨by simp, fun s hs => by cases hs⟩
  | s :: l => by
    obtain ⟨h1, h2⟩ := texts_parts l
    have e : textsL (s :: l) = textL s ++ textsL l := rfl
    have h3 := text_len s
    rw [e, List.length_append, List.length_cons]
    refine ⟨by omega, fun x hx => ?_⟩
    rcases List.mem_cons.1 hx with rfl | g
    · omega
    · have := h2 x g; omega

set_option maxRecDepth 100000 in
set_option maxHeartbeats 2000000 in
theorem lawScripts (s : ByteArray) (w : World) (hT : TB w.heap.size w) :
    Calls Tryd.prog 6 #[.string s] w fun e w' => e = .returned (.bool true) ∧ Below w.heap.size w w' := by
  obtain ⟨s, rfl⟩ : ∃ l, s = S l := ⟨_, S_eta s⟩
  by_cases hl : s.length ≤ 2000
  · have hT1 := fun w => Lists_any s (by omega) w
    have hT2 := fun w => rLists_any s (by omega) w
    have hinv := listsF_inv (s.length + 1) s [] (Nat.lt_succ_self _) (by simp) (fun l hl => by cases hl)
    have hbad := listsF_bad (s.length + 1) s []
    have hcd := listsF_code (s.length + 1) s [] (by simp)
    generalize listsF (s.length + 1) s [] = R at *
    obtain ⟨L, n, c⟩ := R
    have hLl : L.length ≤ 1000 := by
      by_cases h : c = 0
      · exact (hinv h).2.1
      · have : L = [] := hbad h
        rw [this]; simp
    have H1 := Lib.hid hT1
    have H2 := Lib.hid hT2
    have HI := Lib.hid hinv
    have HBd := Lib.hid hbad
    have hn : n ≤ 1000 := hcd
    have hcc : ((c : Int) != (c : Int)) = false := by simp
    have hnn : ((n : Int) != (n : Int)) = false := by simp
    have hLL : ((L.length : Int) != (L.length : Int)) = false := by simp
    clear hT1 hT2 hinv hbad hcd
    go_enter Tryd.func6, Tryd.ntmps6
    go_wp2_with fail
    refine (H1.out _).mono ?_
    rintro e w1 ⟨⟨v1, rfl, hO1⟩, hb1⟩
    go_wp2_with fail
    refine (H2.out _).mono ?_
    rintro e w2 ⟨⟨v2, rfl, hO2⟩, hb2⟩
    have hB2 := chain hb1 hb2
    have hO1' := hO1.below hb2 (Nat.le_refl _)
    have hl1 := hO1'.lsts
    have hl2 := hO2.lsts
    have HL1 := Lib.hid hl1
    obtain ⟨a, ca, ea, hv⟩ := hl1
    obtain ⟨a2, c2, e2, hu⟩ := hl2
    subst ea e2
    clear hO1 hO2 hO1'
    go_wp2_with fail
    go_loopw [45] (fun i wr => ∃ k : Nat, k ≤ L.length ∧ i = .int .i64 k ∧ ∃ m, wr = w2.drewN m) (fun i _ => L.length - (intOf i).toNat)
    case atStart => exact ⟨0, by omega, rfl, 0, rfl⟩
    case round =>
      obtain ⟨k, hk, rfl, hm⟩ := hrel
      by_cases hlt : k < L.length
      · obtain ⟨b, off, rfl, _, h2⟩ := hv (by omega)
        obtain ⟨b2, off2, rfl, _, h4⟩ := hu (by omega)
        obtain ⟨u, hu1, hu2⟩ := h2 k hlt
        obtain ⟨u', hu3, hu4⟩ := h4 k hlt
        have hc : wr.cell? ⟨b, off + k, none⟩ = some u := by obtain ⟨m, rfl⟩ := hm; exact hu1
        have hc2 : wr.cell? ⟨b2, off2 + k, none⟩ = some u' := by obtain ⟨m, rfl⟩ := hm; exact hu3
        have hs1 : StrsV wr u L[k] := by obtain ⟨m, rfl⟩ := hm; exact hu2
        have hs2 : StrsV wr u' L[k] := by obtain ⟨m, rfl⟩ := hm; exact hu4
        have hll : L[k].length ≤ 1000000000 := by
          by_cases h : c = 0
          · have := (HI.out h).2.2.1 L[k] (List.getElem_mem hlt)
            have := (texts_parts L[k]).1
            omega
          · have e : L = [] := HBd.out h
            rw [e] at hlt; simp at hlt
        have HM := Lib.hid hm
        have HSame : Hid (∀ q : Nat, Calls Tryd.prog 17 #[u, u'] (wr.drewN q) fun e w' => e = .returned (.bool true) ∧ ∃ m, w' = (wr.drewN q).drewN m) := Lib.hid (fun q => by
          have := Same_any L[k] L[k] u u' hll (wr.drewN q) hs1 hs2
          rwa [show decide (L[k] = L[k]) = true from decide_eq_true rfl] at this)
        clear h2 h4 hu1 hu2 hu3 hu4 hm hs1 hs2
        go_wp2
        go_quiet ((go_at_call 17; exact Calls.quiet_of (HSame.out _)))
        go_wp2
        go_roundw
        case rel => exact ⟨k + 1, by omega, by go_num, by obtain ⟨m, rfl⟩ := HM.out; exact ⟨m + nq, drewN_add _ _ _⟩⟩
        case measure => simp [intOf]; omega
      · have : k = L.length := by omega
        subst this
        have hBr : Below w.heap.size w wr := by obtain ⟨m, rfl⟩ := hm; exact belowDrewN hB2
        have hvr : LstsV wr (.slice a L.length ca) L := by obtain ⟨m, rfl⟩ := hm; exact HL1.out
        clear hm hv hu
        have hszr := hBr.size
        by_cases h0 : c = 0
        · obtain ⟨g1, g2, g3, g4⟩ := HI.out h0
          have hlines : linesL L = s := by
            have e : linesL ([] : List (List (List UInt8))) = [] := rfl
            rw [e, List.nil_append] at g1
            exact g1
          have hSc := fun hT => Script_ok L (.slice a L.length ca) hLl g3 (fun l hl => ⟨by have := g3 l hl; have := (texts_parts l).1; omega, fun x hx => by have := g3 l hl; have := (texts_parts l).2 x hx; omega⟩) (by rw [hlines]; omega) wr hT hvr
          rw [hlines] at hSc
          have HSc := Lib.hid hSc
          have hc0 : ((c : Int) != 0) = false := by rw [h0]; rfl
          clear hSc g1 g2 g3 g4 hlines h0
          go_wp2_with fail
          refine (HSc.out (hT.up hBr hszr)).mono ?_
          rintro e w4 ⟨rfl, hb4⟩
          have hB4 := chain hBr hb4
          go_wp2_with fail
          refine (awake41 _ (hT.up hB4 hB4.size)).mono ?_
          rintro e w5 ⟨rfl, hb5⟩
          go_wp2_with fail
          go_ret
          exact ⟨rfl, chain hB4 hb5⟩
        · have eL : L = [] := HBd.out h0
          have hc0 : ((c : Int) != 0) = true := bne_iff_ne.2 fun e => h0 (by exact_mod_cast e)
          have HSc := Lib.hid (fun hT => Script_ok L (.slice a L.length ca) hLl (fun l hl => by rw [eL] at hl; cases hl) (fun l hl => by rw [eL] at hl; cases hl) (by rw [eL]; decide) wr hT hvr)
          clear eL h0
          go_wp2_with fail
          refine (HSc.out (hT.up hBr hszr)).mono ?_
          rintro e w4 ⟨rfl, hb4⟩
          have hB4 := chain hBr hb4
          go_wp2_with fail
          refine (awake41 _ (hT.up hB4 hB4.size)).mono ?_
          rintro e w5 ⟨rfl, hb5⟩
          go_wp2_with fail
          go_ret
          exact ⟨rfl, chain hB4 hb5⟩
  · have : 2000 < s.length := by omega
    go_enter Tryd.func6, Tryd.ntmps6
    go_wp2_with fail
    refine (awake41 _ hT).mono ?_
    rintro e w1 ⟨rfl, hb1⟩
    go_wp2_with fail
    go_ret
    exact ⟨rfl, hb1⟩
end Go.Proofs.YtpfblnegaipgdaaDoor
