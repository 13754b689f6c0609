import Derived.Test.YtpfblnegaipgdaaDoorNetD
import Derived.ScopeJumps
import Derived.WalkMore
namespace Go.Proofs.YtpfblnegaipgdaaDoor
open Go.RowKit Go.Lib

theorem lenF_code (s : List UInt8) : (lenF s).2.2 ≤ 3 ∧ (lenF s).1 < 10 ^ 7 ∧ (lenF s).2.1 ≤ 7 ∧ ((lenF s).2.2 = 0 → (lenF s).2.1 < s.length) := by
  have h := preD_spec 7 s
  unfold lenF
  split
  · exact ⟨by decide, by decide, by decide, by simp⟩
  · split
    · exact ⟨by decide, by decide, by decide, by simp⟩
    · split
      · exact ⟨by decide, by decide, by decide, by simp⟩
      · refine ⟨by simp, ?_, h.1, fun _ => ?_⟩
        · have := decN_lt (preD 7 s) (s.take (preD 7 s)) h.2.2.1 (by rw [List.length_take]; omega)
          have hp : 10 ^ preD 7 s ≤ 10 ^ 7 := Nat.pow_le_pow_right (by decide) h.1
          exact Nat.lt_of_lt_of_le this hp
        · show preD 7 s < s.length
          omega
theorem takeF_nl (f : Nat) (s : List UInt8) (all : Nat) (out : List (List UInt8)) (h : s.head? = some 10) : takeF (f + 1) s all out = (out, s.tail, 0) := by
  rw [takeF, if_pos h, List.drop_one]
theorem takeF_err (f : Nat) (s : List UInt8) (all : Nat) (out : List (List UInt8)) (h : s.head? ≠ some 10) (he : (lenF s).2.2 ≠ 0) : takeF (f + 1) s all out = ([], [], (lenF s).2.2) := by
  rw [takeF, if_neg h, if_pos he]
theorem takeF_step (f : Nat) (s : List UInt8) (all : Nat) (out : List (List UInt8)) (v n : Nat) (h : s.head? ≠ some 10) (he : lenF s = (v, n, 0)) : takeF (f + 1) s all out =
    if 8192 < all + (n + 2 + v) then ([], [], 12) else if (s.drop (n + 1)).length ≤ v then ([], [], 3) else if (s.drop (n + 1))[v]? ≠ some 44 then ([], [], 2)
    else takeF f ((s.drop (n + 1)).drop (v + 1)) (all + (n + 2 + v)) (out ++ [(s.drop (n + 1)).take v]) := by
  have hl : n < s.length := by have := (lenF_code s).2.2.2; rw [he] at this; exact this rfl
  rw [takeF, if_neg h, he]
  simp only [ne_eq, not_true_eq_false, if_false, List.getElem?_drop, List.drop_drop]
  split
  · rfl
  · have e1 : (s.length ≤ n + 1 + v) = ((s.drop (n + 1)).length ≤ v) := by rw [List.length_drop, eq_iff_iff]; omega
    simp only [e1]
    rw [show n + 1 + (v + 1) = n + 1 + v + 1 by omega]
theorem pre_head (s : List UInt8) : Lib.hasPrefix s [10] = decide (s.head? = some 10) := by
  cases s with
  | nil => rfl
  | cons c l =>
    unfold Lib.hasPrefix
    rw [Bool.eq_iff_iff]
    simp
    exact ⟨fun h => h.symm, fun h => h.symm⟩
theorem drop_S (s : List UInt8) (k : Nat) : (S s).extract k s.length = S (s.drop k) := by
  rw [S_extract, List.take_of_length_le (by rw [List.length_drop]; exact Nat.le_refl _)]
theorem take_S (s : List UInt8) (k : Nat) : (S s).extract 0 k = S (s.take k) := by
  rw [S_extract, List.drop_zero, Nat.sub_zero]
/-- what holds where the list's next text begins -/
structure TkInv (w : World) (s0 s : List UInt8) (all : Nat) (out : List (List UInt8)) (v : Value) (wr : World) : Prop where
  fuel : ∃ f, s.length < f ∧ takeF f s all out = takeF (s0.length + 1) s0 0 []
  all_le : all ≤ 8192
  len_le : s.length ≤ s0.length
  outs : out.length ≤ 8192
  out_all : 2 * out.length ≤ all
  own : OwnS wr w.heap.size v out
  below : Below w.heap.size w wr

/-- a scope whose text is three regions, a label, and what is jumped back to -/
theorem wp_scope_label {P : Program} {r1 r2 r3 R : Code} {Q : Exit → Act → World → Prop} {a : Act} {w : World} (l : Nat) (J : Act → World → Prop) (μ : Act → World → Nat)
    (h1 : findLabel r1 l = none) (h2 : findLabel r2 l = none) (h3 : findLabel r3 l = none)
    (body : ∀ a w, J a w → R.wp P (Exit.jump l (fun a' w' => J a' w' ∧ μ a' w' < μ a w) Q) a w)
    (first : (∀ a w, J a w → R.wp P (Exit.jump l J Q) a w) → (r1.seq (r2.seq (r3.seq ((Code.label l).seq R)))).wp P (Exit.jump l J Q) a w) :
    (Code.scope (r1.seq (r2.seq (r3.seq ((Code.label l).seq R))))).wp P Q a w := by
  refine wp_scope_jumps (rest := Code.seq .skip R) l J μ (by simp [findLabel, h1, h2, h3]) (first fun a w h => Code.wp_mono ?_ (body a w h)) ?_
  · intro e a' w' hq
    cases e <;> first | exact hq | exact ⟨hq.1, hq.2.1⟩
  · intro a w h
    exact wp_seq (wp_skip (body a w h))
set_option maxRecDepth 100000 in
set_option maxHeartbeats 4000000 in
theorem Take_any (s0 : List UInt8) (hs : s0.length ≤ 100000) (w : World) :
    Calls Tryd.prog 16 #[.string (S s0)] w fun e w' => (∃ v, e = .returned (.tuple #[v, .string (S (takeF (s0.length + 1) s0 0 []).2.1), .int .i64 ((takeF (s0.length + 1) s0 0 []).2.2 : Nat)]) ∧ OwnS w' w.heap.size v (takeF (s0.length + 1) s0 0 []).1) ∧ Below w.heap.size w w' := by
  go_enter Tryd.func16, Tryd.ntmps16
  go_wp2_with fail
  refine wp_scope_label 0 (fun a' w' => ∃ (s : List UInt8) (all : Nat) (out : List (List UInt8)) (v u1 u2 u3 u4 u6 u7 u9 u10 u11 u12 u13 u14 u15 u16 u17 u18 u19 u20 u21 u22 u23 u24 u25 u26 u27 u28 u29 u30 u31 u32 u33 u34 u35 u36 u37 u38 u39 u40 u41 u42 u43 u44 u45 u46 u47 u48 u49 u50 u51 u52 u53 : Value), a' = { tmps := #[.string (S s), u1, u2, u3, u4, v, u6, u7, .int .i64 all, u9, u10, u11, u12, u13, u14, u15, u16, u17, u18, u19, u20, u21, u22, u23, u24, u25, u26, u27, u28, u29, u30, u31, u32, u33, u34, u35, u36, u37, u38, u39, u40, u41, u42, u43, u44, u45, u46, u47, u48, u49, u50, u51, u52, u53], defers := [] } ∧ TkInv w s0 s all out v w') (fun a' _ => match a'.tmps.getD 0 undef with | .string t => t.size | _ => 0) rfl rfl rfl ?_ ?_
  · rintro a' wr ⟨s, all, out, v, u1, u2, u3, u4, u6, u7, u9, u10, u11, u12, u13, u14, u15, u16, u17, u18, u19, u20, u21, u22, u23, u24, u25, u26, u27, u28, u29, u30, u31, u32, u33, u34, u35, u36, u37, u38, u39, u40, u41, u42, u43, u44, u45, u46, u47, u48, u49, u50, u51, u52, u53, rfl, hI⟩
    obtain ⟨⟨f, hf, hR⟩, hall, hlen, houts, hoa, hO, hB⟩ := hI
    obtain ⟨f, rfl⟩ : ∃ g, f = g + 1 := ⟨f - 1, by omega⟩
    have hsz := hB.size
    have hp0 : Lib.hasPrefix (S s).data.toList (⟨#[10]⟩ : ByteArray).data.toList = decide (s.head? = some 10) := pre_head s
    by_cases hnl : s.head? = some 10
    · have hR' := Lib.hid ((takeF_nl f s all out hnl).symm.trans hR)
      have hpp : Lib.hasPrefix (S s).data.toList (⟨#[10]⟩ : ByteArray).data.toList = true := by rw [hp0, hnl]; rfl
      have hs1 : 1 ≤ s.length := by cases s with | nil => cases hnl | cons => simp
      have hd : (S s).extract 1 s.length = S s.tail := by rw [drop_S, List.drop_one]
      have HPP := Lib.hid hpp
      clear hnl hp0 hpp hR
      go_wp2_with fail
      refine (Go.Proofs.Tryd.strings_HasPrefix _ _ _).mono ?_
      rintro e w2 ⟨rfl, hw2⟩
      subst hw2
      rw [HPP.out]
      go_wp2_with fail
      go_quiet (fail)
      go_wp2_with fail
      simp only [Exit.jump]
      try rw [Exit.noGoto_ret]
      go_ret3
      refine ⟨⟨v, ?_, ?_⟩, belowDrewN hB⟩
      · rw [← hR'.out]; rfl
      · rw [← hR'.out]; exact hO
    have hpp : Lib.hasPrefix (S s).data.toList (⟨#[10]⟩ : ByteArray).data.toList = false := by rw [hp0]; exact decide_eq_false hnl
    have HPP := Lib.hid hpp
    have hcode := lenF_code s
    have hlen0 := length_any s (by omega)
    clear hp0 hpp
    by_cases he : (lenF s).2.2 = 0
    · obtain ⟨a, n, hL⟩ : ∃ a n, lenF s = (a, n, 0) := ⟨(lenF s).1, (lenF s).2.1, by rw [← he]⟩
      rw [hL] at hcode hlen0
      obtain ⟨_, hc1, hc2, hc3⟩ := hcode
      have hn := hc3 rfl
      have hc1 : a ≤ 10000000 := by have : a < 10 ^ 7 := hc1; omega
      have hn7 : n ≤ 7 := hc2
      have hn : n < s.length := hn
      rw [takeF_step f s all out a n hnl hL] at hR
      have HL := Lib.hid hlen0
      clear hlen0 hc2 hc3 hnl he hL
      have hd1 := drop_S s (n + 1)
      have hsl : (s.drop (n + 1)).length = s.length - (n + 1) := List.length_drop
      generalize hs' : s.drop (n + 1) = s' at *
      have HD := Lib.hid hs'
      clear hs'
      have hl1 : s'.length ≤ s.length - (n + 1) := by omega
      have hl2 : s.length - (n + 1) ≤ s'.length := by omega
      have HSL := Lib.hid hsl
      clear hsl
      by_cases hbig : 8192 < all + (n + 2 + a)
      · rw [if_pos hbig] at hR
        have hR' := Lib.hid hR
        clear hR
        go_wp2_with fail
        refine (Go.Proofs.Tryd.strings_HasPrefix _ _ _).mono ?_
        rintro e w2 ⟨rfl, hw2⟩
        subst hw2
        rw [HPP.out]
        go_wp2_with fail
        refine (HL.out _).mono ?_
        rintro e w2 ⟨rfl, m, rfl⟩
        unfold lenV
        go_wp2_with fail
        simp only [Exit.jump]
        try rw [Exit.noGoto_ret]
        go_ret3
        refine ⟨⟨.slice none 0 0, ?_, ?_⟩, belowDrewN hB⟩
        · rw [← hR'.out]; rfl
        · rw [← hR'.out]; exact OwnS.nil _ _
      rw [if_neg hbig] at hR
      by_cases hsh : s'.length ≤ a
      · rw [if_pos hsh] at hR
        have hR' := Lib.hid hR
        clear hR
        go_wp2_with fail
        refine (Go.Proofs.Tryd.strings_HasPrefix _ _ _).mono ?_
        rintro e w2 ⟨rfl, hw2⟩
        subst hw2
        rw [HPP.out]
        go_wp2_with fail
        refine (HL.out _).mono ?_
        rintro e w2 ⟨rfl, m, rfl⟩
        unfold lenV
        go_wp2_with fail
        simp only [Exit.jump]
        try rw [Exit.noGoto_ret]
        go_ret3
        refine ⟨⟨.slice none 0 0, ?_, ?_⟩, belowDrewN hB⟩
        · rw [← hR'.out]; rfl
        · rw [← hR'.out]; exact OwnS.nil _ _
      rw [if_neg hsh] at hR
      have hlt : a < s'.length := by omega
      have hget := getS s' a hlt
      by_cases hcm : (((S s')[a]'(by rw [S_size]; exact hlt)).toNat : Int) = 44
      · have hg : s'[a]? = some 44 := by rw [hget, ← byteI_of ((S s')[a]'(by rw [S_size]; exact hlt)), hcm]; rfl
        rw [if_neg (fun h => h hg)] at hR
        have hR' := Lib.hid hR
        have hcb : ((((S s')[a]'(by rw [S_size]; exact hlt)).toNat : Int) != 44) = false := by rw [hcm]; rfl
        have hd2 := drop_S s' (a + 1)
        have hd3 := take_S s' a
        have hdl : (s'.drop (a + 1)).length = s'.length - (a + 1) := List.length_drop
        have HDL := Lib.hid hdl
        clear hR hcm hg hget hdl
        go_wp2_with fail
        refine (Go.Proofs.Tryd.strings_HasPrefix _ _ _).mono ?_
        rintro e w2 ⟨rfl, hw2⟩
        subst hw2
        rw [HPP.out]
        go_wp2_with fail
        refine (HL.out _).mono ?_
        rintro e w2 ⟨rfl, m, rfl⟩
        unfold lenV
        go_wp2_with (refine app_str rfl (.tmp 44) (.tmp 48) rfl w.heap.size v out (s'.take a) rfl (OwnS.drewN hO) rfl (by omega) hsz ?_; intro v' w' hO' hb' _)
        have hbd : Below w.heap.size w w' := (belowDrewN hB).trans hb'
        have hdd := HDL.out
        try go_step3
        try simp only [Exit.jump]
        refine ⟨rfl, ⟨s'.drop (a + 1), all + (n + 2 + a), out ++ [s'.take a], v', _, _, _, _, _, _, _, _, _, _, _, _, _, _, _, _, _, _, _, _, _, _, _, _, _, _, _, _, _, _, _, _, _, _, _, _, _, _, _, _, _, _, _, _, _, _, _, _, _, _, _, by push_cast; rfl, ⟨⟨f, by omega, hR'.out⟩, by omega, by omega, by rw [List.length_append, List.length_singleton]; omega, by rw [List.length_append, List.length_singleton]; omega, hO', hbd⟩⟩, ?_⟩
        show (S (s'.drop (a + 1))).size < (S s).size
        rw [S_size, S_size]; omega
      · have hg : s'[a]? ≠ some 44 := by
          intro h; rw [hget] at h; apply hcm; rw [Option.some.inj h]; rfl
        rw [if_pos hg] at hR
        have hR' := Lib.hid hR
        have hcb : ((((S s')[a]'(by rw [S_size]; exact hlt)).toNat : Int) != 44) = true := by rw [bne_iff_ne]; exact hcm
        clear hR hcm hg hget
        go_wp2_with fail
        refine (Go.Proofs.Tryd.strings_HasPrefix _ _ _).mono ?_
        rintro e w2 ⟨rfl, hw2⟩
        subst hw2
        rw [HPP.out]
        go_wp2_with fail
        refine (HL.out _).mono ?_
        rintro e w2 ⟨rfl, m, rfl⟩
        unfold lenV
        go_wp2_with fail
        simp only [Exit.jump]
        try rw [Exit.noGoto_ret]
        go_ret3
        refine ⟨⟨.slice none 0 0, ?_, ?_⟩, belowDrewN hB⟩
        · rw [← hR'.out]; rfl
        · rw [← hR'.out]; exact OwnS.nil _ _
    · have hR' := Lib.hid ((takeF_err f s all out hnl he).symm.trans hR)
      generalize lenF s = p at *
      obtain ⟨a, n, c⟩ := p
      have hc : c ≤ 3 := hcode.1
      have hc0 : ((c : Int) != 0) = true := by rw [bne_iff_ne]; have : c ≠ 0 := he; omega
      have HL := Lib.hid hlen0
      clear hlen0 hcode he hnl hR
      go_wp2_with fail
      refine (Go.Proofs.Tryd.strings_HasPrefix _ _ _).mono ?_
      rintro e w2 ⟨rfl, hw2⟩
      subst hw2
      rw [HPP.out]
      go_wp2_with fail
      refine (HL.out _).mono ?_
      rintro e w2 ⟨rfl, m, rfl⟩
      unfold lenV
      go_wp2_with fail
      simp only [Exit.jump]
      try rw [Exit.noGoto_ret]
      go_ret3
      refine ⟨⟨.slice none 0 0, ?_, ?_⟩, belowDrewN hB⟩
      · rw [← hR'.out]; rfl
      · rw [← hR'.out]; exact OwnS.nil _ _
  · intro hR
    go_wp2_with fail
    go_step3
    simp only [Exit.then]
    rename_i hK
    refine hK _ _ ?_
    exact hR _ _ ⟨s0, 0, [], .slice none 0 0, _, _, _, _, _, _, _, _, _, _, _, _, _, _, _, _, _, _, _, _, _, _, _, _, _, _, _, _, _, _, _, _, _, _, _, _, _, _, _, _, _, _, _, _, _, _, _, _, _, _, _, rfl, ⟨_, Nat.lt_succ_self _, rfl⟩, by omega, by omega, by simp, by simp, OwnS.nil _ _, Below.refl _ _⟩
end Go.Proofs.YtpfblnegaipgdaaDoor
