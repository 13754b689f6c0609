import Derived.Test.YtpfblnegaipgdaaDoorNetH
import Derived.Test.YtpfblnegaipgdaaDoorNetQ
import Derived.Test.YtpfblnegaipgdaaDoorStrss
namespace Go.Proofs.YtpfblnegaipgdaaDoor
open Go.RowKit Go.Lib

theorem OwnS.one {w : World} {base : Nat} {v : Value} {l : List (List UInt8)} (h : OwnS w base v l) : v.oneCell' = true := by
  rcases h.2 with ⟨rfl, _⟩ | ⟨g, cap, cur, rfl, _⟩ <;> rfl
theorem OwnL.shape {w : World} {base : Nat} {v : Value} {L : List (List (List UInt8))} (h : OwnL w base v L) : ∃ a c, v = .slice a L.length c := by
  obtain ⟨a, c, h1, _⟩ := h.lsts
  exact ⟨a, c, h1⟩

set_option maxRecDepth 100000 in
set_option maxHeartbeats 2000000 in
theorem Lists_any (s0 : List UInt8) (hs : s0.length ≤ 10000) (w : World) :
    Calls Tryd.prog 23 #[.string (S s0)] w fun e w' => (∃ v, e = .returned (.tuple #[v, .int .i64 ((listsF (s0.length + 1) s0 []).2.1 : Nat), .int .i64 ((listsF (s0.length + 1) s0 []).2.2 : Nat)]) ∧ OwnL w' w.heap.size v (listsF (s0.length + 1) s0 []).1) ∧ Below w.heap.size w w' := by
  go_enter Tryd.func23, Tryd.ntmps23
  go_wp2
  go_loopw [0, 5] (fun x v wr => ∃ (s : List UInt8) (out : List (List (List UInt8))), x = .string (S s) ∧ s.length ≤ 10000 ∧ (∃ f, s.length < f ∧ listsF f s out = listsF (s0.length + 1) s0 []) ∧ out.length ≤ 1000 ∧ OwnL wr w.heap.size v out ∧ Below w.heap.size w wr) (fun x _ _ => match x with | .string t => t.size | _ => 0)
  case atStart => exact ⟨s0, [], rfl, hs, ⟨_, Nat.lt_succ_self _, rfl⟩, by simp, OwnL.nil _ _, Below.refl _ _⟩
  case round =>
    obtain ⟨s, out, rfl, hsl, ⟨f, hf, hR⟩, ho, hO, hB⟩ := hrel
    obtain ⟨f, rfl⟩ : ∃ g, f = g + 1 := ⟨f - 1, by omega⟩
    obtain ⟨a5, c5, e5⟩ := hO.shape
    subst e5
    have hsz := hB.size
    by_cases h0 : s = []
    · have hR' := Lib.hid (show (out, 0, 0) = listsF (s0.length + 1) s0 [] by rw [← hR, listsF, if_pos h0])
      have he : s.isEmpty = true := by rw [h0]; rfl
      clear hR h0
      go_wp2
      go_ret3
      refine ⟨⟨_, ?_, by rw [← hR'.out]; exact hO⟩, hB⟩
      rw [← hR'.out]; rfl
    · have he : s.isEmpty = false := by cases s with | nil => exact absurd rfl h0 | cons => rfl
      by_cases h1 : out.length = 1000
      · have hR' := Lib.hid (show ([], 1000, 8) = listsF (s0.length + 1) s0 [] by rw [← hR, listsF, if_neg h0, if_pos h1])
        have hb : ((out.length : Int) == 1000) = true := by rw [h1]; rfl
        have H1 := Lib.hid h1
        clear hR h0 h1
        go_wp2
        go_ret3
        refine ⟨⟨.slice none 0 0, ?_, by rw [← hR'.out]; exact OwnL.nil _ _⟩, hB⟩
        rw [← hR'.out, H1.out]; rfl
      · have hb : ((out.length : Int) == 1000) = false := by rw [beq_eq_false_iff_ne]; omega
        have hlk : out.length < 1000 := by omega
        have hT := fun w => Take_any s (by omega) w
        have eR : takeF (s.length + 1) s 0 [] = takeQ s := rfl
        rw [eR] at hT
        have hrl := fun h => takeQ_lt s h
        have hcd := (takeF_len (s.length + 1) s 0 []).2
        rw [eR] at hcd
        by_cases h2 : (takeQ s).2.2 = 0
        · have hR' := Lib.hid (show listsF f (takeQ s).2.1 (out ++ [(takeQ s).1]) = listsF (s0.length + 1) s0 [] by rw [← hR, listsF, if_neg h0, if_neg h1, if_neg (fun g => g h2)])
          have hlt := hrl h2
          rw [h2] at hT
          generalize takeQ s = q at *
          obtain ⟨l1, rest, cc⟩ := q
          have HT := Lib.hid hT
          have hlt : rest.length < s.length := hlt
          clear hR hT h0 h1 h2 hrl hcd eR
          go_wp2_with fail
          refine (HT.out _).mono ?_
          rintro e w1 ⟨⟨v1, rfl, hO1⟩, hb1⟩
          have hB1 := chain hB hb1
          have hO' := hO.below hb1 (Nat.le_refl _)
          have hO1' := hO1.base hsz
          have hone := hO1.one
          obtain ⟨a6, c6, e6, _⟩ := hO1.strs
          subst e6
          have hsz1 := hB1.size
          go_wp2_with (at_builtin; go_must (refine app_lst rfl (.tmp 27) (.tmp 29) rfl w.heap.size (.slice a5 out.length c5) (.slice a6 l1.length c6) out l1 rfl hO' hO1' hone rfl (by omega) hsz1 ?_); intro v' w' hO2 hb2)
          go_roundw
          case rel => exact ⟨rest, out ++ [l1], rfl, by omega, ⟨f, by omega, hR'.out⟩, by rw [List.length_append, List.length_singleton]; omega, hO2, hB1.trans hb2⟩
          case measure =>
            show (S rest).size < (S s).size
            rw [S_size, S_size]; exact hlt
        · have hR' := Lib.hid (show ([], out.length, (takeQ s).2.2) = listsF (s0.length + 1) s0 [] by rw [← hR, listsF, if_neg h0, if_neg h1, if_pos h2])
          generalize takeQ s = q at *
          obtain ⟨l1, rest, cc⟩ := q
          have HT := Lib.hid hT
          have hcc : cc ≤ 12 := hcd
          have hcn : ((cc : Int) != 0) = true := bne_iff_ne.2 fun e => h2 (by exact_mod_cast e)
          clear hR hT h0 h1 h2 hrl hcd eR
          go_wp2_with fail
          refine (HT.out _).mono ?_
          rintro e w1 ⟨⟨v1, rfl, hO1⟩, hb1⟩
          go_wp2_with fail
          go_ret3
          refine ⟨⟨.slice none 0 0, ?_, by rw [← hR'.out]; exact OwnL.nil _ _⟩, chain hB hb1⟩
          rw [← hR'.out]; rfl

set_option maxRecDepth 100000 in
set_option maxHeartbeats 2000000 in
theorem rLists_any (s0 : List UInt8) (hs : s0.length ≤ 10000) (w : World) :
    Calls Tryd.prog 24 #[.string (S s0)] w fun e w' => (∃ v, e = .returned (.tuple #[v, .int .i64 ((listsF (s0.length + 1) s0 []).2.1 : Nat), .int .i64 ((listsF (s0.length + 1) s0 []).2.2 : Nat)]) ∧ OwnL w' w.heap.size v (listsF (s0.length + 1) s0 []).1) ∧ Below w.heap.size w w' := by
  go_enter Tryd.func24, Tryd.ntmps24
  go_wp2
  go_loopw [5, 6] (fun v i wr => ∃ (k : Nat) (out : List (List (List UInt8))), i = .int .i64 k ∧ k ≤ s0.length ∧ (∃ f, (s0.drop k).length < f ∧ listsF f (s0.drop k) out = listsF (s0.length + 1) s0 []) ∧ out.length ≤ 1000 ∧ OwnL wr w.heap.size v out ∧ Below w.heap.size w wr) (fun _ i _ => s0.length - (intOf i).toNat)
  case atStart => exact ⟨0, [], rfl, by omega, ⟨_, Nat.lt_succ_self _, by rw [List.drop_zero]⟩, by simp, OwnL.lit0 w, (Below.refl _ _).alloc (Nat.le_refl _) _⟩
  case round =>
    obtain ⟨k, out, rfl, hk, ⟨f, hf, hR⟩, ho, hO, hB⟩ := hrel
    obtain ⟨f, rfl⟩ : ∃ g, f = g + 1 := ⟨f - 1, by omega⟩
    obtain ⟨a5, c5, e5⟩ := hO.shape
    subst e5
    have hsz := hB.size
    have hql : (s0.drop k).length = s0.length - k := List.length_drop
    by_cases h0 : s0.length ≤ k
    · have hd : s0.drop k = [] := List.drop_eq_nil_of_le h0
      have hR' := Lib.hid (show (out, 0, 0) = listsF (s0.length + 1) s0 [] by rw [← hR, listsF, if_pos hd])
      clear hR hd hql
      go_wp2
      go_ret3
      refine ⟨⟨_, ?_, by rw [← hR'.out]; exact hO⟩, hB⟩
      rw [← hR'.out]; rfl
    · have hd : s0.drop k ≠ [] := by intro g; rw [g] at hql; simp at hql; omega
      by_cases h1 : out.length = 1000
      · have hR' := Lib.hid (show ([], 1000, 8) = listsF (s0.length + 1) s0 [] by rw [← hR, listsF, if_neg hd, if_pos h1])
        have hge : 1000 ≤ out.length := by omega
        have H1 := Lib.hid h1
        clear hR hd h1 hql
        go_wp2
        go_ret3
        refine ⟨⟨.slice none 0 0, ?_, by rw [← hR'.out]; exact OwnL.nil _ _⟩, hB⟩
        rw [← hR'.out, H1.out]; rfl
      · have hlk : out.length < 1000 := by omega
        have hT := fun w => rTake_any s0 k (by omega) hk w
        have eR : takeR (s0.drop k) = takeQ (s0.drop k) := rfl
        rw [eR] at hT
        have hrl := fun h => takeQ_lt (s0.drop k) h
        have hsuf := takeF_suf ((s0.drop k).length + 1) (s0.drop k) 0 []
        have hcd := (takeF_len ((s0.drop k).length + 1) (s0.drop k) 0 []).2
        rw [show takeF ((s0.drop k).length + 1) (s0.drop k) 0 [] = takeQ (s0.drop k) from rfl] at hcd hsuf
        by_cases h2 : (takeQ (s0.drop k)).2.2 = 0
        · have hR' := Lib.hid (show listsF f (takeQ (s0.drop k)).2.1 (out ++ [(takeQ (s0.drop k)).1]) = listsF (s0.length + 1) s0 [] by rw [← hR, listsF, if_neg hd, if_neg h1, if_neg (fun g => g h2)])
          have hlt := hrl h2
          obtain ⟨j, hj, hrest⟩ := hsuf h2
          have hat : atF s0.length (takeQ (s0.drop k)) = k + j := by
            unfold atF
            rw [if_pos h2, hrest, List.length_drop, List.length_drop]
            rw [hql] at hj
            omega
          rw [hat, h2] at hT
          rw [hrest, List.drop_drop] at hR'
          have hjl : k < k + j ∧ k + j ≤ s0.length := by
            rw [hrest, List.length_drop] at hlt
            omega
          generalize (takeQ (s0.drop k)).1 = l1 at *
          obtain ⟨hj1, hj2⟩ := hjl
          generalize k + j = kk at *
          have HT := Lib.hid hT
          clear hR hT h1 h2 hrl hcd eR hsuf hlt hrest hat hd
          go_wp2_with fail
          refine (HT.out _).mono ?_
          rintro e w1 ⟨⟨v1, rfl, hO1⟩, hb1⟩
          have hB1 := chain hB hb1
          have hO' := hO.below hb1 (Nat.le_refl _)
          have hO1' := hO1.base hsz
          have hone := hO1.one
          obtain ⟨a6, c6, e6, _⟩ := hO1.strs
          subst e6
          have hsz1 := hB1.size
          go_wp2_with (at_builtin; go_must (refine app_lst rfl (.tmp 32) (.tmp 34) rfl w.heap.size (.slice a5 out.length c5) (.slice a6 l1.length c6) out l1 rfl hO' hO1' hone rfl (by omega) hsz1 ?_); intro v' w' hO2 hb2)
          go_roundw
          case rel => exact ⟨kk, out ++ [l1], rfl, by omega, ⟨f, by rw [List.length_drop] at *; omega, hR'.out⟩, by rw [List.length_append, List.length_singleton]; omega, hO2, hB1.trans hb2⟩
          case measure => simp [intOf]; omega
        · have hR' := Lib.hid (show ([], out.length, (takeQ (s0.drop k)).2.2) = listsF (s0.length + 1) s0 [] by rw [← hR, listsF, if_neg hd, if_neg h1, if_pos h2])
          generalize takeQ (s0.drop k) = q at *
          obtain ⟨l1, rest, cc⟩ := q
          have HT := Lib.hid hT
          have hcc : cc ≤ 12 := hcd
          have hcn : ((cc : Int) != 0) = true := bne_iff_ne.2 fun e => h2 (by exact_mod_cast e)
          clear hR hT h1 h2 hrl hcd eR hsuf hd hql
          go_wp2_with fail
          refine (HT.out _).mono ?_
          rintro e w1 ⟨⟨v1, rfl, hO1⟩, hb1⟩
          go_wp2_with fail
          go_ret3
          refine ⟨⟨.slice none 0 0, ?_, by rw [← hR'.out]; exact OwnL.nil _ _⟩, chain hB hb1⟩
          rw [← hR'.out]; rfl

set_option maxRecDepth 100000 in
theorem Script_full (L : List (List (List UInt8))) (v : Value) (hl : 1000 < L.length) (hl2 : L.length ≤ 1000000) (w : World) (hv : LstsV w v L) :
    Calls Tryd.prog 25 #[v] w fun e w' => e = .returned (.tuple #[.string (S []), .int .i64 8]) ∧ Below w.heap.size w w' := by
  obtain ⟨a, c, rfl, hv⟩ := hv
  go_enter Tryd.func25, Tryd.ntmps25
  go_wp2
  go_ret2
  exact ⟨rfl, Below.refl _ _⟩
theorem lines_take (L : List (List (List UInt8))) (k : Nat) (h : k < L.length) : linesL (L.take (k + 1)) = linesL (L.take k) ++ lineL L[k] := by
  rw [List.take_succ_eq_append_getElem h, lines_snoc]
theorem lines_take_le (L : List (List (List UInt8))) (k : Nat) : (linesL (L.take k)).length ≤ (linesL L).length := by
  have : linesL L = linesL (L.take k) ++ linesL (L.drop k) := by
    unfold linesL
    rw [← List.flatten_append, ← List.map_append, List.take_append_drop]
  rw [this, List.length_append]
  omega

set_option maxRecDepth 100000 in
set_option maxHeartbeats 2000000 in
theorem Script_ok (L : List (List (List UInt8))) (v : Value) (hl : L.length ≤ 1000) (hm : ∀ l ∈ L, (textsL l).length ≤ 8192) (hq : ∀ l ∈ L, l.length ≤ 1000000 ∧ ∀ s ∈ l, s.length ≤ 100000) (ht : (linesL L).length ≤ 1000000000) (w : World) (hT : TB w.heap.size w) (hv : LstsV w v L) :
    Calls Tryd.prog 25 #[v] w fun e w' => e = .returned (.tuple #[.string (S (linesL L)), .int .i64 0]) ∧ Below w.heap.size w w' := by
  obtain ⟨a, c, rfl, hv⟩ := hv
  go_enter Tryd.func25, Tryd.ntmps25
  go_wp2
  go_loopw [4, 14] (fun o i wr => ∃ k : Nat, k ≤ L.length ∧ i = .int .i64 k ∧ OwnB wr w.heap.size o (linesL (L.take k)) ∧ Below w.heap.size w wr) (fun _ i _ => L.length - (intOf i).toNat)
  case atStart => exact ⟨0, by omega, rfl, OwnB.nil _ _, Below.refl _ _⟩
  case round =>
    obtain ⟨k, hk, rfl, hO, hB⟩ := hrel
    have hsz := hB.size
    have htk := lines_take_le L k
    by_cases hlt : k < L.length
    · obtain ⟨b, off, rfl, h1, h2⟩ := hv (by omega)
      obtain ⟨u, hu, hs⟩ := h2 k hlt
      have hc : wr.cell? ⟨b, off + k, none⟩ = some u := by rw [hB.cell (by exact h1)]; exact hu
      have hs' := hs.below hB (Nat.le_refl _)
      obtain ⟨a6, c6, e6, _⟩ := hs
      subst e6
      have hmk := hm L[k] (List.getElem_mem hlt)
      have hqk := hq L[k] (List.getElem_mem hlt)
      have hpv : putV L[k] = .tuple #[.string (S (lineL L[k])), .int .i64 0] := by unfold putV putB lineL; rw [if_pos (by simp; omega)]
      have hP := fun hT => Put_any L[k] _ hqk.1 hqk.2 wr hT hs'
      rw [hpv] at hP
      have HP := Lib.hid hP
      have HS := Lib.hid (lines_take L k hlt)
      have hll : (lineL L[k]).length ≤ 8193 := by unfold lineL; rw [List.length_append, List.length_singleton]; omega
      clear h2 hu hs' hpv hP hmk hqk hv
      generalize lineL L[k] = piece at *
      generalize L[k] = l at *
      go_wp2_with fail
      refine (HP.out (hT.up hB hsz)).mono ?_
      rintro e w1 ⟨rfl, hb1⟩
      have hB1 := chain hB hb1
      have hO1 := hO.below hb1 (Nat.le_refl _)
      have hsz1 := hB1.size
      go_wp2_with (at_builtin; go_must (refine app_text rfl (.tmp 26) (.tmp 27) rfl w.heap.size _ (linesL (L.take k)) piece rfl hO1 rfl (by omega) hsz1 ?_); intro v2 w2 hO2 hb2)
      go_roundw
      case rel => exact ⟨k + 1, by omega, by go_num, by rw [HS.out]; exact hO2, hB1.trans hb2⟩
      case measure => simp [intOf]; omega
    · have : k = L.length := by omega
      subst this
      rw [List.take_length] at hO
      have hcv := run_string_own _ _ _ _ hO
      go_wp2
      go_ret2
      exact ⟨rfl, hB⟩
end Go.Proofs.YtpfblnegaipgdaaDoor
