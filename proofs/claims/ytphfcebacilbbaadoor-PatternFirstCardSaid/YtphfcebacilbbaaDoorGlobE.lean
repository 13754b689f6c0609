/- A glob: Parse, walked. -/
import Derived.Test.YtphfcebacilbbaaDoorGlobD
namespace Go.Proofs.YtphfcebacilbbaaDoor
open Go.RowKit
attribute [local irreducible] wordP

/-- what Parse tells: tokens of the call's own, a place, an error's number -/
def GPost (R : Option (List Tk × Nat × Nat)) (w : World) (e : Ending) (w' : World) : Prop := match R with
  | some (l, at', er) => ∃ v, e = .returned (.tuple #[v, .int .i64 at', .int .i64 er]) ∧ OwnT w' w.heap.size v l ∧ Below w.heap.size w w'
  | none => False
abbrev setObj2 (p : Nat → Bool) : Obj := .cells #[.int .u64 (wordP p 0), .int .u64 (wordP p 1), .int .u64 (wordP p 2), .int .u64 (wordP p 3)] 29
set_option maxRecDepth 100000 in
set_option maxHeartbeats 4000000 in
theorem GParse_any (s : List UInt8) (hs : s.length ≤ 100000) (w : World) (m : Int) (hm : w.cell? ⟨2, 0, none⟩ = some (.int .i64 m)) :
    Calls Tryd.prog 8 #[.string (S s)] w fun e w' => GPost (parseG s (s.length + 1) 0 []) w e w' := by
  have hgW : 2 < w.heap.size := World.block_lt_of_cell? w ⟨2, 0, none⟩ hm
  generalize hR : parseG s (s.length + 1) 0 [] = R
  have HR0 := Lib.hid hR
  clear hR
  have hsI : (s.length : Int) ≤ 100000 := by omega
  go_enter Tryd.func8, Tryd.ntmps8
  go_wp2_with fail
  go_loopw [5, 6] (fun v5 v6 wr => ∃ (k fuel : Nat) (out : List Tk), v6 = .int .i64 k ∧ OwnT wr w.heap.size v5 out ∧ k ≤ s.length ∧ out.length ≤ 1024 ∧ s.length + 1 ≤ fuel + k ∧ Hid (parseG s fuel k out = R) ∧ Below w.heap.size w wr) (fun _ v6 _ => s.length - (intOf v6).toNat)
  case atStart => exact ⟨0, s.length + 1, [], rfl, OwnR.nil _ _ _ _ _, Nat.zero_le _, by simp, by omega, HR0, Below.refl _ _⟩
  case round =>
    obtain ⟨k, fuel, out, rfl, hown, hk, hol, hfu, HR, hb⟩ := hrel
    obtain ⟨f, rfl⟩ : ∃ f, fuel = f + 1 := ⟨fuel - 1, by omega⟩
    obtain ⟨a, c, rfl⟩ := hown.shape
    have hsz := hb.size
    clear HR0
    by_cases hlt : k < s.length
    · have hkI : (k : Int) < (s.length : Int) := by omega
      have hks : k < (S s).size := by rw [S_size]; exact hlt
      have hgt : s[k]? = some ((S s)[k]'hks) := List.getElem?_eq_getElem hlt
      by_cases hfull : out.length = 1024
      · have HRN : Hid (R = some ([], k, 8)) := Lib.hid (by rw [← HR.out, parseG, if_neg (by omega), if_pos hfull])
        have hoI : (out.length : Int) = 1024 := by omega
        go_wp2_with fail
        refine bodyPost_ret (v := .tuple #[.slice none 0 0, .int .i64 k, .int .i64 8]) (by simp [results, Tryd.results8, go_sem]) rfl ?_
        rw [HRN.out]
        exact ⟨_, rfl, OwnR.nil _ _ _ _ _, hb⟩
      · have HR2 : Hid ((match tokF s k with | none => some ([], k, 11) | some (t, n) => parseG s f (k + n) (out ++ [t])) = R) := Lib.hid (by rw [← HR.out]; symm; rw [parseG, if_neg (by omega), if_neg hfull]; cases tokF s k <;> rfl)
        have hoI : ¬ (out.length : Int) = 1024 := by omega
        have hoB : ((out.length : Int) == 1024) = false := beq_eq_false_iff_ne.2 hoI
        have hob : out.length ≤ 1000000000 := by omega
        have HT : Hid (tokF s k = if (S s)[k]'hks = 42 then some (.star, 1) else if (S s)[k]'hks = 63 then some (.any, 1) else if (S s)[k]'hks = 91 then (parseP s k true).map fun r => (.set r.1, r.2 - k) else if (S s)[k]'hks = 92 then s[k + 1]?.map fun b => (.byte b, 2) else some (.byte ((S s)[k]'hks), 1)) := Lib.hid (by unfold tokF; rw [hgt])
        have HPOS : Hid (∀ t n, tokF s k = some (t, n) → 1 ≤ n ∧ k + n ≤ s.length ∧ parseG s f (k + n) (out ++ [t]) = R) := Lib.hid (fun t n h => by
          have := tokF_pos h
          refine ⟨this.1, this.2, ?_⟩
          rw [← HR2.out, h])
        have hbase : w.heap.size ≤ wr.heap.size := hsz
        by_cases h42 : (S s)[k]'hks = 42
        · obtain ⟨d1, d2, d3⟩ := HPOS.out .star 1 (by rw [HT.out, if_pos h42])
          have HD3 := Lib.hid d3
          have hv : ((S s)[k]'hks).toNat = 42 := by rw [h42]; rfl
          have hvI : (((S s)[k]'hks).toNat : Int) = 42 := by omega
          clear d3 h42 HT HPOS hgt
          go_wp2_with (at_builtin; go_must (refine app_tok rfl _ _ rfl w.heap.size (.slice a out.length c) out .star _ (tok_zero _ _ _ rfl rfl rfl) rfl hown rfl hob hbase ?_); intro v3 w3 hown3 hb3 hg3)
          go_roundw
          case rel => exact ⟨k + 1, f, out ++ [.star], by go_num, hown3, d2, by simp; omega, by omega, HD3, hb.trans hb3⟩
          case measure => simp [intOf]; omega
        · by_cases h63 : (S s)[k]'hks = 63
          · obtain ⟨d1, d2, d3⟩ := HPOS.out .any 1 (by rw [HT.out, if_neg h42, if_pos h63])
            have HD3 := Lib.hid d3
            have hv : ((S s)[k]'hks).toNat = 63 := by rw [h63]; rfl
            have hvI : (((S s)[k]'hks).toNat : Int) = 63 := by omega
            clear d3 h63 h42 HT HPOS hgt
            go_wp2_with (at_builtin; go_must (refine app_tok rfl _ _ rfl w.heap.size (.slice a out.length c) out .any _ (tok_zero _ _ _ rfl rfl rfl) rfl hown rfl hob hbase ?_); intro v3 w3 hown3 hb3 hg3)
            go_roundw
            case rel => exact ⟨k + 1, f, out ++ [.any], by go_num, hown3, d2, by simp; omega, by omega, HD3, hb.trans hb3⟩
            case measure => simp [intOf]; omega
          by_cases h91 : (S s)[k]'hks = 91
          · have hv : ((S s)[k]'hks).toNat = 91 := by rw [h91]; rfl
            have hvI : (((S s)[k]'hks).toNat : Int) = 91 := by omega
            have hgk : s[k]? = some 91 := by rw [hgt, h91]
            have hmr : wr.cell? ⟨2, 0, none⟩ = some (.int .i64 m) := (hb.cell (p := ⟨2, 0, none⟩) hgW).trans hm
            have hT2 : tokF s k = (parseP s k true).map fun r => (.set r.1, r.2 - k) := by rw [HT.out, if_neg h42, if_neg h63, if_pos h91]
            cases hp : parseP s k true with
            | none =>
              have HP := Lib.hid (Parse_none s k true (by omega) hgk hp m wr hmr)
              have HRN : Hid (R = some ([], k, 11)) := Lib.hid (by rw [← HR2.out, hT2, hp]; rfl)
              clear h42 h63 h91 HT HPOS hgt hgk hT2 hp
              go_wp2_with fail
              refine (HP.out).mono ?_
              rintro e w3 ⟨rfl, hb3⟩
              have hx3 := hb.trans (hb3.mono hsz)
              go_wp2_with fail
              refine bodyPost_ret (v := .tuple #[.slice none 0 0, .int .i64 k, .int .i64 11]) (by simp [results, Tryd.results8, go_sem]) rfl ?_
              rw [HRN.out]
              exact ⟨_, rfl, OwnR.nil _ _ _ _ _, by first | exact hx3 | exact hx3.alloc hx3.size _⟩
            | some pn =>
              obtain ⟨p, n⟩ := pn
              have HP := Lib.hid (Parse_some s k true p n (by omega) hgk hp m wr hmr)
              have hgt2 := parseP_gt hp
              obtain ⟨d1, d2, d3⟩ := HPOS.out (.set p) (n - k) (by rw [hT2, hp]; rfl)
              rw [show k + (n - k) = n by omega] at d2 d3
              have HD3 := Lib.hid d3
              clear d3 h42 h63 h91 HT HPOS hgt hgk hT2 hp
              go_wp2_with fail
              refine (HP.out).mono ?_
              rintro e w4 ⟨rfl, hb4⟩
              have hx4 := hb.trans (hb4.mono hsz)
              have hown4 := (hown.below hb4 (Nat.le_refl _)).alloc (setObj2 p)
              have hx5 : Below w.heap.size w (w4.alloc (setObj2 p)) := hx4.alloc hx4.size _
              have hS5 := set_alloc w4 p 29
              obtain ⟨a0, a1, a2, a3⟩ := hS5.four
              go_upto_region 20 with fail
              generalize w4.heap.size = g4 at *
              generalize w4.alloc (.cells #[.int .u64 (wordP p 0), .int .u64 (wordP p 1), .int .u64 (wordP p 2), .int .u64 (wordP p 3)] 29) = w5 at *
              go_wp2_with (at_builtin; go_must (refine app_tok rfl _ _ rfl w.heap.size (.slice a out.length c) out (.set p) _ (tok_set p) rfl hown4 rfl hob hx5.size ?_); intro v3 w3 hown3 hb3 hg3)
              go_roundw
              case rel => exact ⟨n, f, out ++ [.set p], rfl, hown3, d2, by simp; omega, by omega, HD3, hx5.trans hb3⟩
              case measure => simp [intOf]; omega
          have e42 := byte_beq' ((S s)[k]'hks) 42 42 rfl h42
          have e63 := byte_beq' ((S s)[k]'hks) 63 63 rfl h63
          have e91 := byte_beq' ((S s)[k]'hks) 91 91 rfl h91
          by_cases h92 : (S s)[k]'hks = 92
          · have hv : ((S s)[k]'hks).toNat = 92 := by rw [h92]; rfl
            have hvI : (((S s)[k]'hks).toNat : Int) = 92 := by omega
            have hT2 : tokF s k = s[k + 1]?.map fun b => (.byte b, 2) := by rw [HT.out, if_neg h42, if_neg h63, if_neg h91, if_pos h92]
            clear e42 e63 e91
            by_cases hlast : k + 1 < s.length
            · have hks1 : k + 1 < (S s).size := by rw [S_size]; exact hlast
              have hg1 : s[k + 1]? = some ((S s)[k + 1]'hks1) := List.getElem?_eq_getElem hlast
              obtain ⟨d1, d2, d3⟩ := HPOS.out (.byte ((S s)[k + 1]'hks1)) 2 (by rw [hT2, hg1]; rfl)
              have HD3 := Lib.hid d3
              have hlI : ¬ (k : Int) = (s.length : Int) - 1 := by omega
              have hlB : ((k : Int) == (s.length : Int) - 1) = false := beq_eq_false_iff_ne.2 hlI
              have hl1 : (k : Int) + 1 < (s.length : Int) := by omega
              clear d3 h42 h63 h91 h92 HT HPOS hgt hT2 hg1
              go_wp2_with (at_builtin; go_must (refine app_tok rfl _ _ rfl w.heap.size (.slice a out.length c) out (.byte ((S s)[k + 1]'hks1)) _ (tok_zero _ _ _ rfl rfl rfl) rfl hown rfl hob hbase ?_); intro v3 w3 hown3 hb3 hg3)
              go_roundw
              case rel => exact ⟨k + 2, f, out ++ [.byte ((S s)[k + 1]'hks1)], by go_num, hown3, d2, by simp; omega, by omega, HD3, hb.trans hb3⟩
              case measure => simp [intOf]; omega
            · have HRN : Hid (R = some ([], k, 11)) := Lib.hid (by rw [← HR2.out, hT2, List.getElem?_eq_none (by omega)]; rfl)
              have hlI : (k : Int) = (s.length : Int) - 1 := by omega
              have hlB : ((k : Int) == (s.length : Int) - 1) = true := beq_iff_eq.2 hlI
              clear h42 h63 h91 h92 HT HPOS hgt hT2
              clear hlI
              go_wp2_with fail
              refine bodyPost_ret (v := .tuple #[.slice none 0 0, .int .i64 k, .int .i64 11]) (by simp [results, Tryd.results8, go_sem]) rfl ?_
              rw [HRN.out]
              exact ⟨_, rfl, OwnR.nil _ _ _ _ _, hb⟩
          · have e92 := byte_beq' ((S s)[k]'hks) 92 92 rfl h92
            obtain ⟨d1, d2, d3⟩ := HPOS.out (.byte ((S s)[k]'hks)) 1 (by rw [HT.out, if_neg h42, if_neg h63, if_neg h91, if_neg h92])
            have HD3 := Lib.hid d3
            clear d3 h42 h63 h91 h92 HT HPOS hgt
            go_wp2_with (at_builtin; go_must (refine app_tok rfl _ _ rfl w.heap.size (.slice a out.length c) out (.byte ((S s)[k]'hks)) _ (tok_zero _ _ _ rfl rfl rfl) rfl hown rfl hob hbase ?_); intro v3 w3 hown3 hb3 hg3)
            go_roundw
            case rel => exact ⟨k + 1, f, out ++ [.byte ((S s)[k]'hks)], by go_num, hown3, d2, by simp; omega, by omega, HD3, hb.trans hb3⟩
            case measure => simp [intOf]; omega
    · have HRN : Hid (R = some (out, 0, 0)) := Lib.hid (by rw [← HR.out, parseG, if_pos (by omega)])
      have hkI : ¬ (k : Int) < (s.length : Int) := by omega
      go_wp2_with fail
      refine bodyPost_ret (v := .tuple #[.slice a out.length c, .int .i64 0, .int .i64 0]) (by simp [results, Tryd.results8, go_sem]) rfl ?_
      rw [HRN.out]
      exact ⟨_, rfl, hown, hb⟩
end Go.Proofs.YtphfcebacilbbaaDoor
