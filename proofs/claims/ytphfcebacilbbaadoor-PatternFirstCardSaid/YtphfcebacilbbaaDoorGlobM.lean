/- The document's globs: Parse, walked. -/
import Derived.Test.YtphfcebacilbbaaDoorGlobK
namespace Go.Proofs.YtphfcebacilbbaaDoor
open Go.RowKit
attribute [local irreducible] wordP

/-- what the document's Parse tells: tokens of the call's own, a place, an error's number -/
def RPost (R : Option (List Tk × Nat × Nat)) (w : World) (e : Ending) (w' : World) : Prop := match R with
  | some (l, at', er) => ∃ v, e = .returned (.tuple #[v, .int .i64 at', .int .i64 er]) ∧ OwnU w' w.heap.size v l ∧ Below w.heap.size w w'
  | none => False
set_option maxRecDepth 100000 in
set_option maxHeartbeats 4000000 in
theorem RParse_any (s : List UInt8) (hs : s.length ≤ 1000) (w : World) :
    Calls Tryd.prog 16 #[.string (S s)] w fun e w' => RPost (parseG s (s.length + 1) 0 []) w e w' := by
  generalize hR : parseG s (s.length + 1) 0 [] = R
  have HR0 := Lib.hid hR
  clear hR
  have hsI : (s.length : Int) ≤ 1000 := by omega
  go_enter Tryd.func16, Tryd.ntmps16
  go_wp2_with fail
  have hx00 : Below w.heap.size w (w.alloc (.cells #[] 88)) := (Below.refl _ _).alloc (Nat.le_refl _) _
  have hown00 : OwnU (w.alloc (.cells #[] 88)) w.heap.size (.slice (some ⟨w.heap.size, 0, none⟩) 0 0) [] := World.ownsRow_lit w #[] 0 (Nat.le_refl _) (by decide) rfl
  go_loopw [5, 6] (fun v5 v6 wr => ∃ (k fuel : Nat) (out : List Tk), v6 = .int .i64 k ∧ OwnU wr w.heap.size v5 out ∧ k ≤ s.length ∧ out.length ≤ 1024 ∧ s.length + 1 ≤ fuel + k ∧ Hid (parseG s fuel k out = R) ∧ Below w.heap.size w wr) (fun _ v6 _ => s.length - (intOf v6).toNat)
  case atStart => exact ⟨0, s.length + 1, [], rfl, hown00, Nat.zero_le _, by simp, by omega, HR0, hx00⟩
  case round =>
    obtain ⟨k, fuel, out, rfl, hown, hk, hol, hfu, HR, hb⟩ := hrel
    obtain ⟨f, rfl⟩ : ∃ f, fuel = f + 1 := ⟨fuel - 1, by omega⟩
    obtain ⟨a, c, rfl⟩ := hown.shape
    have hsz := hb.size
    clear HR0
    by_cases hlt : k < s.length
    · have hkI : (k : Int) < (s.length : Int) := by omega
      have hks : k < (S s).size := by rw [S_size]; exact hlt
      have hgt : s[k]? = some ((S s)[k]'hks) := List.getElem?_eq_getElem hlt
      by_cases hfull : out.length = 1024
      · have HRN : Hid (R = some ([], k, 8)) := Lib.hid (by rw [← HR.out, parseG, if_neg (by omega), if_pos hfull])
        have hoI : (1024 : Int) ≤ (out.length : Int) := by omega
        go_wp2_with fail
        refine bodyPost_ret (v := .tuple #[.slice none 0 0, .int .i64 k, .int .i64 8]) (by simp [results, Tryd.results16, go_sem]) rfl ?_
        rw [HRN.out]
        exact ⟨_, rfl, OwnR.nil _ _ _ _ _, hb⟩
      · have HR2 : Hid ((match tokF s k with | none => some ([], k, 11) | some (t, n) => parseG s f (k + n) (out ++ [t])) = R) := Lib.hid (by rw [← HR.out]; symm; rw [parseG, if_neg (by omega), if_neg hfull]; cases tokF s k <;> rfl)
        have hoI : ¬ (out.length : Int) = 1024 := by omega
        have hoB : ¬ (1024 : Int) ≤ (out.length : Int) := by omega
        have hob : out.length ≤ 1000000000 := by omega
        have HT : Hid (tokF s k = if (S s)[k]'hks = 42 then some (.star, 1) else if (S s)[k]'hks = 63 then some (.any, 1) else if (S s)[k]'hks = 91 then (parseP s k true).map fun r => (.set r.1, r.2 - k) else if (S s)[k]'hks = 92 then s[k + 1]?.map fun b => (.byte b, 2) else some (.byte ((S s)[k]'hks), 1)) := Lib.hid (by unfold tokF; rw [hgt])
        have HPOS : Hid (∀ t n, tokF s k = some (t, n) → 1 ≤ n ∧ k + n ≤ s.length ∧ parseG s f (k + n) (out ++ [t]) = R) := Lib.hid (fun t n h => by
          have := tokF_pos h
          refine ⟨this.1, this.2, ?_⟩
          rw [← HR2.out, h])
        have hbase : w.heap.size ≤ wr.heap.size := hsz
        by_cases h42 : (S s)[k]'hks = 42
        · obtain ⟨d1, d2, d3⟩ := HPOS.out .star 1 (by rw [HT.out, if_pos h42])
          have HD3 := Lib.hid d3
          have hv : ((S s)[k]'hks).toNat = 42 := by rw [h42]; rfl
          have hvI : (((S s)[k]'hks).toNat : Int) = 42 := by omega
          clear d3 h42 HT HPOS hgt
          go_wp2_with (at_builtin; go_must (refine app_rtok rfl _ _ rfl w.heap.size (.slice a out.length c) out .star _ (rtok_any _ _ _ rfl rfl rfl) rfl hown rfl hob hbase ?_); intro v3 w3 hown3 hb3 hg3)
          go_roundw
          case rel => exact ⟨k + 1, f, out ++ [.star], by go_num, hown3, d2, by simp; omega, by omega, HD3, hb.trans hb3⟩
          case measure => simp [intOf]; omega
        · by_cases h63 : (S s)[k]'hks = 63
          · obtain ⟨d1, d2, d3⟩ := HPOS.out .any 1 (by rw [HT.out, if_neg h42, if_pos h63])
            have HD3 := Lib.hid d3
            have hv : ((S s)[k]'hks).toNat = 63 := by rw [h63]; rfl
            have hvI : (((S s)[k]'hks).toNat : Int) = 63 := by omega
            clear d3 h63 h42 HT HPOS hgt
            go_wp2_with (at_builtin; go_must (refine app_rtok rfl _ _ rfl w.heap.size (.slice a out.length c) out .any _ (rtok_any _ _ _ rfl rfl rfl) rfl hown rfl hob hbase ?_); intro v3 w3 hown3 hb3 hg3)
            go_roundw
            case rel => exact ⟨k + 1, f, out ++ [.any], by go_num, hown3, d2, by simp; omega, by omega, HD3, hb.trans hb3⟩
            case measure => simp [intOf]; omega
          by_cases h91 : (S s)[k]'hks = 91
          · have hv : ((S s)[k]'hks).toNat = 91 := by rw [h91]; rfl
            have hvI : (((S s)[k]'hks).toNat : Int) = 91 := by omega
            have hgk : s[k]? = some 91 := by rw [hgt, h91]
            have hT2 : tokF s k = (parseP s k true).map fun r => (.set r.1, r.2 - k) := by rw [HT.out, if_neg h42, if_neg h63, if_pos h91]
            have HPR := rparse_any s k true hs wr hgk
            cases hp : parseP s k true with
            | none =>
              rw [hp] at HPR
              have HP := Lib.hid (show Calls Tryd.prog 31 #[.string (S s), .int .i64 k, .bool true] wr (fun e w' => e = .returned (.agg #[.string (S []), .int .i64 0, .bool false]) ∧ Below wr.heap.size wr w') from HPR)
              have HRN : Hid (R = some ([], k, 11)) := Lib.hid (by rw [← HR2.out, hT2, hp]; rfl)
              clear h42 h63 h91 HT HPOS hgt hgk hT2 hp HPR
              go_wp2_with fail
              refine (HP.out).mono ?_
              rintro e w3 ⟨rfl, hb3⟩
              have hx3 := hb.trans (hb3.mono hsz)
              go_wp2_with fail
              refine bodyPost_ret (v := .tuple #[.slice none 0 0, .int .i64 k, .int .i64 11]) (by simp [results, Tryd.results16, go_sem]) rfl ?_
              rw [HRN.out]
              exact ⟨_, rfl, OwnR.nil _ _ _ _ _, by first | exact hx3 | exact hx3.alloc hx3.size _⟩
            | some pn =>
              obtain ⟨p, n⟩ := pn
              rw [hp] at HPR
              have HP := Lib.hid (show Calls Tryd.prog 31 #[.string (S s), .int .i64 k, .bool true] wr (fun e w' => e = .returned (.agg #[.string (S (bytesP p)), .int .i64 n, .bool true]) ∧ Below wr.heap.size wr w') from HPR)
              have hgt2 := parseP_gt hp
              obtain ⟨d1, d2, d3⟩ := HPOS.out (.set p) (n - k) (by rw [hT2, hp]; rfl)
              rw [show k + (n - k) = n by omega] at d2 d3
              have HD3 := Lib.hid d3
              clear d3 h42 h63 h91 HT HPOS hgt hgk hT2 hp HPR
              go_wp2_with fail
              refine (HP.out).mono ?_
              rintro e w4 ⟨rfl, hb4⟩
              have hx4 := hb.trans (hb4.mono hsz)
              have hown4 := (hown.below hb4 (Nat.le_refl _)).alloc (.cells #[.string (S (bytesP p)), .int .i64 n, .bool true] 90)
              have hx5 : Below w.heap.size w (w4.alloc (.cells #[.string (S (bytesP p)), .int .i64 n, .bool true] 90)) := hx4.alloc hx4.size _
              have b0 : (w4.alloc (.cells #[.string (S (bytesP p)), .int .i64 n, .bool true] 90)).cell? ⟨w4.heap.size, 0, none⟩ = some (.string (S (bytesP p))) := by simp
              have b1 : (w4.alloc (.cells #[.string (S (bytesP p)), .int .i64 n, .bool true] 90)).cell? ⟨w4.heap.size, 1, none⟩ = some (.int .i64 n) := by simp
              have b2 : (w4.alloc (.cells #[.string (S (bytesP p)), .int .i64 n, .bool true] 90)).cell? ⟨w4.heap.size, 2, none⟩ = some (.bool true) := by simp
              have hz4 : w4.heap.size < (w4.alloc (.cells #[.string (S (bytesP p)), .int .i64 n, .bool true] 90)).heap.size := by simp
              have hne4 : (Value.slice a out.length c).ownBlock ≠ some w4.heap.size := by
                intro e
                have h1 := (World.ownsRow.lt hown _ e).2
                have h2 := hb4.size
                omega
              go_upto_region 13 with fail
              generalize w4.alloc (.cells #[.string (S (bytesP p)), .int .i64 n, .bool true] 90) = w5 at *
              have hz9 : w.heap.size ≤ w4.heap.size := hx4.size
              go_wp2_with (at_builtin; go_must (refine app_rtok rfl _ _ rfl w.heap.size (.slice a out.length c) out (.set p) _ rfl rfl hown4 rfl hob hx5.size ?_); intro v3 w3 hown3 hb3 hg3; have b4 : w3.cell? ⟨w4.heap.size, 1, none⟩ = some (.int .i64 n) := (hg3.grown.cell b1 (fun e => hne4 e.symm)))
              go_roundw
              case rel => exact ⟨n, f, out ++ [.set p], by go_num, hown3, d2, by simp; omega, by omega, HD3, hx5.trans hb3⟩
              case measure => simp [intOf]; omega
          have e42 := byte_beq' ((S s)[k]'hks) 42 42 rfl h42
          have e63 := byte_beq' ((S s)[k]'hks) 63 63 rfl h63
          have e91 := byte_beq' ((S s)[k]'hks) 91 91 rfl h91
          by_cases h92 : (S s)[k]'hks = 92
          · have hv : ((S s)[k]'hks).toNat = 92 := by rw [h92]; rfl
            have hvI : (((S s)[k]'hks).toNat : Int) = 92 := by omega
            have hT2 : tokF s k = s[k + 1]?.map fun b => (.byte b, 2) := by rw [HT.out, if_neg h42, if_neg h63, if_neg h91, if_pos h92]
            clear e42 e63 e91
            by_cases hlast : k + 1 < s.length
            · have hks1 : k + 1 < (S s).size := by rw [S_size]; exact hlast
              have hg1 : s[k + 1]? = some ((S s)[k + 1]'hks1) := List.getElem?_eq_getElem hlast
              obtain ⟨d1, d2, d3⟩ := HPOS.out (.byte ((S s)[k + 1]'hks1)) 2 (by rw [hT2, hg1]; rfl)
              have HD3 := Lib.hid d3
              have hlI : ¬ (s.length : Int) ≤ (k : Int) + 1 := by omega
              have hl1 : (k : Int) + 1 < (s.length : Int) := by omega
              clear d3 h42 h63 h91 h92 HT HPOS hgt hT2 hg1
              go_wp2_with (at_builtin; go_must (refine app_rtok rfl _ _ rfl w.heap.size (.slice a out.length c) out (.byte ((S s)[k + 1]'hks1)) _ (rtok_any _ _ _ rfl rfl rfl) rfl hown rfl hob hbase ?_); intro v3 w3 hown3 hb3 hg3)
              go_roundw
              case rel => exact ⟨k + 2, f, out ++ [.byte ((S s)[k + 1]'hks1)], by go_num, hown3, d2, by simp; omega, by omega, HD3, hb.trans hb3⟩
              case measure => simp [intOf]; omega
            · have HRN : Hid (R = some ([], k, 11)) := Lib.hid (by rw [← HR2.out, hT2, List.getElem?_eq_none (by omega)]; rfl)
              have hlI : (s.length : Int) ≤ (k : Int) + 1 := by omega
              clear h42 h63 h91 h92 HT HPOS hgt hT2
              go_wp2_with fail
              refine bodyPost_ret (v := .tuple #[.slice none 0 0, .int .i64 k, .int .i64 11]) (by simp [results, Tryd.results16, go_sem]) rfl ?_
              rw [HRN.out]
              exact ⟨_, rfl, OwnR.nil _ _ _ _ _, hb⟩
          · have e92 := byte_beq' ((S s)[k]'hks) 92 92 rfl h92
            obtain ⟨d1, d2, d3⟩ := HPOS.out (.byte ((S s)[k]'hks)) 1 (by rw [HT.out, if_neg h42, if_neg h63, if_neg h91, if_neg h92])
            have HD3 := Lib.hid d3
            clear d3 h42 h63 h91 h92 HT HPOS hgt
            go_wp2_with (at_builtin; go_must (refine app_rtok rfl _ _ rfl w.heap.size (.slice a out.length c) out (.byte ((S s)[k]'hks)) _ (rtok_any _ _ _ rfl rfl rfl) rfl hown rfl hob hbase ?_); intro v3 w3 hown3 hb3 hg3)
            go_roundw
            case rel => exact ⟨k + 1, f, out ++ [.byte ((S s)[k]'hks)], by go_num, hown3, d2, by simp; omega, by omega, HD3, hb.trans hb3⟩
            case measure => simp [intOf]; omega
    · have HRN : Hid (R = some (out, 0, 0)) := Lib.hid (by rw [← HR.out, parseG, if_pos (by omega)])
      have hkI : ¬ (k : Int) < (s.length : Int) := by omega
      go_wp2_with fail
      refine bodyPost_ret (v := .tuple #[.slice a out.length c, .int .i64 0, .int .i64 0]) (by simp [results, Tryd.results16, go_sem]) rfl ?_
      rw [HRN.out]
      exact ⟨_, rfl, hown, hb⟩
end Go.Proofs.YtphfcebacilbbaaDoor
