/- The document's bracket: Parse. -/
import Derived.Test.YtphfcebacilbbaaDoorBrQ1
import Derived.Test.YtphfcebacilbbaaDoorBrQ2
namespace Go.Proofs.YtphfcebacilbbaaDoor
open Go.RowKit
attribute [local irreducible] wordP

set_option maxRecDepth 100000 in
set_option maxHeartbeats 4000000 in
theorem rparse_any (s : List UInt8) (k : Nat) (gl : Bool) (hs : s.length ≤ 1000) (w : World) (h : s[k]? = some 91) :
    Calls Tryd.prog 31 #[.string (S s), .int .i64 k, .bool gl] w fun e w' => e = .returned (gotV (parseP s k gl)) ∧ Below w.heap.size w w' := by
  obtain ⟨hk, hcc⟩ := List.getElem?_eq_some_iff.1 h
  have hkI : (k : Int) < (s.length : Int) := by omega
  have hk1 : k + 1 ≤ s.length := by omega
  have HBG := Lib.hid (fun sign x (j : Nat) c h1 h2 hx hj hc W => begins_is s sign j (by omega) hj h1 h2 c hc x hx W)
  have hT : turnB gl (s.drop (k + 1)) = (preB (s.drop (k + 1)) [94] || (gl && preB (s.drop (k + 1)) [33])) := rfl
  have hP : parseP s k gl = (itemsA gl s (s.length + 1) true (k + 1 + (if turnB gl (s.drop (k + 1)) = true then 1 else 0)) noneP).map fun r => (if turnB gl (s.drop (k + 1)) = true then notP r.1 else r.1, r.2 + 1) := rfl
  have hL : turnB gl (s.drop (k + 1)) = true → k + 2 ≤ s.length := by
    intro h
    rw [hT] at h
    rcases Bool.or_eq_true_iff.1 h with h | h
    · exact pre_len s [94] (k + 1) hk1 h
    · exact pre_len s [33] (k + 1) hk1 (Bool.and_eq_true_iff.1 h).2
  rw [hP]
  clear hP
  have HL := Lib.hid hL
  have HT := Lib.hid hT
  clear hL hT
  generalize turnB gl (s.drop (k + 1)) = tb at *
  have H1 := fun c hc => Lib.hid (HBG.out [94] ((k : Int) + 1) (k + 1) c (by decide) (by decide) (by omega) (by omega) hc)
  have H2 := fun c hc => Lib.hid (HBG.out [33] ((k : Int) + 1) (k + 1) c (by decide) (by decide) (by omega) (by omega) hc)
  have H1 := Lib.hid (H1 _ rfl).out
  have H2 := Lib.hid (H2 _ rfl).out
  generalize preB (s.drop (k + 1)) [94] = b1 at *
  generalize preB (s.drop (k + 1)) [33] = b2 at *
  generalize hR : itemsA gl s (s.length + 1) true (k + 1 + (if tb = true then 1 else 0)) noneP = R at *
  have HR0 := Lib.hid hR
  clear hR h hcc
  obtain ⟨V, hV⟩ : ∃ V : Value, V = gotV (R.map fun r => (if tb = true then notP r.1 else r.1, r.2 + 1)) := ⟨_, rfl⟩
  rw [← hV]
  have HV := Lib.hid hV
  clear hV
  go_enter Tryd.func31, Tryd.ntmps31
  go_upto_region 3 with fail
  have hG0 : GotAt (w.alloc (.cells #[.string ⟨#[]⟩, .int .i64 0, .bool false] 90)) w.heap.size := ⟨by simp, by simp, by simp, fun o => by simp, by simp⟩
  have hx0 : Below w.heap.size w (w.alloc (.cells #[.string ⟨#[]⟩, .int .i64 0, .bool false] 90)) := (Below.refl _ _).alloc (Nat.le_refl _) _
  generalize w.alloc (.cells #[.string ⟨#[]⟩, .int .i64 0, .bool false] 90) = W at *
  go_cut [29] (fun v wx => v = .bool tb ∧ wx = W)
  case first =>
    cases b1 with
    | true =>
      have h1 := HT.out
      rw [Bool.true_or] at h1
      subst h1
      go_wp2_with fail
      refine (H1.out _).mono ?_
      rintro e _ ⟨rfl, rfl⟩
      go_wp2_with fail
      go_meet
      exact ⟨rfl, rfl⟩
    | false =>
      have h1 := HT.out
      rw [Bool.false_or] at h1
      cases gl with
      | false =>
        rw [Bool.false_and] at h1
        subst h1
        go_wp2_with fail
        refine (H1.out _).mono ?_
        rintro e _ ⟨rfl, rfl⟩
        go_wp2_with fail
        go_meet
        exact ⟨rfl, rfl⟩
      | true =>
        rw [Bool.true_and] at h1
        subst h1
        go_wp2_with fail
        refine (H1.out _).mono ?_
        rintro e _ ⟨rfl, rfl⟩
        go_wp2_with fail
        refine (H2.out _).mono ?_
        rintro e _ ⟨rfl, rfl⟩
        go_wp2_with fail
        go_meet
        exact ⟨rfl, rfl⟩
  case rest =>
    obtain ⟨rfl, rfl⟩ := hcut
    have hk0 : k + 1 + (if tb = true then 1 else 0) ≤ s.length := by
      have := HL.out
      by_cases h : tb = true
      · rw [if_pos h]; exact this h
      · rw [if_neg h]; exact hk1
    clear H1 H2 HT HL
    go_upto_if 29 with fail
    go_cut [7, 8] (fun s7 s8 wx => s7 = .int .i64 ((k + 1 + (if tb = true then 1 else 0) : Nat) : Int) ∧ s8 = .bool tb ∧ wx = wc)
    case first =>
      cases tb
      all_goals
        go_wp2_with fail
        go_meet
        exact ⟨by go_num, rfl, rfl⟩
    case rest =>
    obtain ⟨rfl, rfl, rfl⟩ := hcut
    generalize k + 1 + (if tb = true then 1 else 0) = k0 at *
    go_wp2_with fail
    go_loopw [7, 10] (fun v7 v10 wr => ∃ (kk fuel : Nat) (p : Nat → Bool) (l : List UInt8), v7 = .int .i64 kk ∧ v10 = .string (S l) ∧ kk ≤ s.length ∧ k0 ≤ kk ∧ l.length ≤ 256 * kk ∧ (∀ n, n < 256 → ofP l n = p n) ∧ s.length + 1 ≤ fuel + kk ∧ itemsA gl s fuel (decide (kk = k0)) kk p = R ∧ GotAt wr w.heap.size ∧ Below w.heap.size w wr) (fun v7 _ _ => s.length - (intOf v7).toNat)
    case atStart => exact ⟨k0, s.length + 1, noneP, [], rfl, rfl, hk0, Nat.le_refl _, by simp, fun n _ => rfl, by omega, by rw [decide_eq_true rfl]; exact HR0.out, hG0, hx0⟩
    case round =>
      obtain ⟨kk, fuel, p, l, rfl, rfl, hkk, hk0k, hll, hlp, hfu, hR, hG, hb⟩ := hrel
      obtain ⟨f, rfl⟩ : ∃ f, fuel = f + 1 := ⟨fuel - 1, by omega⟩
      have hGs := hG
      obtain ⟨g0, g1, g2, gf, glt⟩ := hGs
      have gf0 := gf 0
      have gf1 := gf 1
      have gf2 := gf 2
      clear gf
      by_cases hlt : kk < s.length
      · have hgt : s[kk]? = some s[kk] := List.getElem?_eq_getElem hlt
        have hks2 : kk < (S s).size := by rw [S_size]; exact hlt
        have hge : ¬ s.length ≤ kk := by omega
        have hI : ¬ (s.length : Int) ≤ (kk : Int) := by omega
        by_cases h93 : (s[kk] == 93 && !(decide (kk = k0))) = true
        · obtain ⟨h1, h2⟩ := Bool.and_eq_true_iff.1 h93
          have hne : kk ≠ k0 := by simpa using h2
          have hv : ((S s)[kk]'hks2).toNat = 93 := by
            have h3 : ((S s)[kk]'hks2) = 93 := beq_iff_eq.1 h1
            rw [h3]; rfl
          have hvI : (((S s)[kk]'hks2).toNat : Int) = 93 := by omega
          have hgtI : (k0 : Int) < (kk : Int) := by omega
          have hR2 : R = some (p, kk) := by
            rw [← hR, itemsA, hgt]
            exact if_pos h93
          have HR2 := Lib.hid hR2
          have HE := Lib.hid (bytesP_ext _ _ hlp)
          have hgn := Lib.hid (g_not l)
          have HEn := Lib.hid (bytesP_ext (notP (ofP l)) (notP p) (fun n hn => by unfold notP; rw [hlp n hn]))
          have hlb : (S l).size ≤ 1000000 := by rw [S_size]; omega
          have HS := Lib.hid (fun W => sorted_any (S l) W hlb)
          have HB := Lib.hid (fun W => between_any 0 255 W (by decide) (by decide) (by decide) (by decide))
          have HW := Lib.hid (fun W => without_any (S (bytesP (rangeP 0 255))) (S l) W (by rw [S_size]; have := bl (rangeP 0 255); omega) hlb)
          clear hR hR2 h93 h1 hgt HR0 hlp
          cases tb with
          | false =>
            go_wp2_with fail
            refine (HS.out _).mono ?_
            rintro e w3 ⟨rfl, hb3⟩
            have hG3 := hG.below hb3 glt
            have hb5 := hb.trans (hb3.mono (by have := hb.size; omega))
            clear g0 g1 g2 gf0 gf1 gf2 hG
            have hGs := hG3
            obtain ⟨g0, g1, g2, gf, glt3⟩ := hGs
            have gf0 := gf 0
            have gf1 := gf 1
            have gf2 := gf 2
            clear gf
            go_wp2_with fail
            refine got_ret hG3 rfl rfl ?_
            rw [HV.out, HR2.out]
            refine ⟨by rw [HE.out]; rfl, ?_⟩
            repeat (refine Below.setCell ?_ (by simp) _)
            exact hb5
          | true =>
            go_wp2_with fail
            refine (HB.out _).mono ?_
            rintro e w3 ⟨rfl, hb3⟩
            have hG3 := hG.below hb3 glt
            have hb4 := hb.trans (hb3.mono (by have := hb.size; omega))
            have glt3 := hG3.2.2.2.2
            clear g0 g1 g2 gf0 gf1 gf2 hG
            go_wp2_with fail
            refine (HW.out _).mono ?_
            rintro e w4 ⟨rfl, hb5x⟩
            have hG4 := hG3.below hb5x glt3
            have hb5 := hb4.trans (hb5x.mono (by have := hb4.size; omega))
            have hGs := hG4
            obtain ⟨g0, g1, g2, gf, glt4⟩ := hGs
            have gf0 := gf 0
            have gf1 := gf 1
            have gf2 := gf 2
            clear gf hG3
            go_wp2_with fail
            refine got_ret hG4 rfl rfl ?_
            rw [HV.out, HR2.out]
            refine ⟨by rw [← beq_iff_eq.1 hgn.out, HEn.out]; rfl, ?_⟩
            repeat (refine Below.setCell ?_ (by simp) _)
            exact hb5
        · have hR2 : (match itemF gl (s.drop kk) with
              | none => none
              | some (r, n) => itemsA gl s f false (kk + n) (orP p r)) = R := by
            rw [← hR]
            conv => rhs; rw [itemsA]
            rw [hgt]
            exact (if_neg h93).symm
          have HR2 := Lib.hid hR2
          have HD : Hid (∀ c n, itemF gl (s.drop kk) = some (c, n) → kk + n ≤ s.length → 1 ≤ n ∧ kk + n ≤ s.length ∧ k0 ≤ kk + n ∧ (l ++ bytesP c).length ≤ 256 * (kk + n) ∧ (∀ j, j < 256 → ofP (l ++ bytesP c) j = orP p c j) ∧ s.length + 1 ≤ f + (kk + n) ∧ itemsA gl s f (decide (kk + n = k0)) (kk + n) (orP p c) = R) := by
            refine Lib.hid ?_
            intro c n hi hn
            have hp := itemF_pos hi
            refine ⟨hp, hn, by omega, ?_, ?_, by omega, ?_⟩
            · rw [List.length_append]
              have := bl c
              omega
            · intro j hj
              rw [← g_or]
              show (ofP l j || ofP (bytesP c) j) = (p j || c j)
              rw [hlp j hj, ofP_bytes c j hj]
            · rw [← HR2.out, hi]
              show _ = itemsA gl s f false (kk + n) (orP p c)
              rw [decide_eq_false (by omega)]
          have hcl : ((((S s)[kk]'hks2).toNat : Int) == 93 && decide ((k0 : Int) < (kk : Int))) = false := by
            rw [Bool.and_eq_false_iff]
            by_cases h1 : s[kk] = 93
            · right
              have : kk = k0 := by
                rcases Nat.decEq kk k0 with h | h
                · exact absurd (by rw [h1]; simp [h]) h93
                · exact h
              exact decide_eq_false (by omega)
            · left
              exact byte_beq' _ 93 93 rfl h1
          clear hR hR2 HR0 h93 hgt hlp
          have hT10 : (((((S s)[kk]'hks2).toNat : Int) == 93) = false) ∨ (((((S s)[kk]'hks2).toNat : Int) == 93) = true ∧ ((S s)[kk]'hks2).toNat = 93 ∧ ¬ (k0 : Int) < (kk : Int)) := by
            cases hh : (((S s)[kk]'hks2).toNat : Int) == 93
            · exact Or.inl rfl
            · rw [hh, Bool.true_and] at hcl
              exact Or.inr ⟨rfl, by have := beq_iff_eq.1 hh; omega, of_decide_eq_false hcl⟩
          clear hcl
          have HBR : Hid (∀ w1, Below wr.heap.size wr w1 → ∀ x y z, Below w.heap.size w (((w1.setCell ⟨w.heap.size, 0, none⟩ x).setCell ⟨w.heap.size, 1, none⟩ y).setCell ⟨w.heap.size, 2, none⟩ z)) := Lib.hid (fun w1 h1 x y z => (((hb.trans (h1.mono (by have := hb.size; omega))).setCell (Nat.le_refl _) _).setCell (Nat.le_refl _) _).setCell (Nat.le_refl _) _)
          have hQN : R = none → ∀ (a : Act) (w1 : World), a.tmps.getD 6 undef = .pointer (some ⟨w.heap.size, 0, none⟩) → a.defers = [] → GotAt w1 w.heap.size → Below wr.heap.size wr w1 → bodyPost Tryd.prog Tryd.f31 (fun e w' => e = .returned V ∧ Below w.heap.size w w') .ret a (((w1.setCell ⟨w.heap.size, 0, none⟩ (.string ⟨#[]⟩)).setCell ⟨w.heap.size, 1, none⟩ (.int .i64 0)).setCell ⟨w.heap.size, 2, none⟩ (.bool false)) := fun hn a w1 h6 hd hG1 hb1 => got_ret hG1 h6 hd ⟨by rw [HV.out, hn]; rfl, HBR.out w1 hb1 _ _ _⟩
          have hob : ∀ (k : Nat) (W : World), k ≤ s.length → Calls Tryd.prog 49 #[.string (S s), .int .i64 k, .bool gl] W fun e w' => OneQ k (byteF gl (s.drop k)) W e w' := fun k W h => one_any s k gl h (by omega) W
          have HOB := Lib.hid hob
          clear hob
          cases hq1 : preB (s.drop kk) [91, 58] with
          | true =>
            have hl2 := pre_len s [91, 58] kk hkk hq1
            replace hl2 : kk + 2 ≤ s.length := hl2
            have hIt : itemF gl (s.drop kk) = (namedF (s.drop (kk + 2))).map fun r => (r.1, r.2 + 2) := by unfold itemF; rw [if_pos hq1, List.drop_drop]
            have hql : (s.drop (kk + 2)).length = s.length - (kk + 2) := List.length_drop
            rcases named_first (s.drop (kk + 2)) with ⟨hn, hno⟩ | ⟨i, hi2, hyes, hno, hn⟩
            · have hRN : R = none := by rw [← HR2.out, hIt, hn]; rfl
              rw [hql] at hno
              have HNO : Hid (∀ x, kk + 2 ≤ x → x ≤ s.length → preB (s.drop x) [58, 93] = false) := Lib.hid (fun x h1 h2 => by have := hno (x - (kk + 2)) (by omega); rw [List.drop_drop, show kk + 2 + (x - (kk + 2)) = x by omega] at this; exact this)
              exact rp_named_none s gl kk k0 l w.heap.size wr _ _ _ _ _ _ _ _ _ _ _ _ _ _ _ _ _ _ _ _ _ _ _ _ _ _ _ _ _ _ _ _ _ _ _ _ _ _ _ _ _ _ _ _ _ _ _ _ _ _ _ _ _ _ _ _ _ _ _ _ _ _ _ _ _ _ _ _ _ _ _ _ _ _ _ _ _ _ _ _ _ _ _ _ _ _ _ _ _ _ _ _ _ _ _ _ _ _ _ _ _ _ _ _ _ _ _ _ _ _ _ _ _ _ _ _ _ _ _ _ _ _ _ _ _ _ _ _ _ _ _ _ _ _ _ _ _ _ _ _ _ _ _ _ _ _ _ _ _ _ _ _ _ _ _ _ _ _ _ _ hs (by omega) hlt hks2 hT10 hG hl2 hq1 HNO (hQN hRN)
            · have HNO : Hid (∀ x, kk + 2 ≤ x → x < kk + 2 + i → preB (s.drop x) [58, 93] = false) := Lib.hid (fun x h1 h2 => by have := hno (x - (kk + 2)) (by omega); rw [List.drop_drop, show kk + 2 + (x - (kk + 2)) = x by omega] at this; exact this)
              rw [List.drop_drop] at hyes
              rw [hql] at hi2
              have HYES := Lib.hid hyes
              have hnm := rnamed_any (S ((s.drop (kk + 2)).take i))
              rw [S_toList] at hnm
              have he : (S s).extract (kk + 2) (kk + 2 + i) = S ((s.drop (kk + 2)).take i) := by rw [S_extract, show kk + 2 + i - (kk + 2) = i by omega]
              have hIt2 : itemF gl (s.drop kk) = if (namedP ((s.drop (kk + 2)).take i)).2 = true then some ((namedP ((s.drop (kk + 2)).take i)).1, i + 2 + 2) else none := by rw [hIt, hn]; split <;> rfl
              generalize (s.drop (kk + 2)).take i = nm at *
              cases hok : (namedP nm).2 with
              | false =>
                have hRN : R = none := by rw [← HR2.out, hIt2, hok]; rfl
                rw [hok] at hnm
                exact rp_named_bad s gl kk k0 l w.heap.size wr _ _ _ _ _ _ _ _ _ _ _ _ _ _ _ _ _ _ _ _ _ _ _ _ _ _ _ _ _ _ _ _ _ _ _ _ _ _ _ _ _ _ _ _ _ _ _ _ _ _ _ _ _ _ _ _ _ _ _ _ _ _ _ _ _ _ _ _ _ _ _ _ _ _ _ _ _ _ _ _ _ _ _ _ _ _ _ _ _ _ _ _ _ _ _ _ _ _ _ _ _ _ _ _ _ _ _ _ _ _ _ _ _ _ _ _ _ _ _ _ _ _ _ _ _ _ _ _ _ _ _ _ _ _ _ _ _ _ _ _ _ _ _ _ _ _ _ _ _ _ _ _ _ _ _ _ _ _ _ _ hs (by omega) hlt hks2 hT10 hG i nm (namedP nm).1 (by omega) hq1 HNO HYES he (Lib.hid hnm) (hQN hRN)
              | true =>
                rw [hok] at hnm
                obtain ⟨d1, d2, d3, d4, d5, d6, d7⟩ := HD.out (namedP nm).1 (i + 2 + 2) (by rw [hIt2, hok]; rfl) (by omega)
                refine rp_named_ok s gl kk k0 l w.heap.size wr _ _ _ _ _ _ _ _ _ _ _ _ _ _ _ _ _ _ _ _ _ _ _ _ _ _ _ _ _ _ _ _ _ _ _ _ _ _ _ _ _ _ _ _ _ _ _ _ _ _ _ _ _ _ _ _ _ _ _ _ _ _ _ _ _ _ _ _ _ _ _ _ _ _ _ _ _ _ _ _ _ _ _ _ _ _ _ _ _ _ _ _ _ _ _ _ _ _ _ _ _ _ _ _ _ _ _ _ _ _ _ _ _ _ _ _ _ _ _ _ _ _ _ _ _ _ _ _ _ _ _ _ _ _ _ _ _ _ _ _ _ _ _ _ _ _ _ _ _ _ _ _ _ _ _ _ _ _ _ _ hs (by omega) hlt hks2 hT10 hG i nm (namedP nm).1 (by omega) hq1 HNO HYES he (Lib.hid hnm) (fun _ _ _ _ _ _ _ _ _ _ _ _ _ _ _ _ _ _ _ _ _ _ _ _ _ _ _ _ _ _ _ _ _ _ _ _ _ _ _ _ _ _ _ _ _ _ _ _ _ _ _ _ _ _ _ _ _ _ _ _ _ _ _ _ _ _ _ _ _ _ _ _ _ _ _ _ _ _ _ _ _ _ _ _ _ _ _ _ _ _ _ _ _ _ _ _ _ _ _ _ _ _ _ _ _ _ _ _ _ _ _ _ _ _ _ _ _ _ _ _ _ _ _ _ _ _ _ _ w1 hb1 hG1 => ?_)
                go_roundw
                case rel => exact ⟨_, _, _, _, _, _, _, _, _, _, _, _, _, _, _, _, _, _, _, _, _, _, _, _, _, _, _, _, _, _, _, _, _, _, _, _, _, _, _, _, _, _, _, _, _, _, _, _, _, _, _, _, _, _, _, _, _, _, _, _, _, _, _, _, _, _, _, _, _, _, _, _, _, _, _, _, _, _, _, _, _, _, _, _, _, _, _, _, _, _, _, _, _, _, _, _, _, _, _, _, _, _, _, _, _, _, _, _, _, _, _, _, _, _, _, _, _, _, _, _, _, _, _, _, _, _, _, _, _, _, ⟨kk + (i + 2 + 2), f, orP p ((namedP nm).1), l ++ bytesP (namedP nm).1, rfl, rfl, d2, d3, d4, d5, d6, d7, hG1, hb.trans (hb1.mono (by have := hb.size; omega))⟩, rfl⟩
                case measure => simp [intOf]; omega
          | false =>
            have hn1 : ¬ preB (s.drop kk) [91, 58] = true := by rw [hq1]; decide
            cases hq2 : preB (s.drop kk) [91, 61] with
            | true =>
              have hl2 := pre_len s [91, 61] kk hkk hq2
              replace hl2 : kk + 2 ≤ s.length := hl2
              have hIt : itemF gl (s.drop kk) = (closedF (s.drop (kk + 2)) [61, 93]).map fun b => (rangeP b.toNat b.toNat, 5) := by unfold itemF; rw [if_neg hn1, if_pos hq2, List.drop_drop]
              cases hc : closedF (s.drop (kk + 2)) [61, 93] with
              | none =>
                have hRN : R = none := by rw [← HR2.out, hIt, hc]; rfl
                have hno := closed_pre_no _ hc
                rw [List.drop_drop] at hno
                exact rp_equal_none s gl kk k0 l w.heap.size wr _ _ _ _ _ _ _ _ _ _ _ _ _ _ _ _ _ _ _ _ _ _ _ _ _ _ _ _ _ _ _ _ _ _ _ _ _ _ _ _ _ _ _ _ _ _ _ _ _ _ _ _ _ _ _ _ _ _ _ _ _ _ _ _ _ _ _ _ _ _ _ _ _ _ _ _ _ _ _ _ _ _ _ _ _ _ _ _ _ _ _ _ _ _ _ _ _ _ _ _ _ _ _ _ _ _ _ _ _ _ _ _ _ _ _ _ _ _ _ _ _ _ _ _ _ _ _ _ _ _ _ _ _ _ _ _ _ _ _ _ _ _ _ _ _ _ _ _ _ _ _ _ _ _ _ _ _ _ _ _ hs (by omega) hlt hks2 hT10 hG hq1 hq2 hno (hQN hRN)
              | some b =>
                obtain ⟨hyes, h3, hb0⟩ := closed_pre _ _ hc
                rw [List.drop_drop] at hyes
                rw [List.length_drop] at h3
                rw [List.getElem?_drop, Nat.add_zero] at hb0
                obtain ⟨d1, d2, d3, d4, d5, d6, d7⟩ := HD.out (rangeP b.toNat b.toNat) 5 (by rw [hIt, hc]; rfl) (by omega)
                rw [bytes_one] at d4 d5
                have hsz2 : kk + 2 < (S s).size := by rw [S_size]; omega
                have he : (S s).extract (kk + 2) (kk + 3) = S [b] := by
                  rw [show kk + 3 = kk + 2 + 1 by omega, ext_one (S s) (kk + 2) hsz2]
                  have : (S s)[kk + 2]'hsz2 = b := (List.getElem?_eq_some_iff.1 hb0).2
                  rw [this]
                refine rp_equal_ok s gl kk k0 l w.heap.size wr _ _ _ _ _ _ _ _ _ _ _ _ _ _ _ _ _ _ _ _ _ _ _ _ _ _ _ _ _ _ _ _ _ _ _ _ _ _ _ _ _ _ _ _ _ _ _ _ _ _ _ _ _ _ _ _ _ _ _ _ _ _ _ _ _ _ _ _ _ _ _ _ _ _ _ _ _ _ _ _ _ _ _ _ _ _ _ _ _ _ _ _ _ _ _ _ _ _ _ _ _ _ _ _ _ _ _ _ _ _ _ _ _ _ _ _ _ _ _ _ _ _ _ _ _ _ _ _ _ _ _ _ _ _ _ _ _ _ _ _ _ _ _ _ _ _ _ _ _ _ _ _ _ _ _ _ _ _ _ _ hs (by omega) hlt hks2 hT10 hG b (by omega) hq1 hq2 hyes he (fun _ _ _ _ _ _ _ _ _ _ _ _ _ _ _ _ _ _ _ _ _ _ _ _ _ _ _ _ _ _ _ _ _ _ _ _ _ _ _ _ _ _ _ _ _ _ _ _ _ _ _ _ _ _ _ _ _ _ _ _ _ _ _ _ _ _ _ _ _ _ _ _ _ _ _ _ _ _ _ _ _ _ _ _ _ _ _ _ _ _ _ _ _ _ _ _ _ _ _ _ _ _ _ _ _ _ _ _ _ _ _ _ _ _ _ _ _ _ _ _ _ _ _ _ _ _ _ _ w1 hb1 hG1 => ?_)
                go_roundw
                case rel => exact ⟨_, _, _, _, _, _, _, _, _, _, _, _, _, _, _, _, _, _, _, _, _, _, _, _, _, _, _, _, _, _, _, _, _, _, _, _, _, _, _, _, _, _, _, _, _, _, _, _, _, _, _, _, _, _, _, _, _, _, _, _, _, _, _, _, _, _, _, _, _, _, _, _, _, _, _, _, _, _, _, _, _, _, _, _, _, _, _, _, _, _, _, _, _, _, _, _, _, _, _, _, _, _, _, _, _, _, _, _, _, _, _, _, _, _, _, _, _, _, _, _, _, _, _, _, _, _, _, _, _, _, ⟨kk + 5, f, orP p (rangeP b.toNat b.toNat), l ++ [b], rfl, rfl, d2, d3, d4, d5, d6, d7, hG1, hb.trans (hb1.mono (by have := hb.size; omega))⟩, rfl⟩
                case measure => simp [intOf]; omega
            | false =>
              have hn2 : ¬ preB (s.drop kk) [91, 61] = true := by rw [hq2]; decide
              have h1a := fun W => HOB.out kk W hkk
              cases hb1 : byteF gl (s.drop kk) with
              | none =>
                have hIt : itemF gl (s.drop kk) = none := by unfold itemF; rw [if_neg hn1, if_neg hn2, hb1]
                have hRN : R = none := by rw [← HR2.out, hIt]
                rw [hb1] at h1a
                exact rp_none s gl kk k0 l w.heap.size wr _ _ _ _ _ _ _ _ _ _ _ _ _ _ _ _ _ _ _ _ _ _ _ _ _ _ _ _ _ _ _ _ _ _ _ _ _ _ _ _ _ _ _ _ _ _ _ _ _ _ _ _ _ _ _ _ _ _ _ _ _ _ _ _ _ _ _ _ _ _ _ _ _ _ _ _ _ _ _ _ _ _ _ _ _ _ _ _ _ _ _ _ _ _ _ _ _ _ _ _ _ _ _ _ _ _ _ _ _ _ _ _ _ _ _ _ _ _ _ _ _ _ _ _ _ _ _ _ _ _ _ _ _ _ _ _ _ _ _ _ _ _ _ _ _ _ _ _ _ _ _ _ _ _ _ _ _ _ _ _ hs (by omega) hlt hks2 hT10 hG hq1 hq2 (Lib.hid h1a) (hQN hRN)
              | some an =>
                obtain ⟨a, n⟩ := an
                have hle := byteF_le hb1
                rw [List.length_drop] at hle
                have hkn : kk + n ≤ s.length := by omega
                rw [hb1] at h1a
                have H1 := Lib.hid (fun W => (h1a W).mono (fun e w' h => (⟨h.2, h.1⟩ : e = .returned (.tuple #[.int .i64 a.toNat, .int .i64 ((kk + n : Nat) : Int)]) ∧ w' = W)))
                have hIt : itemF gl (s.drop kk) = (if (preB (s.drop (kk + n)) [45] && !preB (s.drop (kk + n)) [45, 93]) = true then
                    if (preB (s.drop (kk + n + 1)) [91, 58] || preB (s.drop (kk + n + 1)) [91, 61]) = true then none
                    else match byteF gl (s.drop (kk + n + 1)) with
                    | none => none
                    | some (b, m) => if b < a then none else some (rangeP a.toNat b.toNat, n + 1 + m)
                  else some (rangeP a.toNat a.toNat, n)) := by
                  unfold itemF
                  rw [if_neg hn1, if_neg hn2, hb1]
                  show (if (preB ((s.drop kk).drop n) [45] && !preB ((s.drop kk).drop n) [45, 93]) = true then
                    if (preB ((s.drop kk).drop (n + 1)) [91, 58] || preB ((s.drop kk).drop (n + 1)) [91, 61]) = true then none
                    else match byteF gl ((s.drop kk).drop (n + 1)) with
                    | none => none
                    | some (b, m) => if b < a then none else some (rangeP a.toNat b.toNat, n + 1 + m)
                    else some (rangeP a.toNat a.toNat, n)) = _
                  rw [List.drop_drop, List.drop_drop, ← Nat.add_assoc]
                have HBT := fun (a b : UInt8) W => bt_any a.toNat b.toNat W ⟨⟨by omega, by have := a.toNat_lt; omega⟩, ⟨by omega, by have := b.toNat_lt; omega⟩⟩
                cases hd : preB (s.drop (kk + n)) [45] && !preB (s.drop (kk + n)) [45, 93] with
                | false =>
                  rw [hd, if_neg (by decide)] at hIt
                  have hd2 : preB (s.drop (kk + n)) [45] = false ∨ (preB (s.drop (kk + n)) [45] = true ∧ preB (s.drop (kk + n)) [45, 93] = true) := by
                    cases h5 : preB (s.drop (kk + n)) [45]
                    · exact Or.inl rfl
                    · rw [h5, Bool.true_and] at hd
                      exact Or.inr ⟨rfl, by simpa using hd⟩
                  obtain ⟨d1, d2, d3, d4, d5, d6, d7⟩ := HD.out (rangeP a.toNat a.toNat) n hIt hkn
                  refine rp_byte s gl kk k0 l w.heap.size wr _ _ _ _ _ _ _ _ _ _ _ _ _ _ _ _ _ _ _ _ _ _ _ _ _ _ _ _ _ _ _ _ _ _ _ _ _ _ _ _ _ _ _ _ _ _ _ _ _ _ _ _ _ _ _ _ _ _ _ _ _ _ _ _ _ _ _ _ _ _ _ _ _ _ _ _ _ _ _ _ _ _ _ _ _ _ _ _ _ _ _ _ _ _ _ _ _ _ _ _ _ _ _ _ _ _ _ _ _ _ _ _ _ _ _ _ _ _ _ _ _ _ _ _ _ _ _ _ _ _ _ _ _ _ _ _ _ _ _ _ _ _ _ _ _ _ _ _ _ _ _ _ _ _ _ _ _ _ _ _ hs (by omega) hlt hks2 hT10 hG hq1 hq2 a n hkn H1 (bytesP (rangeP a.toNat a.toNat)) (bl _) hd2 (Lib.hid (HBT a a)) (fun _ _ _ _ _ _ _ _ _ _ _ _ _ _ _ _ _ _ _ _ _ _ _ _ _ _ _ _ _ _ _ _ _ _ _ _ _ _ _ _ _ _ _ _ _ _ _ _ _ _ _ _ _ _ _ _ _ _ _ _ _ _ _ _ _ _ _ _ _ _ _ _ _ _ _ _ _ _ _ _ _ _ _ _ _ _ _ _ _ _ _ _ _ _ _ _ _ _ _ _ _ _ _ _ _ _ _ _ _ _ _ _ _ _ _ _ _ _ _ _ _ _ _ _ _ _ _ _ w1 hb1 hG1 => ?_)
                  go_roundw
                  case rel => exact ⟨_, _, _, _, _, _, _, _, _, _, _, _, _, _, _, _, _, _, _, _, _, _, _, _, _, _, _, _, _, _, _, _, _, _, _, _, _, _, _, _, _, _, _, _, _, _, _, _, _, _, _, _, _, _, _, _, _, _, _, _, _, _, _, _, _, _, _, _, _, _, _, _, _, _, _, _, _, _, _, _, _, _, _, _, _, _, _, _, _, _, _, _, _, _, _, _, _, _, _, _, _, _, _, _, _, _, _, _, _, _, _, _, _, _, _, _, _, _, _, _, _, _, _, _, _, _, _, _, _, _, ⟨kk + n, f, orP p (rangeP a.toNat a.toNat), l ++ bytesP (rangeP a.toNat a.toNat), rfl, rfl, d2, d3, d4, d5, d6, d7, hG1, hb.trans (hb1.mono (by have := hb.size; omega))⟩, rfl⟩
                  case measure => simp [intOf]; omega
                | true =>
                  rw [hd, if_pos rfl] at hIt
                  obtain ⟨h45, h45b⟩ := Bool.and_eq_true_iff.1 hd
                  have h45c : preB (s.drop (kk + n)) [45, 93] = false := by simpa using h45b
                  have hkn1 := pre_len s [45] (kk + n) hkn h45
                  replace hkn1 : kk + n + 1 ≤ s.length := hkn1
                  cases he : preB (s.drop (kk + n + 1)) [91, 58] || preB (s.drop (kk + n + 1)) [91, 61] with
                  | true =>
                    rw [he, if_pos rfl] at hIt
                    have hRN : R = none := by rw [← HR2.out, hIt]
                    have he2 : preB (s.drop (kk + n + 1)) [91, 58] = true ∨ (preB (s.drop (kk + n + 1)) [91, 58] = false ∧ preB (s.drop (kk + n + 1)) [91, 61] = true) := by
                      cases h5 : preB (s.drop (kk + n + 1)) [91, 58]
                      · rw [h5, Bool.false_or] at he
                        exact Or.inr ⟨rfl, he⟩
                      · exact Or.inl rfl
                    exact rp_bad s gl kk k0 l w.heap.size wr _ _ _ _ _ _ _ _ _ _ _ _ _ _ _ _ _ _ _ _ _ _ _ _ _ _ _ _ _ _ _ _ _ _ _ _ _ _ _ _ _ _ _ _ _ _ _ _ _ _ _ _ _ _ _ _ _ _ _ _ _ _ _ _ _ _ _ _ _ _ _ _ _ _ _ _ _ _ _ _ _ _ _ _ _ _ _ _ _ _ _ _ _ _ _ _ _ _ _ _ _ _ _ _ _ _ _ _ _ _ _ _ _ _ _ _ _ _ _ _ _ _ _ _ _ _ _ _ _ _ _ _ _ _ _ _ _ _ _ _ _ _ _ _ _ _ _ _ _ _ _ _ _ _ _ _ _ _ _ _ hs (by omega) hlt hks2 hT10 hG hq1 hq2 a n hkn H1 h45 h45c he2 (hQN hRN)
                  | false =>
                    rw [he, if_neg (by decide)] at hIt
                    obtain ⟨h5, h6⟩ := Bool.or_eq_false_iff.1 he
                    have h2a := fun W => HOB.out (kk + n + 1) W hkn1
                    cases hb2 : byteF gl (s.drop (kk + n + 1)) with
                    | none =>
                      rw [hb2] at hIt h2a
                      have hRN : R = none := by rw [← HR2.out, hIt]
                      exact rp_lessn s gl kk k0 l w.heap.size wr _ _ _ _ _ _ _ _ _ _ _ _ _ _ _ _ _ _ _ _ _ _ _ _ _ _ _ _ _ _ _ _ _ _ _ _ _ _ _ _ _ _ _ _ _ _ _ _ _ _ _ _ _ _ _ _ _ _ _ _ _ _ _ _ _ _ _ _ _ _ _ _ _ _ _ _ _ _ _ _ _ _ _ _ _ _ _ _ _ _ _ _ _ _ _ _ _ _ _ _ _ _ _ _ _ _ _ _ _ _ _ _ _ _ _ _ _ _ _ _ _ _ _ _ _ _ _ _ _ _ _ _ _ _ _ _ _ _ _ _ _ _ _ _ _ _ _ _ _ _ _ _ _ _ _ _ _ _ _ _ hs (by omega) hlt hks2 hT10 hG hq1 hq2 a n hkn H1 h45 h45c h5 h6 (Lib.hid h2a) (hQN hRN)
                    | some bm =>
                      obtain ⟨b, m⟩ := bm
                      rw [hb2] at hIt h2a
                      have hle2 := byteF_le hb2
                      rw [List.length_drop] at hle2
                      have H2 := Lib.hid (fun W => (h2a W).mono (fun e w' h => (⟨h.2, h.1⟩ : e = .returned (.tuple #[.int .i64 b.toNat, .int .i64 ((kk + n + 1 + m : Nat) : Int)]) ∧ w' = W)))
                      by_cases h7 : b < a
                      · have hIt : itemF gl (s.drop kk) = none := hIt.trans (if_pos h7)
                        have hRN : R = none := by rw [← HR2.out, hIt]
                        have hv : (b.toNat : Int) < a.toNat := by have := UInt8.lt_iff_toNat_lt.1 h7; omega
                        exact rp_less s gl kk k0 l w.heap.size wr _ _ _ _ _ _ _ _ _ _ _ _ _ _ _ _ _ _ _ _ _ _ _ _ _ _ _ _ _ _ _ _ _ _ _ _ _ _ _ _ _ _ _ _ _ _ _ _ _ _ _ _ _ _ _ _ _ _ _ _ _ _ _ _ _ _ _ _ _ _ _ _ _ _ _ _ _ _ _ _ _ _ _ _ _ _ _ _ _ _ _ _ _ _ _ _ _ _ _ _ _ _ _ _ _ _ _ _ _ _ _ _ _ _ _ _ _ _ _ _ _ _ _ _ _ _ _ _ _ _ _ _ _ _ _ _ _ _ _ _ _ _ _ _ _ _ _ _ _ _ _ _ _ _ _ _ _ _ _ _ hs (by omega) hlt hks2 hT10 hG hq1 hq2 a n hkn H1 h45 h45c h5 h6 _ hv _ H2 (hQN hRN)
                      · have hIt : itemF gl (s.drop kk) = some (rangeP a.toNat b.toNat, n + 1 + m) := hIt.trans (if_neg h7)
                        have hv : ¬ (b.toNat : Int) < a.toNat := by intro h; exact h7 (UInt8.lt_iff_toNat_lt.2 (by omega))
                        obtain ⟨d1, d2, d3, d4, d5, d6, d7⟩ := HD.out _ _ hIt (by omega)
                        refine rp_run s gl kk k0 l w.heap.size wr _ _ _ _ _ _ _ _ _ _ _ _ _ _ _ _ _ _ _ _ _ _ _ _ _ _ _ _ _ _ _ _ _ _ _ _ _ _ _ _ _ _ _ _ _ _ _ _ _ _ _ _ _ _ _ _ _ _ _ _ _ _ _ _ _ _ _ _ _ _ _ _ _ _ _ _ _ _ _ _ _ _ _ _ _ _ _ _ _ _ _ _ _ _ _ _ _ _ _ _ _ _ _ _ _ _ _ _ _ _ _ _ _ _ _ _ _ _ _ _ _ _ _ _ _ _ _ _ _ _ _ _ _ _ _ _ _ _ _ _ _ _ _ _ _ _ _ _ _ _ _ _ _ _ _ _ _ _ _ _ hs (by omega) hlt hks2 hT10 hG hq1 hq2 a n hkn H1 h45 h45c h5 h6 b m hv (bytesP (rangeP a.toNat b.toNat)) (bl _) H2 (Lib.hid (HBT a b)) (fun _ _ _ _ _ _ _ _ _ _ _ _ _ _ _ _ _ _ _ _ _ _ _ _ _ _ _ _ _ _ _ _ _ _ _ _ _ _ _ _ _ _ _ _ _ _ _ _ _ _ _ _ _ _ _ _ _ _ _ _ _ _ _ _ _ _ _ _ _ _ _ _ _ _ _ _ _ _ _ _ _ _ _ _ _ _ _ _ _ _ _ _ _ _ _ _ _ _ _ _ _ _ _ _ _ _ _ _ _ _ _ _ _ _ _ _ _ _ _ _ _ _ _ _ _ _ _ _ w1 hb1 hG1 => ?_)
                        go_roundw
                        case rel => exact ⟨_, _, _, _, _, _, _, _, _, _, _, _, _, _, _, _, _, _, _, _, _, _, _, _, _, _, _, _, _, _, _, _, _, _, _, _, _, _, _, _, _, _, _, _, _, _, _, _, _, _, _, _, _, _, _, _, _, _, _, _, _, _, _, _, _, _, _, _, _, _, _, _, _, _, _, _, _, _, _, _, _, _, _, _, _, _, _, _, _, _, _, _, _, _, _, _, _, _, _, _, _, _, _, _, _, _, _, _, _, _, _, _, _, _, _, _, _, _, _, _, _, _, _, _, _, _, _, _, _, _, ⟨kk + (n + 1 + m), f, orP p (rangeP a.toNat b.toNat), l ++ bytesP (rangeP a.toNat b.toNat), rfl, rfl, d2, d3, d4, d5, d6, d7, hG1, hb.trans (hb1.mono (by have := hb.size; omega))⟩, rfl⟩
                        case measure => simp [intOf]; omega
      · have hR2 : R = none := by
          rw [← hR, itemsA, List.getElem?_eq_none (by omega)]
        have HRN := Lib.hid hR2
        have hge : s.length ≤ kk := by omega
        have hI : (s.length : Int) ≤ (kk : Int) := by omega
        clear hR hR2 HR0 hlt hlp
        go_wp2_with fail
        refine got_ret hG rfl rfl ?_
        rw [HV.out, HRN.out]
        refine ⟨rfl, ?_⟩
        repeat (refine Below.setCell ?_ (by simp) _)
        exact hb
end Go.Proofs.YtphfcebacilbbaaDoor
