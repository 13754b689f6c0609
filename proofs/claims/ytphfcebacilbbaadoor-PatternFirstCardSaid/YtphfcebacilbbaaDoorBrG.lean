/- A bracket: Parse. -/
import Derived.Test.YtphfcebacilbbaaDoorBrF
import Derived.ScopeJumps
import Derived.WalkMore
namespace Go.Proofs.YtphfcebacilbbaaDoor
open Go.RowKit
attribute [local irreducible] wordP

theorem scb_alloc (w : World) (s : List UInt8) (k : Nat) (gl : Bool) :
    ScB (w.alloc (.cells #[.string (S s), .int .i64 k, .bool gl, .int .u64 0, .int .u64 0, .int .u64 0, .int .u64 0] 97)) w.heap.size s k gl noneP := by
  unfold ScB
  rw [show (wordP noneP 0 : Nat) = 0 from word_none 0, show (wordP noneP 1 : Nat) = 0 from word_none 1, show (wordP noneP 2 : Nat) = 0 from word_none 2, show (wordP noneP 3 : Nat) = 0 from word_none 3]
  show (w.heap.push _)[w.heap.size]? = _
  rw [Array.getElem?_push_size]
  rfl
theorem none_v : SetV noneP = .agg #[.int .u64 0, .int .u64 0, .int .u64 0, .int .u64 0] := by
  rw [SetV_def, show (wordP noneP 0 : Nat) = 0 from word_none 0, show (wordP noneP 1 : Nat) = 0 from word_none 1, show (wordP noneP 2 : Nat) = 0 from word_none 2, show (wordP noneP 3 : Nat) = 0 from word_none 3]
  rfl
/-- a scope whose text is three regions, a label, and what is jumped back to -/
theorem wp_scope_label {P : Program} {r1 r2 r3 R : Code} {Q : Exit → Act → World → Prop} {a : Act} {w : World} (l : Nat) (J : Act → World → Prop) (μ : Act → World → Nat)
    (h1 : findLabel r1 l = none) (h2 : findLabel r2 l = none) (h3 : findLabel r3 l = none)
    (body : ∀ a w, J a w → R.wp P (Exit.jump l (fun a' w' => J a' w' ∧ μ a' w' < μ a w) Q) a w)
    (first : (∀ a w, J a w → R.wp P (Exit.jump l J Q) a w) → (r1.seq (r2.seq (r3.seq ((Code.label l).seq R)))).wp P (Exit.jump l J Q) a w) :
    (Code.scope (r1.seq (r2.seq (r3.seq ((Code.label l).seq R))))).wp P Q a w := by
  refine wp_scope_jumps (rest := Code.seq .skip R) l J μ (by simp [findLabel, h1, h2, h3]) (first fun a w h => Code.wp_mono ?_ (body a w h)) ?_
  · intro e a' w' hq
    cases e <;> first | exact hq | exact ⟨hq.1, hq.2.1⟩
  · intro a w h
    exact wp_seq (wp_skip (body a w h))
set_option maxRecDepth 100000 in
set_option maxHeartbeats 1000000 in
theorem Parse_not (s : List UInt8) (at' : Int) (gl : Bool) (w : World) (h : at' < 0 ∨ (s.length : Int) ≤ at' ∨ ∃ k : Nat, ∃ c, at' = k ∧ s[k]? = some c ∧ c ≠ 91) :
    Calls Tryd.prog 21 #[.string (S s), .int .i64 at', .bool gl] w fun e w' => e = .returned (.tuple #[SetV noneP, .int .i64 0, .int .i64 1]) ∧ Below w.heap.size w w' := by
  rw [none_v]
  by_cases h1 : at' < 0
  · clear h
    go_enter Tryd.func21, Tryd.ntmps21
    go_wp2_with fail
    refine wp_scope_label 0 (fun _ _ => False) (fun _ _ => 0) rfl rfl rfl (fun _ _ h => h.elim) (fun hJ => ?_)
    clear hJ
    go_wp2
    simp only [Exit.jump]
    try rw [Exit.noGoto_ret]
    refine bodyPost_ret (v := .tuple #[.agg #[.int .u64 0, .int .u64 0, .int .u64 0, .int .u64 0], .int .i64 0, .int .i64 1]) (by simp [results, Tryd.results21, go_sem]) rfl ?_
    exact ⟨rfl, by go_grown⟩
  by_cases h2 : (s.length : Int) ≤ at'
  · clear h
    go_enter Tryd.func21, Tryd.ntmps21
    go_wp2_with fail
    refine wp_scope_label 0 (fun _ _ => False) (fun _ _ => 0) rfl rfl rfl (fun _ _ h => h.elim) (fun hJ => ?_)
    clear hJ
    go_wp2
    simp only [Exit.jump]
    try rw [Exit.noGoto_ret]
    refine bodyPost_ret (v := .tuple #[.agg #[.int .u64 0, .int .u64 0, .int .u64 0, .int .u64 0], .int .i64 0, .int .i64 1]) (by simp [results, Tryd.results21, go_sem]) rfl ?_
    exact ⟨rfl, by go_grown⟩
  obtain ⟨k, c, rfl, hc, hne⟩ : ∃ k : Nat, ∃ c, at' = k ∧ s[k]? = some c ∧ c ≠ 91 := by
    rcases h with h | h | h
    · exact absurd h h1
    · exact absurd h h2
    · exact h
  obtain ⟨hk, hcc⟩ := List.getElem?_eq_some_iff.1 hc
  have hks : k < (S s).size := by rw [S_size]; exact hk
  have hb : ((S s)[k]'hks) = c := hcc
  have hne2 : (((S s)[k]'hks).toNat : Int) = 91 → False := by
    intro e
    apply hne
    rw [← hb]
    exact UInt8.toNat_inj.1 (by have : ((S s)[k]'hks).toNat = 91 := by omega
                                rw [this]; rfl)
  have hne3 : ((((S s)[k]'hks).toNat : Int) != 91) = true := by simpa using hne2
  have hne4 : (((S s)[k]'hks).toNat == 91) = false := by
    rw [beq_eq_false_iff_ne]
    intro e
    exact hne2 (by omega)
  clear hc hne h1 h2 h hb hcc hne2
  have hkI : (k : Int) < (s.length : Int) := by omega
  have hnI : ¬ ((s.length : Int) ≤ (k : Int)) := by omega
  go_enter Tryd.func21, Tryd.ntmps21
  go_wp2_with fail
  refine wp_scope_label 0 (fun _ _ => False) (fun _ _ => 0) rfl rfl rfl (fun _ _ h => h.elim) (fun hJ => ?_)
  clear hJ
  go_wp2
  simp only [Exit.jump]
  try rw [Exit.noGoto_ret]
  refine bodyPost_ret (v := .tuple #[.agg #[.int .u64 0, .int .u64 0, .int .u64 0, .int .u64 0], .int .i64 0, .int .i64 1]) (by simp [results, Tryd.results21, go_sem]) rfl ?_
  exact ⟨rfl, by go_grown⟩
/-- the place that a scan's block holds -/
def placeOf (w : World) (g : Nat) : Nat := match w.cell? ⟨g, 1, none⟩ with
  | some (.int _ i) => i.toNat
  | _ => 0
theorem ScB.place {w : World} {g : Nat} {s : List UInt8} {k : Nat} {gl : Bool} {p : Nat → Bool} (h : ScB w g s k gl p) : placeOf w g = k := by
  unfold placeOf; rw [h.cells.2.1]; rfl
theorem Own1.zero {b : Nat} {w w' : World} (h : Own1 b w w') {g : Nat} (hz : ZeroAt w g) (hne : g ≠ b) : ZeroAt w' g := fun j hj => by
  have hk : g < w.heap.size := hz.lt
  have := h.block g hk (by intro e; injection e with e; exact hne e)
  refine ⟨h.cell (hz j hj).1 hne, ?_⟩
  have := (hz j hj).2
  unfold World.frozen? at *
  rw [h.block g hk (by intro e; injection e with e; exact hne e)]; exact this
set_option maxRecDepth 100000 in
set_option maxHeartbeats 1000000 in
theorem Parse_is (s : List UInt8) (k : Nat) (gl : Bool) (hs : s.length ≤ 1000000) (w : World) (h : s[k]? = some 91) (m : Int) (hm : w.cell? ⟨2, 0, none⟩ = some (.int .i64 m)) :
    Calls Tryd.prog 21 #[.string (S s), .int .i64 k, .bool gl] w fun e w' => (match parseP s k gl with
      | some (p, n) => e = .returned (.tuple #[SetV p, .int .i64 n, .int .i64 0])
      | none => e = .returned (.tuple #[SetV noneP, .int .i64 0, .int .i64 11])) ∧ Below w.heap.size w w' := by
  obtain ⟨hk, hcc⟩ := List.getElem?_eq_some_iff.1 h
  have hkI : (k : Int) < (s.length : Int) := by omega
  have hnI : ¬ ((s.length : Int) ≤ (k : Int)) := by omega
  have hnn : ¬ ((k : Int) < 0) := by omega
  have hk1 : k + 1 ≤ s.length := by omega
  have N1 := Lib.hid (fun W hW => next_any (w.heap.size + 1) s [94] (k + 1) gl noneP hk1 hs W hW)
  have N2 := Lib.hid (fun W hW => next_any (w.heap.size + 1) s [33] (k + 1) gl noneP hk1 hs W hW)
  have hT : turnB gl (s.drop (k + 1)) = (preB (s.drop (k + 1)) [94] || (gl && preB (s.drop (k + 1)) [33])) := rfl
  have hP : parseP s k gl = (itemsA gl s (s.length + 1) true (k + 1 + (if turnB gl (s.drop (k + 1)) = true then 1 else 0)) noneP).map fun r => (if turnB gl (s.drop (k + 1)) = true then notP r.1 else r.1, r.2 + 1) := rfl
  have hL : turnB gl (s.drop (k + 1)) = true → k + 2 ≤ s.length := by
    intro h
    rw [hT] at h
    rcases Bool.or_eq_true_iff.1 h with h | h
    · exact pre_len s [94] (k + 1) hk1 h
    · exact pre_len s [33] (k + 1) hk1 (Bool.and_eq_true_iff.1 h).2
  rw [hP]
  clear hP
  have HL := Lib.hid hL
  have HT := Lib.hid hT
  clear hL hT
  generalize turnB gl (s.drop (k + 1)) = tb at *
  generalize preB (s.drop (k + 1)) [94] = b1 at *
  generalize preB (s.drop (k + 1)) [33] = b2 at *
  generalize hR : itemsA gl s (s.length + 1) true (k + 1 + (if tb = true then 1 else 0)) noneP = R at *
  have HR0 := Lib.hid hR
  clear hR
  have HA := scb_alloc (w.alloc (.cells #[.int .u64 0, .int .u64 0, .int .u64 0, .int .u64 0] 29)) s (k + 1) gl
  push_cast at HA
  rw [World.size_alloc] at HA
  have hB0 : Below w.heap.size w ((w.alloc (.cells #[.int .u64 0, .int .u64 0, .int .u64 0, .int .u64 0] 29)).alloc (.cells #[.string (S s), .int .i64 ((k : Int) + 1), .bool gl, .int .u64 0, .int .u64 0, .int .u64 0, .int .u64 0] 97)) := ((Below.refl _ _).alloc (Nat.le_refl _) _).alloc (by simp) _
  have hZ0 := (zero_alloc w 29).alloc (by simp) (.cells #[.string (S s), .int .i64 ((k : Int) + 1), .bool gl, .int .u64 0, .int .u64 0, .int .u64 0, .int .u64 0] 97)
  have hks : k < (S s).size := by rw [S_size]; exact hk
  have hb : (((S s)[k]'hks).toNat : Int) = 91 := by have : ((S s)[k]'hks) = 91 := hcc; rw [this]; rfl
  have hb2 : ((S s)[k]'hks).toNat = 91 := by omega
  clear h hcc
  go_enter Tryd.func21, Tryd.ntmps21
  go_wp2_with fail
  refine wp_scope_label 0 (fun _ _ => False) (fun _ _ => 0) rfl rfl rfl (fun _ _ h => h.elim) (fun hJ => ?_)
  clear hJ
  go_upto_region 4 with fail
  generalize (w.alloc (.cells #[.int .u64 0, .int .u64 0, .int .u64 0, .int .u64 0] 29)).alloc (.cells #[.string (S s), .int .i64 ((k : Int) + 1), .bool gl, .int .u64 0, .int .u64 0, .int .u64 0, .int .u64 0] 97) = W at *
  go_cut [10] (fun s10 wx => s10 = .bool tb ∧ ScB wx (w.heap.size + 1) s (k + 1 + (if tb = true then 1 else 0)) gl noneP ∧ Own1 (w.heap.size + 1) W wx)
  case first =>
    cases b1 with
    | true =>
      have h1 := HT.out
      rw [Bool.true_or] at h1
      subst h1
      go_wp2_with fail
      refine (N1.out _ HA).mono ?_
      rintro e w1 ⟨rfl, hw1, ho1⟩
      go_wp2_with fail
      go_meet
      exact ⟨rfl, hw1, ho1⟩
    | false =>
      have h1 := HT.out
      rw [Bool.false_or] at h1
      cases gl with
      | false =>
        rw [Bool.false_and] at h1
        subst h1
        go_wp2_with fail
        refine (N1.out _ HA).mono ?_
        rintro e w1 ⟨rfl, hw1, ho1⟩
        go_wp2_with fail
        go_meet
        exact ⟨rfl, hw1, ho1⟩
      | true =>
        rw [Bool.true_and] at h1
        subst h1
        go_wp2_with fail
        refine (N1.out _ HA).mono ?_
        rintro e w1 ⟨rfl, hw1, ho1⟩
        go_wp2_with fail
        refine (N2.out _ hw1).mono ?_
        rintro e w2 ⟨rfl, hw2, ho2⟩
        go_wp2_with fail
        go_meet
        refine ⟨rfl, ?_, ho1.trans ho2⟩
        cases tb <;> exact hw2
  case rest =>
    obtain ⟨rfl, hw0, ho0⟩ := hcut
    have hk0 : k + 1 + (if tb = true then 1 else 0) ≤ s.length := by
      have := HL.out
      by_cases h : tb = true
      · rw [if_pos h]; exact this h
      · rw [if_neg h]; exact hk1
    have hgW : 2 < w.heap.size := World.block_lt_of_cell? w ⟨2, 0, none⟩ hm
    have hmW : W.cell? ⟨2, 0, none⟩ = some (.int .i64 m) := (hB0.cell (p := ⟨2, 0, none⟩) hgW).trans hm
    have hgne : 2 ≠ w.heap.size + 1 := by omega
    have hBW : w.heap.size + 1 < W.heap.size := HA.lt
    clear N1 N2 HT HL HA
    generalize k + 1 + (if tb = true then 1 else 0) = k0 at *
    go_wp2_with fail
    refine wp_label ?_
    go_wp2_with fail
    go_loopw [11] (fun f wr => ∃ (first : Bool) (kk fuel : Nat) (p : Nat → Bool), f = .bool first ∧ ScB wr (w.heap.size + 1) s kk gl p ∧ Own1 (w.heap.size + 1) W wr ∧ kk ≤ s.length ∧ s.length + 1 ≤ fuel + kk ∧ itemsA gl s fuel first kk p = R) (fun _ wr => s.length - placeOf wr (w.heap.size + 1))
    case atStart => exact ⟨true, k0, s.length + 1, noneP, rfl, hw0, ho0, hk0, by omega, HR0.out⟩
    case round =>
      obtain ⟨first, kk, fuel, p, rfl, hw, ho, hkk, hfu, hR⟩ := hrel
      have hpl := hw.place
      obtain ⟨fuel, rfl⟩ : ∃ f, fuel = f + 1 := ⟨fuel - 1, by omega⟩
      have hZ := ho.zero hZ0 (by omega : w.heap.size ≠ w.heap.size + 1)
      obtain ⟨⟨z0, y0⟩, ⟨z1, y1⟩, ⟨z2, y2⟩, ⟨z3, y3⟩⟩ := hZ.four
      obtain ⟨c0, c1, c2, c3, c4, c5, c6⟩ := hw.cells
      have hBr : Below w.heap.size w _ := ho.below hB0 (by omega) hBW
      by_cases hlt : kk < s.length
      · have hgt : s[kk]? = some s[kk] := List.getElem?_eq_getElem hlt
        have hks2 : kk < (S s).size := by rw [S_size]; exact hlt
        have hge : ¬ s.length ≤ kk := by omega
        have hI : (kk : Int) < (s.length : Int) := by omega
        by_cases h93 : (s[kk] == 93 && !first) = true
        · obtain ⟨h1, h2⟩ := Bool.and_eq_true_iff.1 h93
          have h2 : first = false := by simpa using h2
          subst h2
          have hv : ((S s)[kk]'hks2).toNat = 93 := by
            have h3 : ((S s)[kk]'hks2) = 93 := beq_iff_eq.1 h1
            rw [h3]; rfl
          have hvI : (((S s)[kk]'hks2).toNat : Int) = 93 := by omega
          have hR2 : R = some (p, kk) := by
            rw [← hR]
            show (match s[kk]? with | none => none | some c => _) = _
            rw [hgt]
            exact if_pos h93
          have HR2 := Lib.hid hR2
          clear hR hR2 h93 h1 hgt HR0
          cases tb with
          | false =>
            go_wp2_with fail
            go_region
            go_wp2_with fail
            simp only [Exit.jump]
            try rw [Exit.noGoto_ret]
            refine bodyPost_ret (v := .tuple #[.agg #[.int .u64 (wordP p 0), .int .u64 (wordP p 1), .int .u64 (wordP p 2), .int .u64 (wordP p 3)], .int .i64 ((kk : Int) + 1), .int .i64 0]) (by simp [results, Tryd.results21, go_sem, z0, z1, z2, z3]) rfl ?_
            rw [HR2.out]
            refine ⟨by simp [SetV_def], ?_⟩
            refine Below.drew ?_
            repeat (refine Below.setCell ?_ (by simp) _)
            exact hBr
          | true =>
            have HN := Lib.hid (fun W => not_any p W)
            go_wp2_with fail
            rw [← SetV_def]
            refine (HN.out _).mono ?_
            rintro e w3 ⟨rfl, hb3⟩
            have ho4 := ho.trans (Own1.of_below hb3)
            have hw3 := hw.below hb3 hw.lt
            clear c0 c1 c2 c3 c4 c5 c6 z0 z1 z2 z3 y0 y1 y2 y3 hZ hBr HN hw
            obtain ⟨c0, c1, c2, c3, c4, c5, c6⟩ := hw3.cells
            have f3 := hw3.f 3
            have f4 := hw3.f 4
            have f5 := hw3.f 5
            have f6 := hw3.f 6
            go_wp2_with fail
            have hw4 := hw3.setP (notP p)
            have ho5 := (((ho4.set (o := 3) (.int .u64 (wordP (notP p) 0))).set (o := 4) (.int .u64 (wordP (notP p) 1))).set (o := 5) (.int .u64 (wordP (notP p) 2))).set (o := 6) (.int .u64 (wordP (notP p) 3))
            generalize (((w3.setCell ⟨w.heap.size + 1, 3, none⟩ (.int .u64 (wordP (notP p) 0))).setCell ⟨w.heap.size + 1, 4, none⟩ (.int .u64 (wordP (notP p) 1))).setCell ⟨w.heap.size + 1, 5, none⟩ (.int .u64 (wordP (notP p) 2))).setCell ⟨w.heap.size + 1, 6, none⟩ (.int .u64 (wordP (notP p) 3)) = w4 at *
            clear c0 c1 c2 c3 c4 c5 c6 f3 f4 f5 f6 hw3 ho4 hb3
            obtain ⟨c0, c1, c2, c3, c4, c5, c6⟩ := hw4.cells
            have hZ := ho5.zero hZ0 (by omega : w.heap.size ≠ w.heap.size + 1)
            have hBr : Below w.heap.size w w4 := ho5.below hB0 (by omega) hBW
            obtain ⟨⟨z0, y0⟩, ⟨z1, y1⟩, ⟨z2, y2⟩, ⟨z3, y3⟩⟩ := hZ.four
            go_region
            go_wp2_with fail
            simp only [Exit.jump]
            try rw [Exit.noGoto_ret]
            refine bodyPost_ret (v := .tuple #[.agg #[.int .u64 (wordP (notP p) 0), .int .u64 (wordP (notP p) 1), .int .u64 (wordP (notP p) 2), .int .u64 (wordP (notP p) 3)], .int .i64 ((kk : Int) + 1), .int .i64 0]) (by simp [results, Tryd.results21, go_sem, z0, z1, z2, z3]) rfl ?_
            rw [HR2.out]
            refine ⟨by simp [SetV_def], ?_⟩
            refine Below.drew ?_
            repeat (refine Below.setCell ?_ (by simp) _)
            exact hBr
        · have hR2 : (match itemF gl (s.drop kk) with
              | none => none
              | some (r, n) => itemsA gl s fuel false (kk + n) (orP p r)) = R := by
            rw [← hR]
            symm
            show (match s[kk]? with | none => none | some c => _) = _
            rw [hgt]
            exact if_neg h93
          have HR2 := Lib.hid hR2
          clear hR hR2 HR0
          by_cases h1 : s[kk] = 93
          · have h2 : first = true := by
              cases first with
              | true => rfl
              | false => exact absurd (by rw [h1]; rfl) h93
            subst h2
            have hv : ((S s)[kk]'hks2).toNat = 93 := by
              have h3 : ((S s)[kk]'hks2) = 93 := h1
              rw [h3]; rfl
            have hvI : (((S s)[kk]'hks2).toNat : Int) = 93 := by omega
            clear h93 h1
            have hI2 := Lib.hid (item_any (w.heap.size + 1) s kk gl p hkk hs _ hw m (ho.cell hmW hgne) hgne)
            go_wp2_with fail
            refine (hI2.out).mono ?_
            rintro e w3 ⟨ho3, hr⟩
            have ho4 := ho.trans ho3
            have hZ3 := ho4.zero hZ0 (by omega : w.heap.size ≠ w.heap.size + 1)
            clear z0 z1 z2 z3 y0 y1 y2 y3 hZ hI2 hBr
            have hBr : Below w.heap.size w w3 := ho4.below hB0 (by omega) hBW
            obtain ⟨⟨z0, y0⟩, ⟨z1, y1⟩, ⟨z2, y2⟩, ⟨z3, y3⟩⟩ := hZ3.four
            cases hf : itemF gl (s.drop kk) with
            | none =>
              rw [hf] at hr HR2
              obtain rfl := hr
              have HR2 := Lib.hid HR2.out.symm
              clear c0 c1 c2 c3 c4 c5 c6 hw hgt
              go_wp2_with fail
              simp only [Exit.jump]
              try rw [Exit.noGoto_ret]
              refine bodyPost_ret (v := .tuple #[.agg #[.int .u64 0, .int .u64 0, .int .u64 0, .int .u64 0], .int .i64 0, .int .i64 11]) (by simp [results, Tryd.results21, go_sem, z0, z1, z2, z3]) rfl ?_
              rw [HR2.out]
              refine ⟨by rw [none_v]; rfl, ?_⟩
              repeat (refine Below.setCell ?_ (by simp) _)
              exact hBr
            | some cn =>
              obtain ⟨c', n⟩ := cn
              rw [hf] at hr HR2
              obtain ⟨rfl, hw3, hle3, hn3⟩ := hr
              clear c0 c1 c2 c3 c4 c5 c6 hw hgt z0 z1 z2 z3 y0 y1 y2 y3
              have hpl3 := hw3.place
              go_wp2_with fail
              go_roundw
              case rel => exact ⟨false, kk + n, fuel, orP p c', rfl, hw3, ho4, hle3, by omega, HR2.out⟩
              case measure => rw [hpl, hpl3]; omega
          · have hx : ((S s)[kk]'hks2).toNat ≠ 93 := by
              intro h3
              apply h1
              exact UInt8.toNat_inj.1 h3
            have hv : ((((S s)[kk]'hks2).toNat : Int) == 93) = false := by rw [beq_eq_false_iff_ne]; omega
            have hv2 : (((S s)[kk]'hks2).toNat == 93) = false := by rw [beq_eq_false_iff_ne]; omega
            clear h93 h1 hx
            have hI2 := Lib.hid (item_any (w.heap.size + 1) s kk gl p hkk hs _ hw m (ho.cell hmW hgne) hgne)
            go_wp2_with fail
            refine (hI2.out).mono ?_
            rintro e w3 ⟨ho3, hr⟩
            have ho4 := ho.trans ho3
            have hZ3 := ho4.zero hZ0 (by omega : w.heap.size ≠ w.heap.size + 1)
            clear z0 z1 z2 z3 y0 y1 y2 y3 hZ hI2 hBr
            have hBr : Below w.heap.size w w3 := ho4.below hB0 (by omega) hBW
            obtain ⟨⟨z0, y0⟩, ⟨z1, y1⟩, ⟨z2, y2⟩, ⟨z3, y3⟩⟩ := hZ3.four
            cases hf : itemF gl (s.drop kk) with
            | none =>
              rw [hf] at hr HR2
              obtain rfl := hr
              have HR2 := Lib.hid HR2.out.symm
              clear c0 c1 c2 c3 c4 c5 c6 hw hgt
              go_wp2_with fail
              simp only [Exit.jump]
              try rw [Exit.noGoto_ret]
              refine bodyPost_ret (v := .tuple #[.agg #[.int .u64 0, .int .u64 0, .int .u64 0, .int .u64 0], .int .i64 0, .int .i64 11]) (by simp [results, Tryd.results21, go_sem, z0, z1, z2, z3]) rfl ?_
              rw [HR2.out]
              refine ⟨by rw [none_v]; rfl, ?_⟩
              repeat (refine Below.setCell ?_ (by simp) _)
              exact hBr
            | some cn =>
              obtain ⟨c', n⟩ := cn
              rw [hf] at hr HR2
              obtain ⟨rfl, hw3, hle3, hn3⟩ := hr
              clear c0 c1 c2 c3 c4 c5 c6 hw hgt z0 z1 z2 z3 y0 y1 y2 y3
              have hpl3 := hw3.place
              go_wp2_with fail
              go_roundw
              case rel => exact ⟨false, kk + n, fuel, orP p c', rfl, hw3, ho4, hle3, by omega, HR2.out⟩
              case measure => rw [hpl, hpl3]; omega
      · have hR2 : R = none := by
          rw [← hR]
          show (match s[kk]? with | none => none | some c => _) = _
          rw [List.getElem?_eq_none (by omega)]
        have HR2 := Lib.hid hR2
        have hge : s.length ≤ kk := by omega
        have hI : (s.length : Int) ≤ (kk : Int) := by omega
        clear hR hR2 HR0 hlt
        go_wp2_with fail
        simp only [Exit.jump]
        try rw [Exit.noGoto_ret]
        refine bodyPost_ret (v := .tuple #[.agg #[.int .u64 0, .int .u64 0, .int .u64 0, .int .u64 0], .int .i64 0, .int .i64 11]) (by simp [results, Tryd.results21, go_sem, z0, z1, z2, z3]) rfl ?_
        rw [HR2.out]
        refine ⟨by rw [none_v]; rfl, ?_⟩
        repeat (refine Below.setCell ?_ (by simp) _)
        exact hBr
end Go.Proofs.YtphfcebacilbbaaDoor
