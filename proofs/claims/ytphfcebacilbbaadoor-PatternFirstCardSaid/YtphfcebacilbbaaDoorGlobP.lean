/- The document's globs: Ends, walked. -/
import Derived.Test.YtphfcebacilbbaaDoorGlobO
import Derived.Test.YtphfcebacilbbaaDoorGlobB
import Derived.Test.YtphfcebacilbbaaDoorStepR
import Derived.Deep.RegionHeld3
import Derived.Outline
namespace Go.Proofs.YtphfcebacilbbaaDoor
open Go.RowKit
attribute [local irreducible] wordP

abbrev bc (b : Bool) : List Value := [.bool b]
theorem bc_len (b : Bool) : (bc b).length = 1 := rfl
theorem bc_one (b : Bool) : ∀ u ∈ bc b, u.oneCell' = true := by
  intro u hu
  rw [List.mem_singleton.1 hu]; rfl
theorem info_bool : (Tryd.prog.info? 4).map (fun i => (i.zero, i.size, i.bytes)) = some (some (.bool false), 1, 1) := by kernel_rfl
/-- a slice of bools of the call's own -/
abbrev OwnL (w : World) (base : Nat) (v : Value) (l : List Bool) : Prop := OwnR bc 4 1 w base v l
theorem app_bool {ops : Array Oper} {rest : List Oper} {o : Oper} {a : Act} {Q : Exit → Act → World → Prop} {w0 : World} (hgd : o.guard = none) (s x : Operand)
    (ho : o.op = .call { callee := .builtin .append, args := #[s, x], argTypes := #[65, 65] })
    (base : Nat) (v : Value) (l : List Bool) (n : Bool) (C : Array Value) (hC : C.toList = bc n) (hs : a.eval s = v) (hown : OwnL w0 base v l)
    (hx : a.eval x = .slice (some ⟨w0.heap.size, 0, none⟩) 1 1)
    (hbound : l.length ≤ 1000000000) (hbase : base ≤ w0.heap.size)
    (h : ∀ v' w', OwnL w' base v' (l ++ [n]) → Below base w0 w' → Grew w0 w' v v' → wpList Tryd.prog ops Q rest (a.put o.dst v') w') :
    wpList Tryd.prog ops Q (o :: rest) a (w0.alloc (.cells C 4)) :=
  app_row bc 65 4 1 1 _ bc_len bc_one Tryd.underlying65 info_bool rfl (by decide) (by decide) hgd s x ho base v l n C hC hs hown hx hbound hbase h
/-- the same, a step of a region that draws -/
theorem step_app_bool {ops : Array Oper} {o : Oper} {a : Act} {K : Act → World → Prop} {Q : Exit → Act → World → Prop} {E : Prop} {w0 : World} (hgd : o.guard = none) (s x : Operand)
    (ho : o.op = .call { callee := .builtin .append, args := #[s, x], argTypes := #[65, 65] })
    (base : Nat) (v : Value) (l : List Bool) (n : Bool) (hs : a.eval s = v) (hown : OwnL w0 base v l) (g : Nat)
    (hx : a.eval x = .slice (some ⟨g, 0, none⟩) 1 1) (hc : ∀ j u, (bc n)[j]? = some u → w0.cell? ⟨g, j, none⟩ = some u)
    (hbound : l.length ≤ 1000000000) (hbase : base ≤ w0.heap.size)
    (h : ∀ v' w', OwnL w' base v' (l ++ [n]) → Below base w0 w' → Grew w0 w' v v' → K (a.put o.dst v') w') :
    if Region.wanted o (yielded ops a.tmps) = true then o.wp Tryd.prog a w0 K Q else E :=
  step_app_row bc 65 4 1 1 _ bc_len bc_one Tryd.underlying65 info_bool rfl (by decide) (by decide) hgd s x ho base v l n hs hown g hx hc hbound hbase h
theorem OwnL.at' {w : World} {base : Nat} {v : Value} {l : List Bool} (h : OwnL w base v l) (hp : 0 < l.length) : ∃ g c, v = .slice (some ⟨g, 0, none⟩) l.length c ∧ base ≤ g ∧ g < w.heap.size ∧ ∀ j (hj : j < l.length), w.cell? ⟨g, j, none⟩ = some (.bool l[j]) := by
  have hc := h
  obtain ⟨h1, h2⟩ := h
  rcases h2 with ⟨rfl, h0⟩ | ⟨g, cap, cur, rfl, hg, hh, r⟩
  · omega
  · refine ⟨g, cap, rfl, hg, ?_, fun j hj => ?_⟩
    · rcases Nat.lt_or_ge g w.heap.size with h | h
      · exact h
      · rw [Array.getElem?_eq_none h] at hh; cases hh
    · have := World.ownsRow.cells hc (g := g) rfl (j * 1 + 0) (.bool l[j]) (by rw [flatMap_at bc 1 bc_len l j 0 hj (by decide)]; rfl)
      rw [Addr.add_lit] at this
      rw [← this]
      congr 2
      omega
/-- at which of the first places what the tokens match ends -/
def endsK (fr : UInt8 → Bool) (L : List GT) (s : List UInt8) (i : Nat) : List Bool := (List.range i).map fun j => matchG fr L (s.take j)
theorem endsK_len (fr : UInt8 → Bool) (L : List GT) (s : List UInt8) (i : Nat) : (endsK fr L s i).length = i := by simp [endsK]
theorem endsK_succ (fr : UInt8 → Bool) (L : List GT) (s : List UInt8) (i : Nat) : endsK fr L s (i + 1) = endsK fr L s i ++ [matchG fr L (s.take i)] := by simp [endsK, List.range_succ]
theorem endsK_at (fr : UInt8 → Bool) (L : List GT) (s : List UInt8) (i j : Nat) (h : j < (endsK fr L s i).length) : (endsK fr L s i)[j] = matchG fr L (s.take j) := by simp [endsK]
theorem take_snocL {α : Type} (l : List α) (k : Nat) (h : k < l.length) : l.take (k + 1) = l.take k ++ [l[k]] := List.take_succ_eq_append_getElem h
/-- one place more -/
theorem next_star_nil (fr : UInt8 → Bool) (L : List GT) (s : List UInt8) (k : Nat) (h : k < L.length) (h4 : L[k] = .star) : matchG fr (L.take (k + 1)) (s.take 0) = matchG fr (L.take k) (s.take 0) := by
  rw [take_snocL L k h, h4, List.take_zero, ends_star_nil]
theorem next_star (fr : UInt8 → Bool) (L : List GT) (s : List UInt8) (k j : Nat) (h : k < L.length) (h4 : L[k] = .star) (hj : j < s.length) : matchG fr (L.take (k + 1)) (s.take (j + 1)) = (matchG fr (L.take k) (s.take (j + 1)) || (fr s[j] && matchG fr (L.take (k + 1)) (s.take j))) := by
  rw [take_snocL L k h, h4, take_snocL s j hj, ends_star]
theorem next_one_nil (fr : UInt8 → Bool) (L : List GT) (s : List UInt8) (k : Nat) (h : k < L.length) (f : UInt8 → Bool) (h4 : L[k] = .one f) : matchG fr (L.take (k + 1)) (s.take 0) = false := by
  rw [take_snocL L k h, h4, List.take_zero, ends_one_nil]
theorem next_one (fr : UInt8 → Bool) (L : List GT) (s : List UInt8) (k j : Nat) (h : k < L.length) (f : UInt8 → Bool) (h4 : L[k] = .one f) (hj : j < s.length) : matchG fr (L.take (k + 1)) (s.take (j + 1)) = (matchG fr (L.take k) (s.take j) && f s[j]) := by
  rw [take_snocL L k h, h4, take_snocL s j hj, ends_one]
theorem gt_one (fold slash : Bool) (t : Tk) (h : ¬ t.kind = 4) : t.gt fold slash = .one (oneG fold slash t) := by cases t <;> first | rfl | (exact absurd rfl h)
/-- what Ends tells: a slice of the call's own -/
def EndsPost (R : List Bool) (w : World) (e : Ending) (w' : World) : Prop := ∃ v, e = .returned v ∧ OwnL w' w.heap.size v R ∧ Below w.heap.size w w'
set_option maxRecDepth 100000 in
set_option maxHeartbeats 4000000 in
theorem Ends_any (l : List Tk) (s : List UInt8) (fold slash : Bool) (v : Value) (w : World) (hl : RowsV Tk.rcells 3 w v l) (hln : l.length ≤ 2000) (hs : s.length ≤ 100000) :
    Calls Tryd.prog 53 #[v, .bool fold, .bool slash, .string (S s)] w (EndsPost (endsK (freeG slash) (l.map (Tk.gt fold slash)) s (s.length + 1)) w) := by
  obtain ⟨a, c, rfl, hrow⟩ := hl
  have HL : Hid (∀ i (h : i < l.length), ∃ h2 : i < (l.map (Tk.gt fold slash)).length, (l.map (Tk.gt fold slash))[i] = l[i].gt fold slash) := Lib.hid (fun i h => ⟨by simpa using h, by simp⟩)
  have HLT : Hid ((l.map (Tk.gt fold slash)).take l.length = l.map (Tk.gt fold slash)) := Lib.hid (by rw [List.take_of_length_le]; simp)
  generalize hLe : l.map (Tk.gt fold slash) = L at *
  clear hLe
  have HO := Lib.hid (fun t b W => rone_any fold slash t b W)
  have hlI : (l.length : Int) ≤ 2000 := by omega
  have hsI : (s.length : Int) ≤ 100000 := by omega
  have hx00 : Below w.heap.size w (w.alloc (.cells #[] 4)) := (Below.refl _ _).alloc (Nat.le_refl _) _
  have hown00 : OwnL (w.alloc (.cells #[] 4)) w.heap.size (.slice (some ⟨w.heap.size, 0, none⟩) 0 0) (endsK (freeG slash) [] s 0) := World.ownsRow_lit w #[] 0 (Nat.le_refl _) (by decide) rfl
  have HX := Lib.hid hown00
  clear hown00
  go_enter Tryd.func53, Tryd.ntmps53
  go_wp2_with fail
  go_loopw [9, 10] (fun v9 v10 wr => ∃ i : Nat, v10 = .int .i64 i ∧ i ≤ s.length + 1 ∧ OwnL wr w.heap.size v9 (endsK (freeG slash) [] s i) ∧ Below w.heap.size w wr) (fun _ v10 _ => s.length + 1 - (intOf v10).toNat)
  case atStart => exact ⟨0, rfl, Nat.zero_le _, HX.out, hx00⟩
  case round =>
    obtain ⟨i, rfl, hi, hown, hb⟩ := hrel
    clear HX hx00
    by_cases hlt : i < s.length + 1
    · have hiI : (i : Int) ≤ (s.length : Int) := by omega
      have hq : ((i : Int) == 0) = matchG (freeG slash) [] (s.take i) := by
        rw [none_iff]
        by_cases h0 : i = 0
        · subst h0; rfl
        · rw [beq_eq_false_iff_ne.2 (by omega)]
          cases hst : s.take i with
          | nil => have := congrArg List.length hst; rw [List.length_take, List.length_nil] at this; omega
          | cons x y => rfl
      have Hsn := Lib.hid (endsK_succ (freeG slash) [] s i)
      have hol : (endsK (freeG slash) [] s i).length ≤ 1000000000 := by rw [endsK_len]; omega
      generalize matchG (freeG slash) [] (s.take i) = bb at *
      generalize endsK (freeG slash) [] s i = ee at *
      have hbase := hb.size
      obtain ⟨a9, c9, rfl⟩ := hown.shape
      go_wp2_with (at_builtin; go_must (refine app_bool rfl _ _ rfl w.heap.size (.slice a9 ee.length c9) ee bb _ rfl rfl hown rfl hol hbase ?_); intro v3 w3 hown3 hb3 hg3)
      go_roundw
      case rel => exact ⟨i + 1, by go_num, by omega, by rw [Hsn.out]; exact hown3, hb.trans hb3⟩
      case measure => simp [intOf] <;> omega
    · have hii : i = s.length + 1 := by omega
      subst hii
      have hiI : ¬ ((s.length : Int) + 1) ≤ (s.length : Int) := by omega
      obtain ⟨wz, rfl⟩ : ∃ wz : World, wz = wr := ⟨_, rfl⟩
      go_wp2_with fail
      go_loopw [9, 11] (fun v9 v11 wr => ∃ k : Nat, v11 = .int .i64 k ∧ k ≤ l.length ∧ OwnL wr w.heap.size v9 (endsK (freeG slash) (L.take k) s (s.length + 1)) ∧ Below w.heap.size w wr) (fun _ v11 _ => l.length - (intOf v11).toNat)
      case atStart => exact ⟨0, rfl, Nat.zero_le _, hown, hb⟩
      case round =>
        clear hown hb
        obtain ⟨k, rfl, hk, hown, hb⟩ := hrel
        by_cases hkl : k < l.length
        · have hkI : (k : Int) < (l.length : Int) := by omega
          obtain ⟨bl, off, rfl, hbw, hcell⟩ := hrow (by omega)
          obtain ⟨hLk, hLi⟩ := HL.out k hkl
          have tc : ∀ j u, (l[k]).rcells[j]? = some u → wr.cell? ⟨bl, off + k * 3 + j, none⟩ = some u := fun j u h => (hb.cell (p := ⟨bl, off + k * 3 + j, none⟩) hbw).trans (hcell k hkl j u h)
          clear hcell hrow
          generalize l[k] = t at *
          obtain ⟨gn, cn, rfl, hgb, hgw, hnow⟩ := hown.at' (by rw [endsK_len]; omega)
          have HNOW : Hid (∀ j (hj : j < s.length + 1), wr.cell? ⟨gn, j, none⟩ = some (.bool (matchG (freeG slash) (L.take k) (s.take j)))) := Lib.hid (fun j hj => by have h := hnow j (by rw [endsK_len]; exact hj); rw [endsK_at] at h; exact h)
          have hbz : bl < wr.heap.size := Nat.lt_of_lt_of_le hbw hb.size
          obtain ⟨wo, rfl⟩ : ∃ wo : World, wo = wr := ⟨_, rfl⟩
          have hx00 : Below wo.heap.size wo (wo.alloc (.cells #[] 4)) := (Below.refl _ _).alloc (Nat.le_refl _) _
          have HX : Hid (OwnL (wo.alloc (.cells #[] 4)) wo.heap.size (.slice (some ⟨wo.heap.size, 0, none⟩) 0 0) (endsK (freeG slash) (L.take (k + 1)) s 0)) := Lib.hid (World.ownsRow_lit wo #[] 0 (Nat.le_refl _) (by decide) rfl)
          rw [endsK_len]
          clear hnow hown
          go_wp2_with fail
          go_loopw [12, 13] (fun v12 v13 wr => ∃ i : Nat, v13 = .int .i64 i ∧ i ≤ s.length + 1 ∧ OwnL wr wo.heap.size v12 (endsK (freeG slash) (L.take (k + 1)) s i) ∧ Below wo.heap.size wo wr) (fun _ v13 _ => s.length + 1 - (intOf v13).toNat)
          case atStart => exact ⟨0, rfl, Nat.zero_le _, HX.out, hx00⟩
          case round =>
            obtain ⟨i, rfl, hi, hown, hbi⟩ := hrel
            clear HX hx00
            have hbase := hbi.size
            have hol : (endsK (freeG slash) (L.take (k + 1)) s i).length ≤ 1000000000 := by rw [endsK_len]; omega
            by_cases hlt : i < s.length + 1
            · have hiI : (i : Int) ≤ (s.length : Int) := by omega
              have t0 : wr.cell? ⟨bl, off + k * 3, none⟩ = some (.int .i64 t.kind) := (hbi.cell (p := ⟨bl, off + k * 3, none⟩) hbz).trans (tc 0 _ rfl)
              have Hsn := Lib.hid (endsK_succ (freeG slash) (L.take (k + 1)) s i)
              by_cases h4 : t.kind = 4
              · rw [h4] at t0
                have hst := hLi.trans (gt_is_star fold slash t h4)
                have n0 : wr.cell? ⟨gn, i, none⟩ = some (.bool (matchG (freeG slash) (L.take k) (s.take i))) := (hbi.cell (p := ⟨gn, i, none⟩) hgw).trans (HNOW.out i hlt)
                rcases Nat.eq_zero_or_pos i with h0 | h0
                · subst h0
                  have HZ := Lib.hid (next_star_nil (freeG slash) L s k hLk hst)
                  generalize matchG (freeG slash) (L.take (k + 1)) (s.take 0) = z at *
                  generalize matchG (freeG slash) (L.take k) (s.take 0) = x at *
                  generalize endsK (freeG slash) (L.take (k + 1)) s 0 = ee at *
                  obtain ⟨a9, c9, rfl⟩ := hown.shape
                  clear tc HNOW hst hLi
                  cases x
                  all_goals
                    go_wp2_with (at_builtin; go_must (refine app_bool rfl _ _ rfl wo.heap.size (.slice a9 ee.length c9) ee _ _ rfl rfl hown rfl hol hbase ?_); intro v3 w3 hown3 hb3 hg3)
                    go_roundw
                    case rel => exact ⟨0 + 1, by go_num, by omega, by rw [Hsn.out, HZ.out]; exact hown3, hbi.trans hb3⟩
                    case measure => simp [intOf] <;> omega
                · obtain ⟨j, rfl⟩ : ∃ j, i = j + 1 := ⟨i - 1, by omega⟩
                  obtain ⟨g2, c2, rfl, hg2, hg2w, hnx⟩ := hown.at' (by rw [endsK_len]; omega)
                  have y0 : wr.cell? ⟨g2, j, none⟩ = some (.bool (matchG (freeG slash) (L.take (k + 1)) (s.take j))) := by have h := hnx j (by rw [endsK_len]; omega); rw [endsK_at] at h; exact h
                  have hjs : j < (S s).size := by rw [S_size]; omega
                  have hjI : (j : Int) < (s.length : Int) := by omega
                  have HZ : Hid (matchG (freeG slash) (L.take (k + 1)) (s.take (j + 1)) = (matchG (freeG slash) (L.take k) (s.take (j + 1)) || ((slash || ((S s)[j]'hjs != 47)) && matchG (freeG slash) (L.take (k + 1)) (s.take j)))) := Lib.hid (next_star (freeG slash) L s k j hLk hst (by omega))
                  have hu : ((((S s)[j]'hjs).toNat : Int) != 47) = ((S s)[j]'hjs != 47) := by
                    by_cases h : (S s)[j]'hjs = 47
                    · rw [h]; rfl
                    · rw [byte_bne _ 47 47 rfl h]; simp [h]
                  have hel := endsK_len (freeG slash) (L.take (k + 1)) s (j + 1)
                  rw [hel] at hown
                  clear hnx
                  generalize ((S s)[j]'hjs != 47) = u at *
                  generalize matchG (freeG slash) (L.take (k + 1)) (s.take (j + 1)) = z at *
                  generalize matchG (freeG slash) (L.take (k + 1)) (s.take j) = y at *
                  generalize matchG (freeG slash) (L.take k) (s.take (j + 1)) = x at *
                  generalize endsK (freeG slash) (L.take (k + 1)) s (j + 1) = ee at *
                  clear tc HNOW hst hLi
                  have hee := Lib.hid hel
                  clear hel
                  rw [hee.out]
                  cases x
                  · cases y
                    · go_wp2_with (at_builtin; go_must (refine app_bool rfl _ _ rfl wo.heap.size (.slice (some ⟨g2, 0, none⟩) (j + 1) c2) ee _ _ rfl rfl hown rfl hol hbase ?_); intro v3 w3 hown3 hb3 hg3)
                      go_roundw
                      case rel => exact ⟨j + 1 + 1, by go_num, by omega, by rw [Hsn.out, HZ.out]; cases slash <;> cases u <;> exact hown3, hbi.trans hb3⟩
                      case measure => simp [intOf] <;> omega
                    · cases slash
                      · cases u
                        all_goals
                          go_wp2_with (at_builtin; go_must (refine app_bool rfl _ _ rfl wo.heap.size (.slice (some ⟨g2, 0, none⟩) (j + 1) c2) ee _ _ rfl rfl hown rfl hol hbase ?_); intro v3 w3 hown3 hb3 hg3)
                          go_roundw
                          case rel => exact ⟨j + 1 + 1, by go_num, by omega, by rw [Hsn.out, HZ.out]; exact hown3, hbi.trans hb3⟩
                          case measure => simp [intOf] <;> omega
                      · go_wp2_with (at_builtin; go_must (refine app_bool rfl _ _ rfl wo.heap.size (.slice (some ⟨g2, 0, none⟩) (j + 1) c2) ee _ _ rfl rfl hown rfl hol hbase ?_); intro v3 w3 hown3 hb3 hg3)
                        go_roundw
                        case rel => exact ⟨j + 1 + 1, by go_num, by omega, by rw [Hsn.out, HZ.out]; exact hown3, hbi.trans hb3⟩
                        case measure => simp [intOf] <;> omega
                  · go_wp2_with (at_builtin; go_must (refine app_bool rfl _ _ rfl wo.heap.size (.slice (some ⟨g2, 0, none⟩) (j + 1) c2) ee _ _ rfl rfl hown rfl hol hbase ?_); intro v3 w3 hown3 hb3 hg3)
                    go_roundw
                    case rel => exact ⟨j + 1 + 1, by go_num, by omega, by rw [Hsn.out, HZ.out]; exact hown3, hbi.trans hb3⟩
                    case measure => simp [intOf] <;> omega
              · have hst := hLi.trans (gt_one fold slash t h4)
                have hk4 : (t.kind == 4) = false := beq_eq_false_iff_ne.2 h4
                have hbw0 : Below wo.heap.size wo wr.drew := hbi.drew
                have hown0 : OwnL wr.drew wo.heap.size _ (endsK (freeG slash) (L.take (k + 1)) s i) := hown
                rcases Nat.eq_zero_or_pos i with h0 | h0
                · subst h0
                  have HZ := Lib.hid (next_one_nil (freeG slash) L s k hLk _ hst)
                  generalize matchG (freeG slash) (L.take (k + 1)) (s.take 0) = z at *
                  generalize endsK (freeG slash) (L.take (k + 1)) s 0 = ee at *
                  clear tc HNOW hst hLi
                  obtain ⟨a9, c9, rfl⟩ := hown.shape
                  have h00 : ((0 : Nat) : Int) = 0 := rfl
                  simp only [h00]
                  clear h00
                  go_upto_region 15 with fail
                  refine wp_region_noPanic ?_
                  refine wp_region_held_drew (S := (fun w' => Below wo.heap.size wo w')) (by kernel_rfl) (hbw0) (fun hHeld => ?_)
                  refine wpAnyH_take (i := 0) (v := ?_) rfl (by kernel_rfl) (by kernel_rfl) (by kernel_rfl) (fun _ _ _ h => h) (Or.inl ⟨by rfl, ?_⟩) (by assumption) ?_
                  rotate_left
                  focus (intro w' hSw; (try dsimp only at hSw); go_simp; first | done | with_reducible rfl)
                  try simp only [Act.put, List.getElem_toArray, List.getElem_cons_zero, List.setIfInBounds_toArray, List.set_cons_zero, List.set_cons_succ]
                  refine wpAnyH_take (i := 1) (v := ?_) rfl (by kernel_rfl) (by kernel_rfl) (by kernel_rfl) (fun _ _ _ h => h) (Or.inl ⟨by rfl, ?_⟩) (by assumption) ?_
                  rotate_left
                  focus (intro w' hSw; (try dsimp only at hSw); go_simp; first | done | with_reducible rfl)
                  try simp only [Act.put, List.getElem_toArray, List.getElem_cons_succ, List.getElem_cons_zero, List.setIfInBounds_toArray, List.set_cons_zero, List.set_cons_succ]
                  refine wpAnyH_take (i := 2) (v := ?_) rfl (by kernel_rfl) (by kernel_rfl) (by kernel_rfl) (fun _ _ _ h => h) (Or.inl ⟨by rfl, ?_⟩) (by assumption) ?_
                  rotate_left
                  focus (intro w' hSw; (try dsimp only at hSw); go_simp; first | done | with_reducible rfl)
                  try simp only [Act.put, List.getElem_toArray, List.getElem_cons_succ, List.getElem_cons_zero, List.setIfInBounds_toArray, List.set_cons_zero, List.set_cons_succ]
                  refine wpAnyH_take (i := 3) (v := ?_) rfl (by kernel_rfl) (by kernel_rfl) (by kernel_rfl) (fun _ _ _ h => h) (Or.inl ⟨by rfl, ?_⟩) (by assumption) ?_
                  rotate_left
                  focus (intro w' hSw; (try dsimp only at hSw); go_simp; first | done | with_reducible rfl)
                  try simp only [Act.put, List.getElem_toArray, List.getElem_cons_succ, List.getElem_cons_zero, List.setIfInBounds_toArray, List.set_cons_zero, List.set_cons_succ]
                  refine wpAnyH_take (i := 4) (v := undef) rfl (by kernel_rfl) (by kernel_rfl) (by kernel_rfl) (fun _ _ _ h => h) (Or.inr ⟨by rfl, rfl⟩) (by assumption) ?_
                  try simp only [Act.put, List.getElem_toArray, List.getElem_cons_succ, List.getElem_cons_zero, List.setIfInBounds_toArray, List.set_cons_zero, List.set_cons_succ]
                  refine wpAnyH_take (i := 5) (v := undef) rfl (by kernel_rfl) (by kernel_rfl) (by kernel_rfl) (fun _ _ _ h => h) (Or.inr ⟨by rfl, rfl⟩) (by assumption) ?_
                  try simp only [Act.put, List.getElem_toArray, List.getElem_cons_succ, List.getElem_cons_zero, List.setIfInBounds_toArray, List.set_cons_zero, List.set_cons_succ]
                  refine wpAnyH_take (i := 6) (v := undef) rfl (by kernel_rfl) (by kernel_rfl) (by kernel_rfl) (fun _ _ _ h => h) (Or.inr ⟨by rfl, rfl⟩) (by assumption) ?_
                  try simp only [Act.put, List.getElem_toArray, List.getElem_cons_succ, List.getElem_cons_zero, List.setIfInBounds_toArray, List.set_cons_zero, List.set_cons_succ]
                  refine wpAnyH_take (i := 7) (v := undef) rfl (by kernel_rfl) (by kernel_rfl) (by kernel_rfl) (fun _ _ _ h => h) (Or.inr ⟨by rfl, rfl⟩) (by assumption) ?_
                  try simp only [Act.put, List.getElem_toArray, List.getElem_cons_succ, List.getElem_cons_zero, List.setIfInBounds_toArray, List.set_cons_zero, List.set_cons_succ]
                  refine wpAnyH_take (i := 8) (v := undef) rfl (by kernel_rfl) (by kernel_rfl) (by kernel_rfl) (fun _ _ _ h => h) (Or.inr ⟨by rfl, rfl⟩) (by assumption) ?_
                  try simp only [Act.put, List.getElem_toArray, List.getElem_cons_succ, List.getElem_cons_zero, List.setIfInBounds_toArray, List.set_cons_zero, List.set_cons_succ]
                  refine wpAnyH_take (i := 9) (v := ?_) rfl (by kernel_rfl) (by kernel_rfl) (by kernel_rfl) (fun _ _ _ h => h) (Or.inl ⟨by rfl, ?_⟩) (by assumption) ?_
                  rotate_left
                  focus (intro w' hSw; (try dsimp only at hSw); go_simp; first | done | with_reducible rfl)
                  try simp only [Act.put, List.getElem_toArray, List.getElem_cons_succ, List.getElem_cons_zero, List.setIfInBounds_toArray, List.set_cons_zero, List.set_cons_succ]
                  refine wpAnyH_take (i := 10) (v := ?_) rfl (by kernel_rfl) (by kernel_rfl) (by kernel_rfl) (fun _ _ _ h => h) (Or.inl ⟨by rfl, ?_⟩) (by assumption) ?_
                  rotate_left
                  focus (intro w' hSw; (try dsimp only at hSw); go_simp; first | done | with_reducible rfl)
                  try simp only [Act.put, List.getElem_toArray, List.getElem_cons_succ, List.getElem_cons_zero, List.setIfInBounds_toArray, List.set_cons_zero, List.set_cons_succ]
                  refine wpAnyH_take (i := 11) (v := undef) rfl (by kernel_rfl) (by kernel_rfl) (by kernel_rfl) (fun _ _ _ h => h) (Or.inr ⟨by rfl, rfl⟩) (by assumption) ?_
                  try simp only [Act.put, List.getElem_toArray, List.getElem_cons_succ, List.getElem_cons_zero, List.setIfInBounds_toArray, List.set_cons_zero, List.set_cons_succ]
                  refine wpAnyH_take (i := 12) (v := undef) rfl (by kernel_rfl) (by kernel_rfl) (by kernel_rfl) (fun _ _ _ h => h) (Or.inr ⟨by rfl, rfl⟩) (by assumption) ?_
                  try simp only [Act.put, List.getElem_toArray, List.getElem_cons_succ, List.getElem_cons_zero, List.setIfInBounds_toArray, List.set_cons_zero, List.set_cons_succ]
                  refine wpAnyH_take (i := 13) (v := undef) rfl (by kernel_rfl) (by kernel_rfl) (by kernel_rfl) (fun _ _ _ h => h) (Or.inr ⟨by rfl, rfl⟩) (by assumption) ?_
                  try simp only [Act.put, List.getElem_toArray, List.getElem_cons_succ, List.getElem_cons_zero, List.setIfInBounds_toArray, List.set_cons_zero, List.set_cons_succ]
                  refine wpAnyH_take (i := 14) (v := undef) rfl (by kernel_rfl) (by kernel_rfl) (by kernel_rfl) (fun _ _ _ h => h) (Or.inr ⟨by rfl, rfl⟩) (by assumption) ?_
                  try simp only [Act.put, List.getElem_toArray, List.getElem_cons_succ, List.getElem_cons_zero, List.setIfInBounds_toArray, List.set_cons_zero, List.set_cons_succ]
                  refine wpAnyH_take (i := 15) (v := undef) rfl (by kernel_rfl) (by kernel_rfl) (by kernel_rfl) (fun _ _ _ h => h) (Or.inr ⟨by rfl, rfl⟩) (by assumption) ?_
                  try simp only [Act.put, List.getElem_toArray, List.getElem_cons_succ, List.getElem_cons_zero, List.setIfInBounds_toArray, List.set_cons_zero, List.set_cons_succ]
                  refine wpAnyH_take (i := 16) (v := undef) rfl (by kernel_rfl) (by kernel_rfl) (by kernel_rfl) (fun _ _ _ h => h) (Or.inr ⟨by rfl, rfl⟩) (by assumption) ?_
                  try simp only [Act.put, List.getElem_toArray, List.getElem_cons_succ, List.getElem_cons_zero, List.setIfInBounds_toArray, List.set_cons_zero, List.set_cons_succ]
                  refine wpAnyH_take (i := 17) (v := undef) rfl (by kernel_rfl) (by kernel_rfl) (by kernel_rfl) (fun _ _ _ h => h) (Or.inr ⟨by rfl, rfl⟩) (by assumption) ?_
                  try simp only [Act.put, List.getElem_toArray, List.getElem_cons_succ, List.getElem_cons_zero, List.setIfInBounds_toArray, List.set_cons_zero, List.set_cons_succ]
                  refine wpAnyH_take (i := 18) (v := undef) rfl (by kernel_rfl) (by kernel_rfl) (by kernel_rfl) (fun _ _ _ h => h) (Or.inr ⟨by rfl, rfl⟩) (by assumption) ?_
                  try simp only [Act.put, List.getElem_toArray, List.getElem_cons_succ, List.getElem_cons_zero, List.setIfInBounds_toArray, List.set_cons_zero, List.set_cons_succ]
                  refine wpAnyH_take (i := 19) (v := undef) rfl (by kernel_rfl) (by kernel_rfl) (by kernel_rfl) (fun _ _ _ h => h) (Or.inr ⟨by rfl, rfl⟩) (by assumption) ?_
                  try simp only [Act.put, List.getElem_toArray, List.getElem_cons_succ, List.getElem_cons_zero, List.setIfInBounds_toArray, List.set_cons_zero, List.set_cons_succ]
                  refine wpAnyH_take (i := 20) (v := undef) rfl (by kernel_rfl) (by kernel_rfl) (by kernel_rfl) (fun _ _ _ h => h) (Or.inr ⟨by rfl, rfl⟩) (by assumption) ?_
                  try simp only [Act.put, List.getElem_toArray, List.getElem_cons_succ, List.getElem_cons_zero, List.setIfInBounds_toArray, List.set_cons_zero, List.set_cons_succ]
                  refine wpAnyH_take (i := 21) (v := undef) rfl (by kernel_rfl) (by kernel_rfl) (by kernel_rfl) (fun _ _ _ h => h) (Or.inr ⟨by rfl, rfl⟩) (by assumption) ?_
                  try simp only [Act.put, List.getElem_toArray, List.getElem_cons_succ, List.getElem_cons_zero, List.setIfInBounds_toArray, List.set_cons_zero, List.set_cons_succ]
                  refine wpAnyH_take (i := 22) (v := ?_) rfl (by kernel_rfl) (by kernel_rfl) (by kernel_rfl) (fun _ _ _ h => h) (Or.inl ⟨by rfl, ?_⟩) (by assumption) ?_
                  rotate_left
                  focus (intro w' hSw; (try dsimp only at hSw); go_simp; first | done | with_reducible rfl)
                  try simp only [Act.put, List.getElem_toArray, List.getElem_cons_succ, List.getElem_cons_zero, List.setIfInBounds_toArray, List.set_cons_zero, List.set_cons_succ]
                  refine wpAnyH_ready (rs := [23]) (by kernel_rfl) (by simp) ?_
                  refine AllReadyH.cons rfl (fun K1 hK1 => ?_) AllReadyH.nil
                  go_simp
                  refine hK1.out _ _ (hbw0.alloc hbw0.size _) (fun hHeld1 => ?_)
                  clear hK1
                  try simp only [Act.put, List.getElem_toArray, List.getElem_cons_succ, List.getElem_cons_zero, List.setIfInBounds_toArray, List.set_cons_zero, List.set_cons_succ]
                  refine wpAnyH_ready (rs := [24]) (by kernel_rfl) (by simp) ?_
                  refine AllReadyH.cons rfl (fun K2 hK2 => ?_) AllReadyH.nil
                  refine step_app_bool (by rfl) (.tmp 73) (.tmp 96) (by rfl) wo.heap.size (.slice a9 ee.length c9) ee false (by rfl) (hown0.alloc _) _ (by rfl) (cells_row _ _ _ _ rfl) hol (by simp; omega) ?_; intro v4 w4 hown4 hb4 hg4; have hbw2 := (hbw0.alloc hbw0.size _).trans hb4
                  refine hK2.out _ _ (hbw2) (fun hHeld2 => ?_)
                  clear hK2
                  try simp only [Act.put, List.getElem_toArray, List.getElem_cons_succ, List.getElem_cons_zero, List.setIfInBounds_toArray, List.set_cons_zero, List.set_cons_succ]
                  refine wpAnyH_take (i := 25) (v := ?_) rfl (by kernel_rfl) (by kernel_rfl) (by kernel_rfl) (fun _ _ _ h => h) (Or.inl ⟨by rfl, ?_⟩) (by assumption) ?_
                  rotate_left
                  focus (intro w' hSw; (try dsimp only at hSw); go_simp; first | done | with_reducible rfl)
                  try simp only [Act.put, List.getElem_toArray, List.getElem_cons_succ, List.getElem_cons_zero, List.setIfInBounds_toArray, List.set_cons_zero, List.set_cons_succ]
                  refine wpAnyH_done (by kernel_rfl) ?_ _
                  refine NoPanic.normal ?_
                  go_wp2_with fail
                  go_roundw
                  case rel => exact ⟨0 + 1, by first | rfl | go_num, by omega, by rw [Hsn.out, HZ.out]; exact hown4, hbw2⟩
                  case measure => simp [intOf]
                · obtain ⟨j, rfl⟩ : ∃ j, i = j + 1 := ⟨i - 1, by omega⟩
                  have hjs : j < (S s).size := by rw [S_size]; omega
                  have hjI : (j : Int) < (s.length : Int) := by omega
                  have HZ : Hid (matchG (freeG slash) (L.take (k + 1)) (s.take (j + 1)) = (matchG (freeG slash) (L.take k) (s.take j) && oneG fold slash t ((S s)[j]'hjs))) := Lib.hid (next_one (freeG slash) L s k j hLk _ hst (by omega))
                  have HK : Hid (∀ w3, Below wo.heap.size wo w3 → w3.cell? ⟨gn, j, none⟩ = some (.bool (matchG (freeG slash) (L.take k) (s.take j))) ∧ w3.cell? ⟨bl, off + k * 3, none⟩ = some (.int .i64 t.kind) ∧ w3.cell? ⟨bl, off + k * 3 + 1, none⟩ = some (.int .u8 t.b.toNat) ∧ w3.cell? ⟨bl, off + k * 3 + 2, none⟩ = some (.string (S t.txt))) := Lib.hid (fun w3 h3 => ⟨(h3.cell (p := ⟨gn, j, none⟩) hgw).trans (HNOW.out j (by omega)), (h3.cell (p := ⟨bl, off + k * 3, none⟩) hbz).trans (tc 0 _ rfl), (h3.cell (p := ⟨bl, off + k * 3 + 1, none⟩) hbz).trans (tc 1 _ rfl), (h3.cell (p := ⟨bl, off + k * 3 + 2, none⟩) hbz).trans (tc 2 _ rfl)⟩)
                  have HO1 : Hid (∀ W, Calls Tryd.prog 68 #[.agg #[.int .i64 t.kind, .int .u8 t.b.toNat, .string (S t.txt)], .bool fold, .bool slash, .int .u8 ((S s)[j]'hjs).toNat] W fun e w' => e = .returned (.bool (oneG fold slash t ((S s)[j]'hjs))) ∧ Below W.heap.size W w') := Lib.hid (fun W => HO.out t _ W)
                  generalize oneG fold slash t ((S s)[j]'hjs) = q at *
                  generalize matchG (freeG slash) (L.take (k + 1)) (s.take (j + 1)) = z at *
                  generalize matchG (freeG slash) (L.take k) (s.take j) = x at *
                  generalize endsK (freeG slash) (L.take (k + 1)) s (j + 1) = ee at *
                  have hj0 : decide ((0 : Int) < (j : Int) + 1) = true := decide_eq_true (by omega)
                  obtain ⟨a9, c9, rfl⟩ := hown.shape
                  have hjI2 : (j : Int) < (s.length : Int) + 1 := by omega
                  have hjI0 : (0 : Int) ≤ (j : Int) := by omega
                  have e2 : IntKind.i64.wrap (j : Int) = (j : Int) := IntWalk.i64_in _ (by omega)
                  have e1 : IntKind.i64.wrap ((j : Int) + 1 - 1) = (j : Int) := by rw [show (j : Int) + 1 - 1 = (j : Int) by omega]; exact IntWalk.i64_in _ (by omega)
                  clear tc HNOW hst hLi
                  cases x
                  · go_upto_region 15 with fail
                    refine wp_region_noPanic ?_
                    refine wp_region_held_drew (S := (fun w' => w'.cell? ⟨gn, j, none⟩ = some (.bool false) ∧ w'.cell? ⟨bl, off + k * 3, none⟩ = some (.int .i64 t.kind) ∧ w'.cell? ⟨bl, off + k * 3 + 1, none⟩ = some (.int .u8 t.b.toNat) ∧ w'.cell? ⟨bl, off + k * 3 + 2, none⟩ = some (.string (S t.txt)))) (by kernel_rfl) (HK.out _ hbw0) (fun hHeld => ?_)
                    refine wpAnyH_take (i := 0) (v := ?_) rfl (by kernel_rfl) (by kernel_rfl) (by kernel_rfl) (fun _ _ _ h => h) (Or.inl ⟨by rfl, ?_⟩) (by assumption) ?_
                    rotate_left
                    focus (intro w' hSw; (try dsimp only at hSw); go_simp; first | done | with_reducible rfl)
                    try simp only [Act.put, List.getElem_toArray, List.getElem_cons_zero, List.setIfInBounds_toArray, List.set_cons_zero, List.set_cons_succ]
                    refine wpAnyH_take (i := 1) (v := ?_) rfl (by kernel_rfl) (by kernel_rfl) (by kernel_rfl) (fun _ _ _ h => h) (Or.inl ⟨by rfl, ?_⟩) (by assumption) ?_
                    rotate_left
                    focus (intro w' hSw; (try dsimp only at hSw); go_simp; first | done | with_reducible rfl)
                    try simp only [Act.put, List.getElem_toArray, List.getElem_cons_succ, List.getElem_cons_zero, List.setIfInBounds_toArray, List.set_cons_zero, List.set_cons_succ]
                    refine wpAnyH_take (i := 2) (v := ?_) rfl (by kernel_rfl) (by kernel_rfl) (by kernel_rfl) (fun _ _ _ h => h) (Or.inl ⟨by rfl, ?_⟩) (by assumption) ?_
                    rotate_left
                    focus (intro w' hSw; (try dsimp only at hSw); go_simp; first | done | with_reducible rfl)
                    try simp only [Act.put, List.getElem_toArray, List.getElem_cons_succ, List.getElem_cons_zero, List.setIfInBounds_toArray, List.set_cons_zero, List.set_cons_succ]
                    refine wpAnyH_take (i := 3) (v := ?_) rfl (by kernel_rfl) (by kernel_rfl) (by kernel_rfl) (fun _ _ _ h => h) (Or.inl ⟨by rfl, ?_⟩) (by assumption) ?_
                    rotate_left
                    focus (intro w' hSw; (try dsimp only at hSw); go_simp; first | done | with_reducible rfl)
                    try simp only [Act.put, List.getElem_toArray, List.getElem_cons_succ, List.getElem_cons_zero, List.setIfInBounds_toArray, List.set_cons_zero, List.set_cons_succ]
                    refine wpAnyH_take (i := 4) (v := ?_) rfl (by kernel_rfl) (by kernel_rfl) (by kernel_rfl) (fun _ _ _ h => h) (Or.inl ⟨by rfl, ?_⟩) (by assumption) ?_
                    rotate_left
                    focus (intro w' hSw; (try dsimp only at hSw); go_simp; first | done | with_reducible rfl)
                    try simp only [Act.put, List.getElem_toArray, List.getElem_cons_succ, List.getElem_cons_zero, List.setIfInBounds_toArray, List.set_cons_zero, List.set_cons_succ]
                    refine wpAnyH_take (i := 5) (v := ?_) rfl (by kernel_rfl) (by kernel_rfl) (by kernel_rfl) (fun _ _ _ h => h) (Or.inl ⟨by rfl, ?_⟩) (by assumption) ?_
                    rotate_left
                    focus (intro w' hSw; (try dsimp only at hSw); go_simp; first | done | with_reducible rfl)
                    try simp only [Act.put, List.getElem_toArray, List.getElem_cons_succ, List.getElem_cons_zero, List.setIfInBounds_toArray, List.set_cons_zero, List.set_cons_succ]
                    refine wpAnyH_take (i := 6) (v := ?_) rfl (by kernel_rfl) (by kernel_rfl) (by kernel_rfl) (fun _ _ _ h => h) (Or.inl ⟨by rfl, ?_⟩) (by assumption) ?_
                    rotate_left
                    focus (intro w' hSw; (try dsimp only at hSw); go_simp; first | done | with_reducible rfl)
                    try simp only [Act.put, List.getElem_toArray, List.getElem_cons_succ, List.getElem_cons_zero, List.setIfInBounds_toArray, List.set_cons_zero, List.set_cons_succ]
                    refine wpAnyH_take (i := 7) (v := ?_) rfl (by kernel_rfl) (by kernel_rfl) (by kernel_rfl) (fun _ _ _ h => h) (Or.inl ⟨by rfl, ?_⟩) (by assumption) ?_
                    rotate_left
                    focus (intro w' hSw; (try dsimp only at hSw); go_simp; first | done | with_reducible rfl)
                    try simp only [Act.put, List.getElem_toArray, List.getElem_cons_succ, List.getElem_cons_zero, List.setIfInBounds_toArray, List.set_cons_zero, List.set_cons_succ]
                    refine wpAnyH_take (i := 8) (v := ?_) rfl (by kernel_rfl) (by kernel_rfl) (by kernel_rfl) (fun _ _ _ h => h) (Or.inl ⟨by rfl, ?_⟩) (by assumption) ?_
                    rotate_left
                    focus (intro w' hSw; (try dsimp only at hSw); go_simp; first | done | with_reducible rfl)
                    try simp only [Act.put, List.getElem_toArray, List.getElem_cons_succ, List.getElem_cons_zero, List.setIfInBounds_toArray, List.set_cons_zero, List.set_cons_succ]
                    refine wpAnyH_take (i := 9) (v := ?_) rfl (by kernel_rfl) (by kernel_rfl) (by kernel_rfl) (fun _ _ _ h => h) (Or.inl ⟨by rfl, ?_⟩) (by assumption) ?_
                    rotate_left
                    focus (intro w' hSw; (try dsimp only at hSw); go_simp; first | done | with_reducible rfl)
                    try simp only [Act.put, List.getElem_toArray, List.getElem_cons_succ, List.getElem_cons_zero, List.setIfInBounds_toArray, List.set_cons_zero, List.set_cons_succ]
                    refine wpAnyH_take (i := 10) (v := ?_) rfl (by kernel_rfl) (by kernel_rfl) (by kernel_rfl) (fun _ _ _ h => h) (Or.inl ⟨by rfl, ?_⟩) (by assumption) ?_
                    rotate_left
                    focus (intro w' hSw; (try dsimp only at hSw); go_simp; first | done | with_reducible rfl)
                    try simp only [Act.put, List.getElem_toArray, List.getElem_cons_succ, List.getElem_cons_zero, List.setIfInBounds_toArray, List.set_cons_zero, List.set_cons_succ]
                    refine wpAnyH_take (i := 11) (v := undef) rfl (by kernel_rfl) (by kernel_rfl) (by kernel_rfl) (fun _ _ _ h => h) (Or.inr ⟨by rfl, rfl⟩) (by assumption) ?_
                    try simp only [Act.put, List.getElem_toArray, List.getElem_cons_succ, List.getElem_cons_zero, List.setIfInBounds_toArray, List.set_cons_zero, List.set_cons_succ]
                    refine wpAnyH_take (i := 12) (v := undef) rfl (by kernel_rfl) (by kernel_rfl) (by kernel_rfl) (fun _ _ _ h => h) (Or.inr ⟨by rfl, rfl⟩) (by assumption) ?_
                    try simp only [Act.put, List.getElem_toArray, List.getElem_cons_succ, List.getElem_cons_zero, List.setIfInBounds_toArray, List.set_cons_zero, List.set_cons_succ]
                    refine wpAnyH_take (i := 13) (v := undef) rfl (by kernel_rfl) (by kernel_rfl) (by kernel_rfl) (fun _ _ _ h => h) (Or.inr ⟨by rfl, rfl⟩) (by assumption) ?_
                    try simp only [Act.put, List.getElem_toArray, List.getElem_cons_succ, List.getElem_cons_zero, List.setIfInBounds_toArray, List.set_cons_zero, List.set_cons_succ]
                    refine wpAnyH_take (i := 14) (v := undef) rfl (by kernel_rfl) (by kernel_rfl) (by kernel_rfl) (fun _ _ _ h => h) (Or.inr ⟨by rfl, rfl⟩) (by assumption) ?_
                    try simp only [Act.put, List.getElem_toArray, List.getElem_cons_succ, List.getElem_cons_zero, List.setIfInBounds_toArray, List.set_cons_zero, List.set_cons_succ]
                    refine wpAnyH_take (i := 15) (v := undef) rfl (by kernel_rfl) (by kernel_rfl) (by kernel_rfl) (fun _ _ _ h => h) (Or.inr ⟨by rfl, rfl⟩) (by assumption) ?_
                    try simp only [Act.put, List.getElem_toArray, List.getElem_cons_succ, List.getElem_cons_zero, List.setIfInBounds_toArray, List.set_cons_zero, List.set_cons_succ]
                    refine wpAnyH_take (i := 16) (v := undef) rfl (by kernel_rfl) (by kernel_rfl) (by kernel_rfl) (fun _ _ _ h => h) (Or.inr ⟨by rfl, rfl⟩) (by assumption) ?_
                    try simp only [Act.put, List.getElem_toArray, List.getElem_cons_succ, List.getElem_cons_zero, List.setIfInBounds_toArray, List.set_cons_zero, List.set_cons_succ]
                    refine wpAnyH_take (i := 17) (v := undef) rfl (by kernel_rfl) (by kernel_rfl) (by kernel_rfl) (fun _ _ _ h => h) (Or.inr ⟨by rfl, rfl⟩) (by assumption) ?_
                    try simp only [Act.put, List.getElem_toArray, List.getElem_cons_succ, List.getElem_cons_zero, List.setIfInBounds_toArray, List.set_cons_zero, List.set_cons_succ]
                    refine wpAnyH_take (i := 18) (v := undef) rfl (by kernel_rfl) (by kernel_rfl) (by kernel_rfl) (fun _ _ _ h => h) (Or.inr ⟨by rfl, rfl⟩) (by assumption) ?_
                    try simp only [Act.put, List.getElem_toArray, List.getElem_cons_succ, List.getElem_cons_zero, List.setIfInBounds_toArray, List.set_cons_zero, List.set_cons_succ]
                    refine wpAnyH_take (i := 19) (v := undef) rfl (by kernel_rfl) (by kernel_rfl) (by kernel_rfl) (fun _ _ _ h => h) (Or.inr ⟨by rfl, rfl⟩) (by assumption) ?_
                    try simp only [Act.put, List.getElem_toArray, List.getElem_cons_succ, List.getElem_cons_zero, List.setIfInBounds_toArray, List.set_cons_zero, List.set_cons_succ]
                    refine wpAnyH_take (i := 20) (v := undef) rfl (by kernel_rfl) (by kernel_rfl) (by kernel_rfl) (fun _ _ _ h => h) (Or.inr ⟨by rfl, rfl⟩) (by assumption) ?_
                    try simp only [Act.put, List.getElem_toArray, List.getElem_cons_succ, List.getElem_cons_zero, List.setIfInBounds_toArray, List.set_cons_zero, List.set_cons_succ]
                    refine wpAnyH_take (i := 21) (v := undef) rfl (by kernel_rfl) (by kernel_rfl) (by kernel_rfl) (fun _ _ _ h => h) (Or.inr ⟨by rfl, rfl⟩) (by assumption) ?_
                    try simp only [Act.put, List.getElem_toArray, List.getElem_cons_succ, List.getElem_cons_zero, List.setIfInBounds_toArray, List.set_cons_zero, List.set_cons_succ]
                    refine wpAnyH_take (i := 22) (v := ?_) rfl (by kernel_rfl) (by kernel_rfl) (by kernel_rfl) (fun _ _ _ h => h) (Or.inl ⟨by rfl, ?_⟩) (by assumption) ?_
                    rotate_left
                    focus (intro w' hSw; (try dsimp only at hSw); go_simp; first | done | with_reducible rfl)
                    try simp only [Act.put, List.getElem_toArray, List.getElem_cons_succ, List.getElem_cons_zero, List.setIfInBounds_toArray, List.set_cons_zero, List.set_cons_succ]
                    refine wpAnyH_ready (rs := [23]) (by kernel_rfl) (by simp) ?_
                    refine AllReadyH.cons rfl (fun K1 hK1 => ?_) AllReadyH.nil
                    go_simp
                    refine hK1.out _ _ (HK.out _ (hbw0.alloc hbw0.size _)) (fun hHeld1 => ?_)
                    clear hK1
                    try simp only [Act.put, List.getElem_toArray, List.getElem_cons_succ, List.getElem_cons_zero, List.setIfInBounds_toArray, List.set_cons_zero, List.set_cons_succ]
                    refine wpAnyH_ready (rs := [24]) (by kernel_rfl) (by simp) ?_
                    refine AllReadyH.cons rfl (fun K2 hK2 => ?_) AllReadyH.nil
                    refine step_app_bool (by rfl) (.tmp 73) (.tmp 96) (by rfl) wo.heap.size (.slice a9 ee.length c9) ee false (by rfl) (hown0.alloc _) _ (by rfl) (cells_row _ _ _ _ rfl) hol (by simp; omega) ?_; intro v4 w4 hown4 hb4 hg4; have hbw2 := (hbw0.alloc hbw0.size _).trans hb4
                    refine hK2.out _ _ (HK.out _ hbw2) (fun hHeld2 => ?_)
                    clear hK2
                    try simp only [Act.put, List.getElem_toArray, List.getElem_cons_succ, List.getElem_cons_zero, List.setIfInBounds_toArray, List.set_cons_zero, List.set_cons_succ]
                    refine wpAnyH_take (i := 25) (v := ?_) rfl (by kernel_rfl) (by kernel_rfl) (by kernel_rfl) (fun _ _ _ h => h) (Or.inl ⟨by rfl, ?_⟩) (by assumption) ?_
                    rotate_left
                    focus (intro w' hSw; (try dsimp only at hSw); go_simp; first | done | with_reducible rfl)
                    try simp only [Act.put, List.getElem_toArray, List.getElem_cons_succ, List.getElem_cons_zero, List.setIfInBounds_toArray, List.set_cons_zero, List.set_cons_succ]
                    refine wpAnyH_done (by kernel_rfl) ?_ _
                    refine NoPanic.normal ?_
                    go_wp2_with fail
                    go_roundw
                    case rel => exact ⟨j + 1 + 1, by go_num, by omega, by rw [Hsn.out, HZ.out]; exact hown4, hbw2⟩
                    case measure => simp [intOf] <;> omega
                  · go_upto_region 15 with fail
                    go_region_held3 (fun w' => w'.cell? ⟨gn, j, none⟩ = some (.bool true) ∧ w'.cell? ⟨bl, off + k * 3, none⟩ = some (.int .i64 t.kind) ∧ w'.cell? ⟨bl, off + k * 3 + 1, none⟩ = some (.int .u8 t.b.toNat) ∧ w'.cell? ⟨bl, off + k * 3 + 2, none⟩ = some (.string (S t.txt))) (first | exact HK.out _ hbw2 | exact HK.out _ hbw1 | exact HK.out _ (hbw1.alloc hbw1.size _) | exact HK.out _ hbw0) (first
                      | (go_at_call 68; refine (HO1.out _).mono ?_; rintro e w3 ⟨rfl, hb3⟩; have hb3' := ((Below.refl wr.heap.size wr).drew).trans hb3; have hbw1 := hbi.trans (hb3'.mono hbi.size); have hown1 := hown.below hb3' (Nat.le_refl _))
                      | (refine step_app_bool rfl (.tmp 73) (.tmp 96) rfl wo.heap.size (.slice a9 ee.length c9) ee q rfl (hown1.alloc _) _ rfl (cells_row _ _ _ _ rfl) hol (by simp; have := hbw1.size; omega) ?_; intro v4 w4 hown4 hb4 hg4; have hbw2 := (hbw1.alloc hbw1.size _).trans hb4))
                    go_wp2_with fail
                    go_roundw
                    case rel => exact ⟨j + 1 + 1, by go_num, by omega, by rw [Hsn.out, HZ.out]; exact hown4, hbw2⟩
                    case measure => simp [intOf] <;> omega
            · have hii : i = s.length + 1 := by omega
              subst hii
              have hiI : ¬ ((s.length : Int) + 1) ≤ (s.length : Int) := by omega
              go_wp2_with fail
              go_roundw
              case rel => exact ⟨k + 1, by go_num, hkl, hown.rebase hb.size, hb.trans (hbi.mono hb.size)⟩
              case measure => simp [intOf] <;> omega
        · have hkk : k = l.length := by omega
          subst hkk
          have hkI : ¬ (l.length : Int) < (l.length : Int) := by omega
          rw [HLT.out] at hown
          go_wp2_with fail
          go_ret
          exact ⟨_, rfl, hown, hb⟩
end Go.Proofs.YtphfcebacilbbaaDoor
