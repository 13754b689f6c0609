/- The law StripJoins: for every input the call returns true. -/
import Derived.Test.YtpdknjpicaokkaaDoorStripI
import Derived.Laws.AppendOwnNone
namespace Go.Proofs.YtpdknjpicaokkaaDoor
open Go.RowKit

/-- 'append(v, u...)' of slices of strings -/
theorem app_strs {ops : Array Oper} {rest : List Oper} {o : Oper} {a : Act} {Q : Exit → Act → World → Prop} {w0 : World} (hgd : o.guard = none) (s x : Operand)
    (ho : o.op = .call { callee := .builtin .append, args := #[s, x], argTypes := #[22, 22] })
    (base : Nat) (v : Value) (l : List (List UInt8)) (hs : a.eval s = v) (hown : OwnS w0 base v l) (base2 : Nat) (u : Value) (n : List (List UInt8))
    (hx : a.eval x = u) (hu : OwnS w0 base2 u n) (hbound : l.length + n.length ≤ 1000000000) (hbase : base ≤ w0.heap.size)
    (h : ∀ v' w', OwnS w' base v' (l ++ n) → Below base w0 w' → wpList Tryd.prog ops Q rest (a.put o.dst v') w') :
    wpList Tryd.prog ops Q (o :: rest) a w0 := by
  obtain ⟨i0, hi, hz0, hz1, hz2⟩ := info_parts info_str
  have hcu := hu
  obtain ⟨_, h2⟩ := hu
  rcases h2 with ⟨rfl, h0⟩ | ⟨g, cap, cur, rfl, hg, hh, hn, r⟩
  · have : n = [] := List.eq_nil_of_length_eq_zero h0
    subst this
    rw [List.append_nil] at h
    exact wpList_append_own_none hgd s x 22 ho base 9 i0 1 Tryd.underlying22 hi v l.length (l.map sv) hs hown hx (h v w0 hown (Below.refl _ _))
  · obtain ⟨v', w', hr, h2, h3⟩ := run_append_sep (P := Tryd.prog) w0 base 22 o.type 9 i0 (.string ⟨#[]⟩) 1 16 Tryd.underlying22 hi hz0 hz1 hz2 rfl (by decide) v l.length (l.map sv) hown
      ⟨g, 0, none⟩ n.length cap (n.map sv) (by simp) (hcu.cells (g := g) rfl) (sv_one _) (by unfold maxLen; omega) (by omega) hbase
    refine wpList_plain hgd fun K hK => ?_
    unfold Oper.wp execOp
    simp only [ho, resolve, invoke, builtin, Sem.run_bind, Sem.run_pure, Result.andThen_ok, List.map_toArray, List.map_cons, List.map_nil, hs, hx, hr]
    refine hK _ _ (h v' w' ?_ ?_)
    · unfold OwnS
      rw [List.map_append, List.length_append]
      exact h2
    · refine (Below.refl base w0).grown h3.grown hbase ?_
      intro k hk
      exact (hown.lt k hk).1
def wantL (l : List (List UInt8)) : List (List UInt8) := l.flatMap partsL
theorem want_take (l : List (List UInt8)) (k : Nat) (h : k < l.length) : wantL (l.take (k + 1)) = wantL (l.take k) ++ partsL l[k] := by
  rw [List.take_succ_eq_append_getElem h]
  unfold wantL
  rw [List.flatMap_append]
  simp
set_option maxRecDepth 100000 in
set_option maxHeartbeats 4000000 in
theorem joins_no (l : List (List UInt8)) (v : Value) (s t : ByteArray) (w : World) (hv : StrsV w v l) (h : 20 < l.length ∨ 300 < s.size ∨ 300 < t.size) :
    Calls Tryd.prog 4 #[v, .string s, .string t] w fun e w' => e = .returned (.bool true) ∧ Below w.heap.size w w' := by
  obtain ⟨a, c, rfl, _⟩ := hv
  have hcase : decide (20 < l.length) = true ∨ (decide (20 < l.length) = false ∧ (decide (300 < s.size) = true ∨ (decide (300 < s.size) = false ∧ 300 < t.size))) := by
    by_cases h1 : 20 < l.length
    · exact .inl (decide_eq_true h1)
    · by_cases h2 : 300 < s.size
      · exact .inr ⟨decide_eq_false h1, .inl (decide_eq_true h2)⟩
      · exact .inr ⟨decide_eq_false h1, .inr ⟨decide_eq_false h2, by omega⟩⟩
  clear h
  rcases hcase with h1 | ⟨h1, h2 | ⟨h2, h3⟩⟩
  all_goals
    simp only [decide_eq_true_eq, decide_eq_false_iff_not] at h1
    try simp only [decide_eq_true_eq, decide_eq_false_iff_not] at h2
    go_enter Tryd.func4, Tryd.ntmps4
    go_wp2_with fail
    refine (awake_any26 _).mono ?_
    rintro e w1 ⟨rfl, hb⟩
    go_wp2_with fail
    go_ret
    exact ⟨rfl, hb⟩
set_option maxRecDepth 100000 in
set_option maxHeartbeats 4000000 in
theorem lawJoins (l : List (List UInt8)) (v : Value) (s t : ByteArray) (w : World) (hv : StrsV w v l) :
    Calls Tryd.prog 4 #[v, .string s, .string t] w fun e w' => e = .returned (.bool true) ∧ Below w.heap.size w w' := by
  by_cases hno : 20 < l.length ∨ 300 < s.size ∨ 300 < t.size
  · exact joins_no l v s t w hv hno
  obtain ⟨x, rfl⟩ : ∃ x : List UInt8, s = S x := ⟨s.data.toList, S_eta s⟩
  obtain ⟨y, rfl⟩ : ∃ x : List UInt8, t = S x := ⟨t.data.toList, S_eta t⟩
  rw [S_size, S_size] at hno
  have hl : ¬ 20 < l.length := by omega
  have hx : ¬ 300 < x.length := by omega
  have hy : ¬ 300 < y.length := by omega
  have hvv := hv
  obtain ⟨a, c, rfl, hv⟩ := hv
  have h1 := fun w => Under_any x y (by omega) (by omega) w
  have h2 := fun w => rUnder_any (S x) (S y) (by rw [S_size]; omega) (by rw [S_size]; omega) w
  rw [S_data, S_data] at h2
  generalize underB (partsL x) (partsL y) = ub at *
  have H1 := Lib.hid h1
  have H2 := Lib.hid h2
  clear h1 h2 hno
  go_enter Tryd.func4, Tryd.ntmps4
  go_wp2_with fail
  go_loopw [7, 27] (fun z i wr => ∃ k : Nat, k ≤ l.length ∧ i = .int .i64 k ∧ OwnS wr w.heap.size z (wantL (l.take k)) ∧ (wantL (l.take k)).length ≤ 61 * k ∧ (∀ q ∈ l.take k, q.length ≤ 60) ∧ Below w.heap.size w wr) (fun _ i _ => l.length - (intOf i).toNat)
  case atStart => exact ⟨0, by omega, rfl, OwnS.nil _ _, Nat.le_refl _, (fun q hq => by cases hq), Below.refl _ _⟩
  case round =>
    obtain ⟨k, hk, rfl, hO, hw, hm, hB⟩ := hrel
    have HM := Lib.hid hm
    have hsz := hB.size
    obtain ⟨az, cz, rfl, _⟩ := hO.strs
    clear hm
    by_cases hlt : k < l.length
    · obtain ⟨b, off, rfl, g1, g2⟩ := hv (by omega)
      have hc : wr.cell? ⟨b, off + k, none⟩ = some (.string (S l[k])) := by rw [hB.cell (by exact g1)]; exact g2 k hlt
      have HW := Lib.hid (want_take l k hlt)
      have HT := Lib.hid (List.take_succ_eq_append_getElem hlt)
      clear g2 hv
      generalize l[k] = q at *
      by_cases hq : 60 < q.length
      · go_wp2_with fail
        refine (awake_any26 _).mono ?_
        rintro e w1 ⟨rfl, hb⟩
        have hB1 := chainB hB hb
        go_wp2_with fail
        go_ret
        exact ⟨rfl, hB1⟩
      · have hpl := parts_len q
        go_wp2_with fail
        refine (rParts_any (S q) (by rw [S_size]; omega) _).mono ?_
        rintro e w1 ⟨⟨u, rfl, hu⟩, hb⟩
        rw [S_data] at hu
        have hO1 := hO.below hb (Nat.le_refl _)
        have hB1 := chainB hB hb
        have hs1 := hB1.size
        go_wp2_with (refine app_strs rfl (.tmp 35) (.tmp 37) rfl w.heap.size _ (wantL (l.take k)) rfl hO1 _ u (partsL q) rfl hu (by omega) hs1 ?_; intro v' w' hO' hb')
        have hB2 := hB1.trans hb'
        go_roundw
        case rel =>
          refine ⟨k + 1, by omega, by go_num, by rw [HW.out]; exact hO', by rw [HW.out, List.length_append]; omega, fun p hp => ?_, hB2⟩
          rw [HT.out] at hp
          rcases List.mem_append.1 hp with hp | hp
          · exact HM.out p hp
          · rw [List.mem_singleton.1 hp]; omega
        case measure => simp [intOf]; omega
    · obtain rfl : k = l.length := by omega
      have hm := HM.out
      rw [List.take_length] at hm hO hw ⊢
      have hm2 : ∀ q ∈ l, q.length ≤ 1000000 := fun q hq => Nat.le_trans (hm q hq) (by decide)
      have hjl := joinL_le 60 l hm
      have hjl2 : (joinL l).length ≤ 1220 := by
        have : l.length * (60 + 1) ≤ 20 * 61 := Nat.mul_le_mul_right _ (by omega)
        omega
      have H3 := Lib.hid (fun w v hv => Join_any l v (by omega) hm2 w hv)
      have H4 := Lib.hid (fun w v hv => rJoin_any l v (by omega) hm2 w hv)
      have h5 := fun w => Parts_any (joinL l) (by omega) w
      rw [parts_join, show l.flatMap partsL = wantL l from rfl] at h5
      have H5 := Lib.hid h5
      have H6 := Lib.hid (fun w v u hv hu => Same_any (wantL l) (wantL l) v u (by omega) w hv hu)
      clear h5 hjl hjl2 hm2 hm HM hv
      generalize joinL l = j at *
      have hS := hvv.below hB (Nat.le_refl _)
      have hSw := hO.strs
      clear hO
      generalize wantL l = wl at *
      go_wp2_with fail
      refine (H3.out _ _ hS).mono ?_
      rintro e w1 ⟨rfl, hb1⟩
      have hS1 := hS.below hb1 (Nat.le_refl _)
      have hSw1 := hSw.below hb1 (Nat.le_refl _)
      have hB1 := chainB hB hb1
      clear hS hSw hb1
      go_wp2_with fail
      refine (H4.out _ _ hS1).mono ?_
      rintro e w2 ⟨rfl, hw2⟩
      subst hw2
      go_wp2_with fail
      refine (H5.out _).mono ?_
      rintro e w3 ⟨⟨v3, rfl, hO3⟩, hb3⟩
      have hSw3 := hSw1.below hb3 (Nat.le_refl _)
      have hB3 := chainB hB1 hb3
      obtain ⟨a3, c3, e3, _⟩ := hO3.strs
      subst e3
      go_wp2_with fail
      refine (H6.out _ _ _ hO3.strs hSw3).mono ?_
      rintro e w4 ⟨rfl, m, rfl⟩
      have hB4 := belowDrewN (n := m) hB3
      simp only [decide_true]
      go_wp2_with fail
      refine (H1.out _).mono ?_
      rintro e w5 ⟨rfl, hb5⟩
      have hB5 := chainB hB4 hb5
      go_wp2_with fail
      refine (H2.out _).mono ?_
      rintro e w6 ⟨rfl, hb6⟩
      have hB6 := chainB hB5 hb6
      go_wp2_with fail
      refine (awake_any26 _).mono ?_
      rintro e w7 ⟨rfl, hb7⟩
      have hB7 := chainB hB6 hb7
      go_wp2_with fail
      go_ret
      exact ⟨rfl, hB7⟩
end Go.Proofs.YtpdknjpicaokkaaDoor
