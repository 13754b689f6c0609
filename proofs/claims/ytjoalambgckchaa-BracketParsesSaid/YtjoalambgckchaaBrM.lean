/- A bracket's text. -/
import Derived.Test.YtjoalambgckchaaBrL
import Derived.Test.YtjoalambgckchaaSetsP
namespace Go.Proofs.Ytjoalambgckchaa
open Go.RowKit
attribute [local irreducible] wordP

def badP (p : Nat → Bool) : Bool := p 91 || p 93 || p 92
def keepB (b : UInt8) : Bool := !(b == 94 || b == 33 || b == 45)
/-- what Text tells -/
def textF (p : Nat → Bool) : List UInt8 := if (bytesP p == [] || badP p) = true then [] else textP p
theorem word_none_bytes (p : Nat → Bool) : ((wordP p 0 : Int) == 0 && (wordP p 1 : Int) == 0 && (wordP p 2 : Int) == 0 && (wordP p 3 : Int) == 0) = (bytesP p == []) := by
  have := same_set p noneP
  rw [show (wordP noneP 0 : Nat) = 0 from word_none 0, show (wordP noneP 1 : Nat) = 0 from word_none 1, show (wordP noneP 2 : Nat) = 0 from word_none 2, show (wordP noneP 3 : Nat) = 0 from word_none 3] at this
  rw [show bytesP noneP = [] by decide +kernel] at this
  exact this
theorem bad_bytes (p : Nat → Bool) : (bytesP (andP p (ofP [91, 93, 92])) == []) = !badP p := by
  rw [Bool.eq_iff_iff]
  simp only [beq_iff_eq, Bool.not_eq_true', badP, Bool.or_eq_false_iff]
  constructor
  · intro h
    have key : ∀ b : UInt8, ofP [91, 93, 92] b.toNat = true → p b.toNat = false := by
      intro b hb
      cases hp : p b.toNat with
      | false => rfl
      | true =>
        have : b ∈ bytesP (andP p (ofP [91, 93, 92])) := (mem_bytesP _ b).2 (by simp only [andP, hp, hb, Bool.and_self])
        rw [h] at this; cases this
    exact ⟨⟨key 91 rfl, key 93 rfl⟩, key 92 rfl⟩
  · rintro ⟨⟨h1, h2⟩, h3⟩
    rw [List.eq_nil_iff_forall_not_mem]
    intro b hb
    rw [mem_bytesP] at hb
    have hb := Bool.and_eq_true_iff.1 (show (p b.toNat && ofP [91, 93, 92] b.toNat) = true from hb)
    have := (ofP_iff _ b).1 hb.2
    simp only [List.mem_cons, List.not_mem_nil, or_false] at this
    rcases this with rfl | rfl | rfl
    · have := hb.1; rw [show p (91 : UInt8).toNat = p 91 from rfl, h1] at this; cases this
    · have := hb.1; rw [show p (93 : UInt8).toNat = p 93 from rfl, h2] at this; cases this
    · have := hb.1; rw [show p (92 : UInt8).toNat = p 92 from rfl, h3] at this; cases this
set_option maxRecDepth 100000 in
set_option maxHeartbeats 1000000 in
theorem text_none (p : Nat → Bool) (h : (bytesP p == []) = true) (w : World) :
    Calls Try.prog 12 #[SetV p] w fun e w' => e = .returned (.string (S [])) ∧ Below w.heap.size w w' := by
  have hw := (word_none_bytes p).trans h
  rw [SetV_def]
  go_enter Try.func12, Try.ntmps12
  go_wp2_with fail
  go_region
  go_wp2_with fail
  go_ret
  exact ⟨rfl, ((Below.refl _ _).alloc (Nat.le_refl _) _).drew⟩
theorem own_shape {w : World} {base : Nat} {v : Value} {l : List UInt8} (h : OwnB w base v l) : ∃ q c, v = .slice q l.length c := by
  rcases h.2 with ⟨rfl, h0⟩ | ⟨g, cap, cur, rfl, _⟩
  · exact ⟨none, 0, by rw [h0]⟩
  · exact ⟨_, _, rfl⟩
theorem keep_snoc (f : UInt8 → Bool) (l : List UInt8) (k : Nat) (h : k < l.length) : (l.take (k + 1)).filter f = (l.take k).filter f ++ (if f l[k] = true then [l[k]] else []) := by
  rw [List.take_succ_eq_append_getElem h, List.filter_append]
  congr 1
  cases hf : f l[k] <;> simp [hf]
/-- 'append(v, b)' of one byte on a slice of the call's own. -/
theorem app_one {ops : Array Oper} {rest : List Oper} {o : Oper} {a : Act} {Q : Exit → Act → World → Prop} {w0 : World} (hgd : o.guard = none) (s x : Operand)
    (ho : o.op = .call { callee := .builtin .append, args := #[s, x], argTypes := #[53, 53] })
    (base : Nat) (v : Value) (l : List UInt8) (hs : a.eval s = v) (hown : OwnB w0 base v l) (y : Int)
    (hx : a.eval x = .slice (some ⟨w0.heap.size, 0, none⟩) 1 1) (h0 : 0 ≤ y) (h1 : y < 256)
    (hbound : l.length + 1 ≤ 140737488355328) (hbase : base ≤ w0.heap.size)
    (h : ∀ v' w', OwnB w' base v' (l ++ [byteI y]) → Below base w0 w' → Grew w0 w' v v' → wpList Try.prog ops Q rest (a.put o.dst v') w') :
    wpList Try.prog ops Q (o :: rest) a (w0.alloc (.cells #[.int .u8 y] 5)) :=
  app_lit hgd s x ho base v l [byteI y] hs hown 1 #[.int .u8 y] hx (by rw [List.map_cons, bv_byteI y h0 h1]; rfl) rfl hbound hbase h
theorem three_cells {w : World} {g : Nat} (h : CellsB w g [33, 94, 45]) : w.cell? ⟨g, 0, none⟩ = some (.int .u8 33) ∧ w.cell? ⟨g, 1, none⟩ = some (.int .u8 94) ∧ w.cell? ⟨g, 2, none⟩ = some (.int .u8 45) :=
  ⟨h 0 _ rfl, h 1 _ rfl, h 2 _ rfl⟩
theorem three_new (w : World) : CellsB (w.alloc (.cells #[.int .u8 33, .int .u8 94, .int .u8 45] 5 (3, 4))) w.heap.size [33, 94, 45] := by
  refine CellsB.mk _ _ _ fun j hj => ?_
  rw [cell?_mark_at _ _ _ _ _ _ rfl]
  match j, hj with
  | 0, _ => rfl
  | 1, _ => rfl
  | 2, _ => rfl
theorem own_ne {w : World} {base : Nat} {v : Value} {l : List UInt8} (h : OwnB w base v l) : v.ownBlock ≠ some w.heap.size := by
  intro e
  have := World.ownsRow.lt h _ e
  omega
theorem has_three (p : Nat → Bool) (c1 c2 c3 : Bool) (h1 : p 33 = c1) (h2 : p 94 = c2) (h3 : p 45 = c3) (x : Int) (hx : x = 33 ∨ x = 94 ∨ x = 45) (w : World) :
    Calls Try.prog 23 #[SetV p, .int .u8 x] w fun e w' => e = .returned (.bool (if x = 33 then c1 else if x = 94 then c2 else c3)) ∧ Below w.heap.size w w' := by
  rcases hx with rfl | rfl | rfl
  · exact has_byte p 33 33 (by decide) _ h1 w
  · exact has_byte p 94 94 (by decide) _ h2 w
  · exact has_byte p 45 45 (by decide) _ h3 w
set_option maxRecDepth 100000 in
set_option maxHeartbeats 2000000 in
theorem text_more (p : Nat → Bool) (h : (bytesP p == []) = false) (w : World) :
    Calls Try.prog 12 #[SetV p] w fun e w' => e = .returned (.string (S (if badP p = true then [] else textP p))) ∧ Below w.heap.size w w' := by
  have hw := (word_none_bytes p).trans h
  have hw2 := (word_none_bytes (andP p (ofP [91, 93, 92]))).trans (bad_bytes p)
  have HO := Lib.hid (fun W => of_any ⟨#[91, 93, 92]⟩ W (by decide))
  have HA := Lib.hid (fun W => and_any p (ofP [91, 93, 92]) W)
  rw [SetV_def]
  have hS0 := set_alloc w p 25
  have hx0 : Below w.heap.size w (w.alloc (.cells #[.int .u64 (wordP p 0), .int .u64 (wordP p 1), .int .u64 (wordP p 2), .int .u64 (wordP p 3)] 25)) := (Below.refl _ _).alloc (Nat.le_refl _) _
  have hz0 : w.heap.size < (w.alloc (.cells #[.int .u64 (wordP p 0), .int .u64 (wordP p 1), .int .u64 (wordP p 2), .int .u64 (wordP p 3)] 25)).heap.size := by simp
  go_enter Try.func12, Try.ntmps12
  go_wp2_with fail
  generalize w.alloc (.cells #[.int .u64 (wordP p 0), .int .u64 (wordP p 1), .int .u64 (wordP p 2), .int .u64 (wordP p 3)] 25) = W at *
  go_cut [17] (fun s17 wx => s17 = .bool (badP p) ∧ SetAt wx w.heap.size p ∧ Below w.heap.size w wx ∧ w.heap.size < wx.heap.size)
  case first =>
    obtain ⟨a0, a1, a2, a3⟩ := hS0.four
    go_region_law (first
      | (go_simp; go_at_call 11; refine (HO.out _).mono ?_; rintro e w1 ⟨rfl, hb1x⟩; have hb1 := ((Below.refl W.heap.size W).drew).trans hb1x; have hS1 := hS0.below hb1 hz0; have hx1 := hx0.trans (hb1.mono (by omega)); have hz1 := hb1.size; obtain ⟨b0, b1, b2, b3⟩ := hS1.four)
      | (go_simp; go_at_call 25; rw [← SetV_def, ← SetV_def]; refine (HA.out _).mono ?_; rintro e w2 ⟨rfl, hb2⟩))
    all_goals
      go_wp2_with fail
      go_meet
      exact ⟨rfl, hS1.below hb2 (by omega), hx1.trans (hb2.mono (by omega)), by have := hb2.size; omega⟩
  case rest =>
    obtain ⟨rfl, hS, hx, hz⟩ := hcut
    clear hS0 hx0 hz0 hw hw2 HO HA
    cases hbad : badP p
    · have HB := Lib.hid (fun W => bytes_any p W)
      have hlen := bytesTo_len p 256
      have hlenE : (S (bytesP p)).size = (bytesP p).length := S_size _
      obtain ⟨a0, a1, a2, a3⟩ := hS.four
      clear h
      go_wp2_with fail
      rw [← SetV_def]
      refine (HB.out _).mono ?_
      rintro e w1 ⟨rfl, hb1⟩
      have hS1 := hS.below hb1 hz
      have hx1 := hx.trans (hb1.mono (by omega))
      have hz1 : w.heap.size < w1.heap.size := by have := hb1.size; omega
      clear a0 a1 a2 a3 hS hx HB hb1
      go_wp2_with (with_reducible refine conv_bytes rfl _ rfl _ rfl ?_; intro w2 c hb2 hz2 hcell)
      have hT : textP p = 91 :: (insideP p ++ [93]) := rfl
      have hI : insideP p = if (bytesP p).filter keepB = [] then (if ((p 33 || p 94) && !p 45) = true then oneIf (p 33) [91, 46, 33, 46, 93] ++ oneIf (p 94) [91, 46, 94, 46, 93] else 45 :: (oneIf (p 33) [33] ++ oneIf (p 94) [94])) else (bytesP p).filter keepB ++ oneIf (p 33) [33] ++ oneIf (p 94) [94] ++ oneIf (p 45) [45] := rfl
      have HT := Lib.hid (hT.trans (congrArg (fun x => 91 :: (x ++ [93])) hI))
      clear hT hI
      have hlen : (bytesP p).length ≤ 256 := hlen
      have hcells : ∀ (j : Nat) (hj : j < (bytesP p).length), w2.cell? ⟨w1.heap.size, j, none⟩ = some (.int .u8 (bytesP p)[j].toNat) := by
        intro j hj
        rw [hcell j (by rw [hlenE]; exact hj)]
        have : (S (bytesP p)).data.toList = bytesP p := rfl
        rw [this, List.getD_eq_getElem?_getD, List.getElem?_eq_getElem hj]
        rfl
      clear hcell hlenE
      generalize bytesP p = L at *
      have hx2 := hx1.trans (hb2.mono (by omega))
      have hS2 := hS1.below hb2 hz1
      clear hS1 hx1 hb2
      go_loopw [3, 5, 22] (fun v _ i wr => ∃ k : Nat, k ≤ L.length ∧ i = .int .i64 k ∧ OwnB wr w2.heap.size v ((L.take k).filter keepB) ∧ Below w2.heap.size w2 wr ∧ w2.heap.size ≤ wr.heap.size) (fun _ _ i _ => L.length - (intOf i).toNat)
      case atStart => exact ⟨0, Nat.zero_le _, rfl, OwnB.nil _ _, Below.refl _ _, Nat.le_refl _⟩
      case round =>
        obtain ⟨k, hk, rfl, hown, hb, hsz⟩ := hrel
        by_cases hlt : k < L.length
        · have hc : wr.cell? ⟨w1.heap.size, k, none⟩ = some (.int .u8 L[k].toNat) := (hb.cell (p := ⟨w1.heap.size, k, none⟩) hz2).trans (hcells k hlt)
          have hsn := keep_snoc keepB L k hlt
          have hfl : ((L.take k).filter keepB).length ≤ 256 := Nat.le_trans (List.length_filter_le _ _) (by rw [List.length_take]; omega)
          generalize L[k] = b at *
          cases hf : keepB b
          · rw [hf, if_neg (by simp), List.append_nil] at hsn
            have Hsn := Lib.hid hsn
            have hb3 : b = 94 ∨ b = 33 ∨ b = 45 := by
              unfold keepB at hf
              simp only [Bool.not_eq_false', Bool.or_eq_true, beq_iff_eq] at hf
              rcases hf with (h | h) | h
              · exact Or.inl h
              · exact Or.inr (Or.inl h)
              · exact Or.inr (Or.inr h)
            clear hsn hf
            rcases hb3 with rfl | rfl | rfl
            all_goals
              go_wp2_with fail
              go_roundw
              case rel => exact ⟨k + 1, by omega, by go_num, by rw [Hsn.out]; exact hown, hb, hsz⟩
              case measure => simp [intOf]; omega
          · rw [hf, if_pos rfl] at hsn
            have Hsn := Lib.hid hsn
            have hb3 : b ≠ 94 ∧ b ≠ 33 ∧ b ≠ 45 := by
              unfold keepB at hf
              simp only [Bool.not_eq_true', Bool.or_eq_false_iff, beq_eq_false_iff_ne] at hf
              exact ⟨hf.1.1, hf.1.2, hf.2⟩
            obtain ⟨n1, n2, n3⟩ := hb3
            have e1 := byte_beq' b 94 94 rfl n1
            have e2 := byte_beq' b 33 33 rfl n2
            have e3 := byte_beq' b 45 45 rfl n3
            clear hsn hf n1 n2 n3
            generalize (L.take k).filter keepB = out at *
            go_wp2_with (at_builtin; go_must (refine app_lit rfl _ _ rfl w2.heap.size _ _ [b] rfl hown 1 _ rfl rfl rfl (by omega) (by omega) ?_); intro v3 w3 hown3 hb3 hg3)
            go_roundw
            case rel => exact ⟨k + 1, by omega, by go_num, by rw [Hsn.out]; exact hown3, hb.trans hb3, by have := hb3.size; omega⟩
            case measure => simp [intOf]; omega
        · have hk2 : k = L.length := by omega
          subst hk2
          rw [List.take_length] at hown
          have hx := hx2.trans (hb.mono (by omega))
          have hS := hS2.below hb (by omega : w.heap.size < w2.heap.size)
          have hfl : (L.filter keepB).length ≤ 256 := Nat.le_trans (List.length_filter_le _ _) hlen
          clear hx2 hS2 hb hcells hk
          have hlenL : (L.length : Int) ≤ 256 := by omega
          generalize L.filter keepB = out at *
          obtain ⟨q, cc, rfl⟩ := own_shape hown
          have hzz : w.heap.size < wr.heap.size := by omega
          have HTl := Lib.hid (fun W => tail_any p W)
          obtain ⟨a0, a1, a2, a3⟩ := hS.four
          have e91 : (⟨#[91]⟩ : ByteArray) = S [91] := rfl
          have e93 : (⟨#[93]⟩ : ByteArray) = S [93] := rfl
          have hstr := run_string_own _ _ _ _ hown
          by_cases hne : out = []
          · subst hne
            cases h33 : p 33 <;> cases h94 : p 94 <;> cases h45 : p 45
            all_goals
              rw [h33, h94, h45] at HT
              have HH := Lib.hid (fun x hx W => has_three p _ _ _ h33 h94 h45 x hx W)
              rw [h33, h94] at HTl
              clear h33 h94 h45
              go_wp2_with (first
                | (go_at_call 23; go_loud (rw [← SetV_def]; refine (HH.out _ (by simp) _).mono ?_; rintro e wn ⟨rfl, hbn⟩; have hown := hown.below hbn (Nat.le_refl _); have hx := hx.trans (hbn.mono (by have := hx.size; omega)); have hS := hS.below hbn (by omega); have hsz := Nat.le_trans hsz hbn.size; have hz9 : w.heap.size < wn.heap.size := (by omega); have hstr := run_string_own _ _ _ _ hown; obtain ⟨a0, a1, a2, a3⟩ := hS.four))
                | (go_at_call 26; rw [← SetV_def]; refine (HTl.out _).mono ?_; rintro e wn ⟨rfl, hbn⟩; have hx := hx.trans (hbn.mono (by have := hx.size; omega)))
                | (at_builtin; go_must (refine app_one rfl _ _ rfl w2.heap.size _ _ rfl hown _ rfl (by decide) (by decide) (by first | omega | (simp; done) | (simp; omega)) (by omega) ?_); intro vn wn hown hbn hgn; have hx := hx.trans (hbn.mono (by omega)); have hS := hS.below hbn (by omega); have hsz := Nat.le_trans hsz hbn.size; have hz9 : w.heap.size < wn.heap.size := (by omega); have hstr := run_string_own _ _ _ _ hown; obtain ⟨a0, a1, a2, a3⟩ := hS.four))
            all_goals go_ret
            all_goals refine ⟨?_, hx⟩
            all_goals rw [HT.out]
            all_goals rfl
          · have hn0 : ((out.length : Int) == 0) = false := by
              rw [beq_eq_false_iff_ne]
              intro h
              exact hne (List.length_eq_zero_iff.1 (by omega))
            have hn1 : ¬ (out.length : Int) = 0 := by
              intro h
              exact hne (List.length_eq_zero_iff.1 (by omega))
            cases h33 : p 33 <;> cases h94 : p 94 <;> cases h45 : p 45
            all_goals
              rw [h33, h94, h45, if_neg hne] at HT
              have HH := Lib.hid (fun x hx W => has_three p _ _ _ h33 h94 h45 x hx W)
              clear h33 h94 h45 HTl
              go_wp2_with (go_at_call 23; go_loud (rw [← SetV_def]; refine (HH.out _ (by simp) _).mono ?_; rintro e wn ⟨rfl, hbn⟩; have hown := hown.below hbn (Nat.le_refl _); have hx := hx.trans (hbn.mono (by have := hx.size; omega)); have hS := hS.below hbn (by omega); have hsz := Nat.le_trans hsz hbn.size; have hz9 : w.heap.size < wn.heap.size := (by omega); obtain ⟨a0, a1, a2, a3⟩ := hS.four))
              clear hstr
              have hc := three_new wn
              have hnb := own_ne hown
              have hG : wn.heap.size < (wn.alloc (.cells #[.int .u8 33, .int .u8 94, .int .u8 45] 5 (3, 4))).heap.size := by simp
              have hown := hown.alloc (.cells #[.int .u8 33, .int .u8 94, .int .u8 45] 5 (3, 4))
              have hS := hS.alloc (by omega) (.cells #[.int .u8 33, .int .u8 94, .int .u8 45] 5 (3, 4))
              have hx := hx.alloc hx.size (.cells #[.int .u8 33, .int .u8 94, .int .u8 45] 5 (3, 4))
              have hsz := Nat.le_trans hsz (Nat.le_of_lt hG)
              generalize wn.heap.size = G at *
              generalize wn.alloc (.cells #[.int .u8 33, .int .u8 94, .int .u8 45] 5 (3, 4)) = V at *
              have hz9 : w.heap.size < V.heap.size := by omega
              obtain ⟨a0, a1, a2, a3⟩ := hS.four
              obtain ⟨k0, k1, k2⟩ := three_cells hc
              refine wp_loop_rounds 4 ?_
              repeat any_goals (rw [rounds_succ]; go_wp2_with (first
                | (go_at_call 23; go_loud (rw [← SetV_def]; refine (HH.out _ (by simp) _).mono ?_; rintro e wn ⟨rfl, hbn⟩; have hown := hown.below hbn (Nat.le_refl _); have hx := hx.trans (hbn.mono (by have := hx.size; omega)); have hS := hS.below hbn (by omega); have hsz := Nat.le_trans hsz hbn.size; have hz9 : w.heap.size < wn.heap.size := (by omega); obtain ⟨a0, a1, a2, a3⟩ := hS.four; have hc := hc.below hbn hG; have hG := Nat.lt_of_lt_of_le hG hbn.size; obtain ⟨k0, k1, k2⟩ := three_cells hc; have hstr := run_string_own _ _ _ _ hown))
                | (at_builtin; go_must (refine app_one rfl _ _ rfl w2.heap.size _ _ rfl hown _ rfl (by decide) (by decide) (by first | omega | (simp; done) | (simp; omega)) (by omega) ?_); intro vn wn hown hbn hgn; have hx := hx.trans (hbn.mono (by omega)); have hS := hS.below hbn (by omega); have hsz := Nat.le_trans hsz hbn.size; have hz9 : w.heap.size < wn.heap.size := (by omega); obtain ⟨a0, a1, a2, a3⟩ := hS.four; have hc := hgn.cells hc hnb; have hnb := hgn.sep hG hnb; have hG := Nat.lt_of_lt_of_le hG hgn.grown.size; obtain ⟨k0, k1, k2⟩ := three_cells hc; have hstr := run_string_own _ _ _ _ hown)))
            all_goals go_ret
            all_goals refine ⟨?_, hx⟩
            all_goals rw [HT.out]
            all_goals (refine congrArg (fun x => Ending.returned (.string x)) ?_; show S [91] ++ S _ ++ S [93] = _; rw [S_append, S_append]; refine congrArg S ?_; simp [oneIf]; try (repeat (first | rfl | apply And.intro)))
    · go_wp2_with fail
      go_ret
      exact ⟨rfl, hx⟩
theorem Text_any (p : Nat → Bool) (w : World) :
    Calls Try.prog 12 #[SetV p] w fun e w' => e = .returned (.string (S (textF p))) ∧ Below w.heap.size w w' := by
  cases h : bytesP p == []
  · have := text_more p h w
    unfold textF
    rw [h, Bool.false_or]
    exact this
  · have := text_none p h w
    unfold textF
    rw [h, Bool.true_or, if_pos rfl]
    exact this
end Go.Proofs.Ytjoalambgckchaa
