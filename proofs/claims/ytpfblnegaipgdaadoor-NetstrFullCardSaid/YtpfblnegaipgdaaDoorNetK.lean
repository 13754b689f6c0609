import Derived.Test.YtpfblnegaipgdaaDoorNetJ
import Derived.Test.YtpfblnegaipgdaaDoorMake
namespace Go.Proofs.YtpfblnegaipgdaaDoor
open Go.RowKit Go.Lib

theorem takeQ_nl (t : List UInt8) : takeQ (10 :: t) = ([], t, 0) := takeF_nl _ _ _ _ rfl
theorem listsF_nl : ∀ (j f : Nat) (out : List (List (List UInt8))), j < f → out.length + j ≤ 1000 → listsF f (List.replicate j 10) out = (out ++ List.replicate j [], 0, 0)
  | 0, 0, _, h, _ => absurd h (Nat.not_lt_zero _)
  | 0, f + 1, out, _, _ => by rw [listsF, if_pos (by rfl)]; simp
  | j + 1, 0, _, h, _ => absurd h (Nat.not_lt_zero _)
  | j + 1, f + 1, out, h, ho => by
    rw [List.replicate_succ, listsF, if_neg (by simp), if_neg (by omega), takeQ_nl, if_neg (by simp)]
    simp only []
    rw [listsF_nl j f _ (by omega) (by rw [List.length_append, List.length_singleton]; omega), List.append_assoc]
    rfl
theorem listsF_nl_full : ∀ (j f : Nat) (out : List (List (List UInt8))), j < f → out.length ≤ 1000 → 1000 < out.length + j → listsF f (List.replicate j 10) out = ([], 1000, 8)
  | 0, _, out, _, h1, h2 => by omega
  | j + 1, 0, _, h, _, _ => absurd h (Nat.not_lt_zero _)
  | j + 1, f + 1, out, h, h1, h2 => by
    rw [List.replicate_succ, listsF, if_neg (by simp)]
    by_cases he : out.length = 1000
    · rw [if_pos he]
    · rw [if_neg he, takeQ_nl, if_neg (by simp)]
      simp only []
      exact listsF_nl_full j f _ (by omega) (by rw [List.length_append, List.length_singleton]; omega) (by rw [List.length_append, List.length_singleton]; omega)
theorem lines_nils : ∀ k : Nat, linesL (List.replicate k []) = List.replicate k 10
  | 0 => rfl
  | k + 1 => by
    have e : linesL (List.replicate (k + 1) []) = lineL [] ++ linesL (List.replicate k []) := rfl
    rw [e, lines_nils k]; rfl
theorem four_digits (m : Nat) (h1 : 1000 ≤ m) (h2 : m < 10000) : (decDigits m).length = 4 := by
  have h3 := digs_len 3 m (by simpa using h2)
  have h4 := decN_lt (decDigits m).length (decDigits m) (digs_dg m) rfl
  rw [digs_val] at h4
  have : 4 ≤ (decDigits m).length := by
    rcases Nat.lt_or_ge (decDigits m).length 4 with g | g
    · exfalso
      have : 10 ^ (decDigits m).length ≤ 10 ^ 3 := Nat.pow_le_pow_right (by decide) (by omega)
      omega
    · exact g
  omega
theorem take_long (x r : List UInt8) (h : x.length < 1000000) (hl : 8192 < (textL x).length) : takeQ (textL x ++ r) = ([], [], 12) := by
  have hL := lenF_text x r h
  have hp := digs_ne x.length
  have hhead : (textL x ++ r).head? ≠ some 10 := by
    unfold textL
    rw [List.append_assoc, List.append_assoc, List.append_assoc, head_app _ _ hp]
    intro g
    have := digs_dg x.length 10 (List.mem_of_head? g)
    revert this; decide
  have hlen := text_len x
  unfold takeQ
  rw [takeF_step _ _ _ _ _ _ hhead hL, if_pos (by omega)]
theorem one_strs (x : List UInt8) (w : World) : StrsV (w.alloc (.cells #[.string (S x)] 9)) (.slice (some ⟨w.heap.size, 0, none⟩) 1 1) [x] :=
  ⟨_, 1, rfl, fun _ => ⟨w.heap.size, 0, rfl, by simp, fun j hj => by
    have h0 : j = 0 := by simpa using hj
    subst h0
    unfold World.cell?
    rw [heap_alloc_new]
    rfl⟩⟩

set_option maxRecDepth 100000 in
set_option maxHeartbeats 2000000 in
theorem lawFull (n over : UInt8) (w : World) (hT : TB w.heap.size w) :
    Calls Tryd.prog 7 #[.int .u8 n.toNat, .int .u8 over.toNat] w fun e w' => e = .returned (.bool true) ∧ Below w.heap.size w w' := by
  obtain ⟨k, hk⟩ : ∃ k : Nat, (997 : Int) + (n.toNat : Int) % 6 = k := ⟨997 + n.toNat % 6, by push_cast; rfl⟩
  have hk1 : 997 ≤ k := by omega
  have hk2 : k ≤ 1002 := by omega
  obtain ⟨q, hq⟩ : ∃ q : Nat, (over.toNat : Int) % 3 = q := ⟨over.toNat % 3, by push_cast; rfl⟩
  have hq2 : q ≤ 2 := by omega
  obtain ⟨m, hm⟩ : ∃ m : Nat, (8186 : Int) + (q : Int) = m := ⟨8186 + q, by push_cast; rfl⟩
  have hml : m = 8186 + q := by omega
  have M1 := fun w => mk_lists k (by omega) w
  have M2 : ∀ w : World, (Instr.makeSlice 49 (.int .i64 0) (.int .i64 k)).run Tryd.prog w = .ok (.slice (some ⟨w.heap.size, 0, none⟩) 0 k) (w.alloc (.cells (zerosA k) 5)) := fun w => mk_bytes 0 k (by omega) (by omega) w
  have M3 := fun w => mk_bytes m m (by omega) (by omega) w
  have O2 := Lib.hid (fun w base hb => own_bytes 0 k (by omega) (by omega) w base hb)
  have O3 := Lib.hid (fun w base hb => own_bytes m m (by omega) (by omega) w base hb)
  have HML := Lib.hid hml
  clear hml
  have hnb : (n.toNat : Int) < 256 := by have := n.toNat_lt; omega
  have hob : (over.toNat : Int) < 256 := by have := over.toNat_lt; omega
  go_enter Tryd.func7, Tryd.ntmps7
  go_wp2_with fail
  have hx0 : Below w.heap.size w (w.alloc (.cells (nilsA k) 22)) := (Below.refl _ _).alloc (Nat.le_refl _) _
  have hO0 := O2.out (w.alloc (.cells (nilsA k) 22)) (w.heap.size + 1) (by simp)
  have hx1 : Below w.heap.size w ((w.alloc (.cells (nilsA k) 22)).alloc (.cells (zerosA k) 5)) := hx0.alloc (by simp) _
  have hN0 : ((w.alloc (.cells (nilsA k) 22)).alloc (.cells (zerosA k) 5)).heap[w.heap.size]? = some (.cells (nilsA k) 22 (0, 0)) := by
    rw [Below.heap_alloc _ _ _ (by simp)]
    exact heap_alloc_new _ _
  have es : (w.alloc (.cells (nilsA k) 22)).heap.size = w.heap.size + 1 := by simp
  rw [es] at hO0
  go_loopw [7, 28] (fun v i wr => ∃ j : Nat, j ≤ k ∧ i = .int .i64 j ∧ OwnB wr (w.heap.size + 1) v (List.replicate j 10) ∧ wr.heap[w.heap.size]? = some (.cells (nilsA k) 22 (0, 0)) ∧ Below w.heap.size w wr ∧ w.heap.size + 1 ≤ wr.heap.size) (fun _ i _ => k - (intOf i).toNat)
  case atStart => exact ⟨0, by omega, rfl, (by simpa using hO0), hN0, hx1, by simp⟩
  case round =>
    clear hO0 hN0 hx1 hx0
    obtain ⟨j, hj, rfl, hO, hN, hB, hsz⟩ := hrel
    by_cases hlt : j < k
    · have hrl : (List.replicate j (10 : UInt8)).length ≤ 2000 := by rw [List.length_replicate]; omega
      have hnx : List.replicate j (10 : UInt8) ++ [10] = List.replicate (j + 1) 10 := List.replicate_succ'.symm
      have HNX := Lib.hid hnx
      have HRL := Lib.hid hrl
      clear hnx hrl
      go_wp2_with (at_builtin; go_must (refine app_lit rfl (.tmp 30) (.tmp 31) rfl (w.heap.size + 1) _ (List.replicate j 10) [10] rfl hO 1 _ rfl rfl rfl (by have := HRL.out; omega) hsz ?_); intro v1 w1 hown1 hb1 _)
      go_roundw
      case rel => exact ⟨j + 1, by omega, by go_num, by rw [← HNX.out]; exact hown1, by rw [hb1.block _ (by omega)]; exact hN, hB.trans (hb1.mono (by omega)), by have := hb1.size; omega⟩
      case measure => simp [intOf]; omega
    · have : j = k := by omega
      subst this
      have hLs := lsts_at j w.heap.size (0, 0) wr hN
      have hcv := run_string_own _ _ _ _ hO
      have hrl : (List.replicate j (10 : UInt8)).length = j := List.length_replicate
      have hsr := hB.size
      have HLs := Lib.hid hLs
      have F1 := fun w => Lists_any (List.replicate j 10) (by rw [hrl]; omega) w
      rw [hrl] at F1
      clear hN hLs
      have HCV := Lib.hid (fun (wx : World) (hb : Below wr.heap.size wr wx) => run_string_own wx (w.heap.size + 1) _ _ (hO.below hb (Nat.le_refl _)))
      clear hcv
      have hxl : (List.replicate m (0 : UInt8)).length = m := List.length_replicate
      have X3 : ∀ wx : World, (convert 49 9 (.slice (some ⟨wx.heap.size, 0, none⟩) m m)).run Tryd.prog (wx.alloc (.cells (zerosA m) 5)) = .ok (.string (S (List.replicate m 0))) (wx.alloc (.cells (zerosA m) 5)) := fun wx =>
        run_string_own _ 0 _ _ (O3.out wx 0 (Nat.zero_le _))
      generalize List.replicate m (0 : UInt8) = x at *
      have hml := HML.out
      have hdl := four_digits x.length (by omega) (by omega)
      have htx := text_len x
      have e1 : textsL [x] = textL x := by unfold textsL; simp
      have HTL := Lib.hid (show (textL x).length = 8192 + q by omega)
      have HPV := Lib.hid (show (q = 0 → putV [x] = .tuple #[.string (S (textsL [x] ++ [10])), .int .i64 0]) ∧ (q ≠ 0 → putV [x] = .tuple #[.string (S []), .int .i64 12]) from
        ⟨fun h => by unfold putV putB; rw [if_pos (by rw [e1]; simp; omega)], fun h => by unfold putV putB; rw [if_neg (by rw [e1]; simp; omega)]⟩)
      have HUL := Lib.hid (show q = 0 → (textsL [x] ++ [10]).length = 8193 from fun h => by rw [e1, List.length_append, List.length_singleton]; omega)
      have hx1' : x.length ≤ 8188 := by omega
      have HXL := Lib.hid hxl
      clear hdl htx e1 hxl hml O2 O3
      by_cases hbig : 1000 < j
      · rw [listsF_nl_full j (j + 1) [] (by omega) (by simp) (by simp; omega)] at F1
        have FS := Lib.hid (fun (wx : World) hv => Script_full (List.replicate j []) (.slice (some ⟨w.heap.size, 0, none⟩) j j) (by rw [List.length_replicate]; omega) (by rw [List.length_replicate]; omega) wx hv)
        have HF1 := Lib.hid F1
        clear F1
        generalize List.replicate j (10 : UInt8) = nl at *
        go_wp2_with fail
        refine (FS.out _ HLs.out).mono ?_
        rintro e w2 ⟨rfl, hb2⟩
        have hcv := HCV.out w2 hb2
        go_wp2_with fail
        refine (HF1.out _).mono ?_
        rintro e w3 ⟨⟨v3, rfl, hO3⟩, hb3⟩
        obtain ⟨a3, c3, e3⟩ := hO3.shape
        subst e3
        have hB3 := chain (chain hB hb2) hb3
        have hsz3 := hB3.size
        have XS := Lib.hid (fun (wx : World) => one_strs x wx)
        go_wp2_with fail
        have hY1 : Below w.heap.size w (((w3.alloc (.cells (zerosA m) 5))).alloc (.cells #[.string (S x)] 9)) := (hB3.alloc hB3.size _).alloc (by have := hB3.size; simp; omega) _
        have hst := XS.out (w3.alloc (.cells (zerosA m) 5))
        have es2 : (w3.alloc (.cells (zerosA m) 5)).heap.size = w3.heap.size + 1 := by simp
        rw [es2] at hst
        generalize ((w3.alloc (.cells (zerosA m) 5))).alloc (.cells #[.string (S x)] 9) = wz at hY1 hst ⊢
        clear es2
        by_cases hq0 : q = 0
        · have hpv := HPV.out.1 hq0
          have hqn : ¬ 0 < q := by omega
          subst hq0
          refine (Put_any [x] _ (by simp) (fun s hs => by rw [List.mem_singleton.1 hs]; omega) _ (hT.up hY1 hY1.size) hst).mono ?_
          rintro e w5 ⟨rfl, hb5⟩
          rw [hpv]
          have hUL := HUL.out rfl
          generalize textsL [x] ++ [10] = uu at *
          have hul1 : ((uu.length : Int) == 8193) = true := by rw [beq_iff_eq]; omega
          clear hpv
          have hY5 := chain hY1 hb5
          go_wp2_with fail
          refine (awake41 _ (hT.up hY5 hY5.size)).mono ?_
          rintro e w6 ⟨rfl, hb6⟩
          go_wp2_with fail
          go_ret
          exact ⟨rfl, chain hY5 hb6⟩
        · have hpv := HPV.out.2 hq0
          have hqp : 0 < q := by omega
          refine (Put_any [x] _ (by simp) (fun s hs => by rw [List.mem_singleton.1 hs]; omega) _ (hT.up hY1 hY1.size) hst).mono ?_
          rintro e w5 ⟨rfl, hb5⟩
          rw [hpv]
          have hY5 := chain hY1 hb5
          go_wp2_with fail
          refine (rText_any x (by omega) _).mono ?_
          rintro e w6 ⟨rfl, mm, rfl⟩
          have hcat : S (textL x) ++ (⟨#[10]⟩ : ByteArray) = S (textL x ++ [10]) := by rw [← S_append]; rfl
          have htl := HTL.out
          have hT12 := take_long x [10] (by omega) (by omega)
          have T1 := fun w => Take_any (textL x ++ [10]) (by rw [List.length_append, List.length_singleton]; omega) w
          have eQ : takeF ((textL x ++ [10]).length + 1) (textL x ++ [10]) 0 [] = ([], [], 12) := hT12
          rw [eQ] at T1
          clear eQ
          have HT1 := Lib.hid T1
          generalize textL x ++ [10] = tt at *
          clear T1 hT12 hpv
          go_wp2_with fail
          refine (HT1.out _).mono ?_
          rintro e w7 ⟨⟨v7, rfl, _⟩, hb7⟩
          have hY7 := chain (belowDrewN (n := mm) hY5) hb7
          go_wp2_with fail
          refine (awake41 _ (hT.up hY7 hY7.size)).mono ?_
          rintro e w8 ⟨rfl, hb8⟩
          go_wp2_with fail
          go_ret
          exact ⟨rfl, chain hY7 hb8⟩
      · rw [listsF_nl j (j + 1) [] (by omega) (by simp; omega)] at F1
        have hSo := fun (wx : World) hT hv => Script_ok (List.replicate j []) (.slice (some ⟨w.heap.size, 0, none⟩) j j) (by rw [List.length_replicate]; omega) (fun l hl => by rw [(List.mem_replicate.1 hl).2]; decide) (fun l hl => by rw [(List.mem_replicate.1 hl).2]; exact ⟨by decide, fun s hs => by cases hs⟩) (by rw [lines_nils, hrl]; omega) wx hT hv
        rw [lines_nils] at hSo
        have FS := Lib.hid hSo
        have HF1 := Lib.hid F1
        clear F1 hSo
        generalize List.replicate j (10 : UInt8) = nl at *
        go_wp2_with fail
        refine (FS.out _ (hT.up hB hB.size) HLs.out).mono ?_
        rintro e w2 ⟨rfl, hb2⟩
        have hcv := HCV.out w2 hb2
        go_wp2_with fail
        refine (HF1.out _).mono ?_
        rintro e w3 ⟨⟨v3, rfl, hO3⟩, hb3⟩
        obtain ⟨a3, c3, e3⟩ := hO3.shape
        rw [List.nil_append, List.length_replicate] at e3
        subst e3
        have hcv3 := HCV.out w3 (hb2.trans (hb3.mono hb2.size))
        have hB3 := chain (chain hB hb2) hb3
        have hsz3 := hB3.size
        have hkk : ((j : Int) != (j : Int)) = false := by simp
        have XS := Lib.hid (fun (wx : World) => one_strs x wx)
        go_wp2_with fail
        have hY1 : Below w.heap.size w (((w3.alloc (.cells (zerosA m) 5))).alloc (.cells #[.string (S x)] 9)) := (hB3.alloc hB3.size _).alloc (by have := hB3.size; simp; omega) _
        have hst := XS.out (w3.alloc (.cells (zerosA m) 5))
        have es2 : (w3.alloc (.cells (zerosA m) 5)).heap.size = w3.heap.size + 1 := by simp
        rw [es2] at hst
        generalize ((w3.alloc (.cells (zerosA m) 5))).alloc (.cells #[.string (S x)] 9) = wz at hY1 hst ⊢
        clear es2
        by_cases hq0 : q = 0
        · have hpv := HPV.out.1 hq0
          have hqn : ¬ 0 < q := by omega
          subst hq0
          refine (Put_any [x] _ (by simp) (fun s hs => by rw [List.mem_singleton.1 hs]; omega) _ (hT.up hY1 hY1.size) hst).mono ?_
          rintro e w5 ⟨rfl, hb5⟩
          rw [hpv]
          have hUL := HUL.out rfl
          generalize textsL [x] ++ [10] = uu at *
          have hul1 : ((uu.length : Int) == 8193) = true := by rw [beq_iff_eq]; omega
          clear hpv
          have hY5 := chain hY1 hb5
          go_wp2_with fail
          refine (awake41 _ (hT.up hY5 hY5.size)).mono ?_
          rintro e w6 ⟨rfl, hb6⟩
          go_wp2_with fail
          go_ret
          exact ⟨rfl, chain hY5 hb6⟩
        · have hpv := HPV.out.2 hq0
          have hqp : 0 < q := by omega
          refine (Put_any [x] _ (by simp) (fun s hs => by rw [List.mem_singleton.1 hs]; omega) _ (hT.up hY1 hY1.size) hst).mono ?_
          rintro e w5 ⟨rfl, hb5⟩
          rw [hpv]
          have hY5 := chain hY1 hb5
          go_wp2_with fail
          refine (rText_any x (by omega) _).mono ?_
          rintro e w6 ⟨rfl, mm, rfl⟩
          have hcat : S (textL x) ++ (⟨#[10]⟩ : ByteArray) = S (textL x ++ [10]) := by rw [← S_append]; rfl
          have htl := HTL.out
          have hT12 := take_long x [10] (by omega) (by omega)
          have T1 := fun w => Take_any (textL x ++ [10]) (by rw [List.length_append, List.length_singleton]; omega) w
          have eQ : takeF ((textL x ++ [10]).length + 1) (textL x ++ [10]) 0 [] = ([], [], 12) := hT12
          rw [eQ] at T1
          clear eQ
          have HT1 := Lib.hid T1
          generalize textL x ++ [10] = tt at *
          clear T1 hT12 hpv
          go_wp2_with fail
          refine (HT1.out _).mono ?_
          rintro e w7 ⟨⟨v7, rfl, _⟩, hb7⟩
          have hY7 := chain (belowDrewN (n := mm) hY5) hb7
          go_wp2_with fail
          refine (awake41 _ (hT.up hY7 hY7.size)).mono ?_
          rintro e w8 ⟨rfl, hb8⟩
          go_wp2_with fail
          go_ret
          exact ⟨rfl, chain hY7 hb8⟩
end Go.Proofs.YtpfblnegaipgdaaDoor
