/- stamp.Text. -/
import Derived.Test.YtpdknjpicaokkaaDoorStampE
import Derived.Lib.AppendIntMem
namespace Go.Proofs.YtpdknjpicaokkaaDoor
open Go.RowKit Go.Lib

abbrev TB (B : Nat) (w : World) : Prop := Lib.TabBelow Tryd.prog B w "internal/strconv.uint64pow10" .u64 Lib.pow10Tab
theorem tbOn {w u : World} (h : TB w.heap.size w) (hb : Below w.heap.size w u) : TB u.heap.size u := fun w' hw => h w' (hb.trans (hw.mono hb.size))
theorem itoa_big (n : Nat) (hn : n ≤ 1000000000000000000) (w : World) {B : Nat} (hT : TB B w) :
    Calls Tryd.prog 81 #[.int .i64 n] w fun e w' => e = .returned (.string (S (decDigits n))) ∧ Below w.heap.size w w' := by
  refine (Go.Proofs.Tryd.strconv_Itoa n (by omega) (by omega) w hT.here).mono ?_
  rintro e w' ⟨h, k, os, rfl⟩
  refine ⟨?_, below_grow _ _ (Nat.le_refl _) _ _⟩
  rw [h]
  unfold itoa
  rw [if_neg (by omega), Int.toNat_natCast]
  rfl
/-- a stamp lies at a block -/
def StAt (w : World) (g : Nat) (a b : Int) : Prop := w.heap[g]? = some (.cells #[.int .i64 a, .int .i64 b] 67 (0, 0))
theorem StAt.c0 {w : World} {g : Nat} {a b : Int} (h : StAt w g a b) : w.cell? ⟨g, 0, none⟩ = some (.int .i64 a) := by
  unfold StAt at h; simp [World.cell?, h]
theorem StAt.c1 {w : World} {g : Nat} {a b : Int} (h : StAt w g a b) : w.cell? ⟨g, 1, none⟩ = some (.int .i64 b) := by
  unfold StAt at h; simp [World.cell?, h]
theorem StAt.f {w : World} {g : Nat} {a b : Int} (h : StAt w g a b) (o : Nat) : w.frozen? ⟨g, o, none⟩ = false := by
  unfold StAt at h; simp [World.frozen?, h]
theorem StAt.lt {w : World} {g : Nat} {a b : Int} (h : StAt w g a b) : g < w.heap.size := (Array.getElem?_eq_some_iff.1 h).1
theorem StAt.below {w w' : World} {g : Nat} {a b : Int} (h : StAt w g a b) (hb : Below w.heap.size w w') : StAt w' g a b := (hb.block g h.lt).trans h
theorem StAt.new (w : World) (a b : Int) : StAt (w.alloc (.cells #[.int .i64 a, .int .i64 b] 67)) w.heap.size a b := heap_alloc_new _ _
theorem StAt.set0 {w : World} {g : Nat} {a b : Int} (h : StAt w g a b) (p : Int) : StAt (w.setCell ⟨g, 0, none⟩ (.int .i64 p)) g p b := by
  unfold StAt at *
  unfold World.setCell
  show (w.heap.modify g _)[g]? = _
  rw [Array.getElem?_modify, if_pos rfl, h]
  rfl
theorem StAt.set1 {w : World} {g : Nat} {a b : Int} (h : StAt w g a b) (p : Int) : StAt (w.setCell ⟨g, 1, none⟩ (.int .i64 p)) g a p := by
  unfold StAt at *
  unfold World.setCell
  show (w.heap.modify g _)[g]? = _
  rw [Array.getElem?_modify, if_pos rfl, h]
  rfl
theorem StAt.set {w : World} {g : Nat} {a b : Int} (h : StAt w g a b) (p q : Int) : StAt ((w.setCell ⟨g, 0, none⟩ (.int .i64 p)).setCell ⟨g, 1, none⟩ (.int .i64 q)) g p q := (h.set0 p).set1 q
theorem chainB0 {w u v : World} (h : Below w.heap.size w u) (k : Below u.heap.size u v) : Below w.heap.size w v := h.trans (k.mono h.size)
theorem sRight_agg (s n : Int) (w : World) :
    Calls Tryd.prog 50 #[.agg #[.int .i64 s, .int .i64 n]] w fun e w' => e = .returned (.bool (rightB s n)) ∧ Below w.heap.size w w' := sRight_any s n w
theorem ext_tail (l : List UInt8) : (S l).extract 1 l.length = S l.tail := by rw [dropS0, List.drop_one]
theorem text_app (x y z : List UInt8) : S x ++ S y ++ (⟨#[46]⟩ : ByteArray) ++ S z = S (x ++ y ++ 46 :: z) := by
  rw [show (⟨#[46]⟩ : ByteArray) = S [46] from rfl, S_append, S_append, S_append]
  simp
def TxV (s n : Int) : Value := if rightB s n = true then .tuple #[.string (S (textF s n)), .int .i64 0] else .tuple #[.string (S []), .int .i64 1]
set_option maxRecDepth 100000 in
set_option maxHeartbeats 4000000 in
theorem text_no (s n : Int) (h : rightB s n = false) (w : World) :
    Calls Tryd.prog 49 #[Stp s n] w fun e w' => e = .returned (TxV s n) ∧ Below w.heap.size w w' := by
  have HV := Lib.hid (show TxV s n = .tuple #[.string (S []), .int .i64 1] by unfold TxV; rw [h]; rfl)
  have H := Lib.hid h
  clear h
  have HS := Lib.hid (show Stp s n = .agg #[.int .i64 s, .int .i64 n] from rfl)
  rw [HS.out]
  go_enter Tryd.func49, Tryd.ntmps49
  go_wp2_with fail
  rw [← HS.out]
  refine (sRight_any s n _).mono ?_
  rintro e w1 ⟨rfl, hb1⟩
  rw [H.out]
  have h1 : Below w.heap.size w w1 := ((Below.refl _ _).alloc (Nat.le_refl _) _).trans (hb1.mono (by simp))
  go_wp2_with fail
  go_ret2
  exact ⟨by rw [HV.out]; rfl, h1⟩
theorem text_parts (s n : Int) (h : rightB s n = true) : ∃ (sg : List UInt8) (a b : Nat), a < 10000000000000000 ∧ b < 1000000000 ∧ textF s n = sg ++ bodyT a b ∧ ((s < 0 ∧ sg = [45] ∧ turnF s n = ((a : Int), (b : Int))) ∨ (0 ≤ s ∧ sg = [] ∧ s = a ∧ n = b)) := by
  obtain ⟨h1, h2, h3, h4⟩ := (right_iff s n).1 h
  by_cases hs : s < 0
  · have key : ∃ a b : Nat, turnF s n = ((a : Int), (b : Int)) ∧ a < 10000000000000000 ∧ b < 1000000000 := by
      unfold turnF
      by_cases h0 : n = 0
      · refine ⟨(-s).toNat, 0, ?_, by omega, by omega⟩
        rw [if_pos h0]; simp only [Prod.mk.injEq]; omega
      · refine ⟨(-s - 1).toNat, (1000000000 - n).toNat, ?_, by omega, by omega⟩
        rw [if_neg h0]; simp only [Prod.mk.injEq]; omega
    obtain ⟨a, b, e, ha, hb⟩ := key
    refine ⟨[45], a, b, ha, hb, ?_, .inl ⟨hs, rfl, e⟩⟩
    unfold textF
    rw [if_pos hs, e]
    simp
  · refine ⟨[], s.toNat, n.toNat, by omega, by omega, ?_, .inr ⟨by omega, rfl, by omega, by omega⟩⟩
    unfold textF
    rw [if_neg hs]
    rfl
set_option maxRecDepth 100000 in
set_option maxHeartbeats 4000000 in
theorem text_yes (s n : Int) (h : rightB s n = true) (w : World) (hT : TB w.heap.size w) :
    Calls Tryd.prog 49 #[Stp s n] w fun e w' => e = .returned (TxV s n) ∧ Below w.heap.size w w' := by
  obtain ⟨h1, h2, h3, h4⟩ := (right_iff s n).1 h
  obtain ⟨sg, a, b, ha, hb, htx, hcase⟩ := text_parts s n h
  have HV := Lib.hid (show TxV s n = .tuple #[.string (S (sg ++ bodyT a b)), .int .i64 0] by unfold TxV; rw [h, htx]; rfl)
  have H := Lib.hid h
  have hda := digs_len 15 a ha
  have HS := Lib.hid (fun s n => show Stp s n = .agg #[.int .i64 s, .int .i64 n] from rfl)
  have HSG := Lib.hid (show sg.length ≤ 1 by rcases hcase with ⟨_, rfl, _⟩ | ⟨_, rfl, _⟩ <;> simp)
  clear h htx
  rw [HS.out]
  go_enter Tryd.func49, Tryd.ntmps49
  go_wp2_with fail
  rw [← HS.out]
  refine (sRight_any s n _).mono ?_
  rintro e w1 ⟨rfl, hb1⟩
  rw [H.out]
  have hx1 : Below w.heap.size w w1 := ((Below.refl _ _).alloc (Nat.le_refl _) _).trans (hb1.mono (by simp))
  have hS1 : StAt w1 w.heap.size s n := (StAt.new w s n).below hb1
  have HX1 := Lib.hid hx1
  clear hb1 hx1
  have d0 := hS1.c0
  have d1 := hS1.c1
  go_upto_if 12 with fail
  go_cut [4] (fun v wx => v = .string (S sg) ∧ StAt wx w.heap.size a b ∧ Below w.heap.size w wx)
  case first =>
    rcases hcase with ⟨hs, rfl, ht⟩ | ⟨hs, rfl, e1, e2⟩
    · have HT := Lib.hid ht
      clear ht
      go_wp2_with fail
      rw [← HS.out]
      refine (turn_any s n (by omega) (by omega) (by omega) (by omega) _).mono ?_
      rintro e w2 ⟨rfl, hb2⟩
      rw [HT.out, HS.out]
      have hS2 := hS1.below hb2
      have e0 := hS2.c0
      have e1 := hS2.c1
      have hS3 := hS2.set a b
      have hlt := hS2.lt
      have hB2 : Below w.heap.size w w2 := HX1.out.trans (hb2.mono HX1.out.size)
      have hB3 : Below w.heap.size w ((w2.setCell ⟨w.heap.size, 0, none⟩ (.int .i64 a)).setCell ⟨w.heap.size, 1, none⟩ (.int .i64 b)) := (hB2.setCell (Nat.le_refl _) _).setCell (Nat.le_refl _) _
      have f0 : w2.frozen? ⟨w.heap.size, 0, none⟩ = false := hS2.f 0
      have f1 : w2.frozen? ⟨w.heap.size, 1, none⟩ = false := hS2.f 1
      go_wp2_with fail
      go_meet
      exact ⟨rfl, hS3, hB3⟩
    · have E1 := Lib.hid e1
      have E2 := Lib.hid e2
      clear e1 e2
      go_wp2_with fail
      go_meet
      exact ⟨rfl, by rw [← E1.out, ← E2.out]; exact hS1, HX1.out⟩
  case rest =>
    clear hcase d0 d1 hS1
    obtain ⟨rfl, hS, hB⟩ := hcut
    have hlt := hS.lt
    have d0 := hS.c0
    have d1 := hS.c1
    have hTc := hT.on hB
    have hsg := HSG.out
    by_cases hb0 : b = 0
    · have HV2 := Lib.hid (show TxV s n = .tuple #[.string (S (sg ++ decDigits a)), .int .i64 0] by rw [HV.out]; unfold bodyT; rw [if_pos hb0, List.append_nil])
      subst hb0
      go_wp2_with fail
      refine (itoa_big a (by omega) _ hTc).mono ?_
      rintro e w2 ⟨rfl, hb2⟩
      have hS2 := hS.below hb2
      have e0 := hS2.c0
      have e1 := hS2.c1
      have hB2 : Below w.heap.size w w2 := hB.trans (hb2.mono hB.size)
      go_wp2_with fail
      go_ret2
      exact ⟨by rw [HV2.out, ← S_append]; rfl, hB2⟩
    · have HV2 := Lib.hid (show TxV s n = .tuple #[.string (S (sg ++ decDigits a ++ 46 :: fracT b)), .int .i64 0] by rw [HV.out]; unfold bodyT; rw [if_neg hb0, List.append_assoc])
      have hb1 : ((b : Int) == 0) = false := by rw [beq_eq_false_iff_ne]; omega
      obtain ⟨k1, k2, _, _⟩ := digs_big b hb
      have hdl : (decDigits (1000000000 + b)).length = 10 := by rw [k1, List.length_cons, k2]
      have hxt := ext_tail (decDigits (1000000000 + b))
      rw [show (decDigits (1000000000 + b)).tail = frac9 b from rfl] at hxt
      have hfl : (fracT b).length ≤ 9 := by have := (trim_eq0 (frac9 b) 48).2; rw [k2] at this; exact this
      have hI := fun W (h : TB w.heap.size W) => itoa_big (1000000000 + b) (by omega) W h
      rw [show ((1000000000 + b : Nat) : Int) = 1000000000 + (b : Int) by omega] at hI
      have HI := Lib.hid hI
      have hdl1 : 1 ≤ (decDigits (1000000000 + b)).length := by omega
      have hfr : (frac9 b).length ≤ 9 := by omega
      clear hI hdl k1 k2 hb0
      generalize decDigits (1000000000 + b) = D at *
      go_wp2_with fail
      refine (itoa_big a (by omega) _ hTc).mono ?_
      rintro e w2 ⟨rfl, hb2⟩
      have hS2 := hS.below hb2
      have e0 := hS2.c0
      have e1 := hS2.c1
      have hB2 : Below w.heap.size w w2 := hB.trans (hb2.mono hB.size)
      have hT2 := hT.on hB2
      go_wp2_with fail
      refine (HI.out _ hT2).mono ?_
      rintro e w3 ⟨rfl, hb3⟩
      have hB3 : Below w.heap.size w w3 := chainB0 hB2 hb3
      go_wp2_with fail
      refine (Go.Proofs.Tryd.strings_TrimRight_one (S (frac9 b)) 48 (by decide) _ (by rw [S_size]; omega)).mono ?_
      rintro e w4 ⟨rfl, hw4⟩
      subst hw4
      rw [S_data, show (⟨(Lib.trimRightB (frac9 b) 48).toArray⟩ : ByteArray) = S (fracT b) from rfl]
      go_wp2_with fail
      go_ret2
      exact ⟨by rw [HV2.out, ← text_app]; rfl, hB3⟩
theorem Text_any (s n : Int) (w : World) (hT : TB w.heap.size w) :
    Calls Tryd.prog 49 #[Stp s n] w fun e w' => e = .returned (TxV s n) ∧ Below w.heap.size w w' := by
  cases h : rightB s n with
  | true => exact text_yes s n h w hT
  | false => exact text_no s n h w
set_option maxRecDepth 100000 in
set_option maxHeartbeats 4000000 in
theorem awake_any04 (w : World) (hT : TB w.heap.size w) : Calls Tryd.prog 47 #[] w fun e w' => e = .returned (.bool true) ∧ Below w.heap.size w w' := by
  have e1 : stampF [49, 46, 53, 48] = (1, 500000000, 0) := by decide +kernel
  have e2 : stampF [45, 48, 46, 50, 53] = (-1, 750000000, 0) := by decide +kernel
  have e3 : TxV 1 500000000 = .tuple #[.string ⟨#[49, 46, 53]⟩, .int .i64 0] := by
    unfold TxV
    rw [if_pos (by decide +kernel), show textF 1 500000000 = [49, 46, 53] by decide +kernel]
    rfl
  have h1 := fun w => Parse_any [49, 46, 53, 48] (by decide) w
  have h2 := fun w => Parse_any [45, 48, 46, 50, 53] (by decide) w
  have h3 := fun w hT => Text_any 1 500000000 w hT
  rw [e1] at h1
  rw [e2] at h2
  rw [e3] at h3
  have H1 := Lib.hid h1
  have H2 := Lib.hid h2
  have H3 := Lib.hid h3
  clear h1 h2 h3 e1 e2 e3
  go_enter Tryd.func47, Tryd.ntmps47
  go_wp2_with fail
  refine (H1.out _).mono ?_
  rintro e w1 ⟨rfl, hb1⟩
  unfold StV Stp
  have hB1 : Below w.heap.size w (w1.alloc (.cells #[.int .i64 1, .int .i64 500000000] 67)) := hb1.alloc hb1.size _
  have hS1 := StAt.new w1 1 500000000
  have HB1 := Lib.hid hB1
  have HT1 := Lib.hid (tbOn hT hB1)
  go_wp2_with fail
  refine (H3.out _ HT1.out).mono ?_
  rintro e w2 ⟨rfl, hb2⟩
  have hS2 := hS1.below hb2
  have hB2 := chainB0 HB1.out hb2
  have hz2 := hS2.lt
  go_wp2_with fail
  refine (H2.out _).mono ?_
  rintro e w3 ⟨rfl, hb3⟩
  have hS3 := hS2.below hb3
  have hB3 := chainB0 hB2 hb3
  have d0 := hS3.c0
  have d1 := hS3.c1
  have hz3 := hS3.lt
  clear hS1 hS2 hb1 hb2 hb3 hB1
  unfold StV Stp
  go_wp2_with fail
  go_ret
  exact ⟨rfl, hB3.alloc hB3.size _⟩
end Go.Proofs.YtpdknjpicaokkaaDoor
