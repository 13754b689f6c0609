/- Volumes: the sum of bytes and a volume, the program's and the document's, walked. A struct at a block of its own, known whole: stored, loaded, returned. Plain helpers. Volumes: volume.Read, walked. Volumes: the document's Read, walked. Volumes: volume.Part and the document's Part, walked. Volumes: the document's Part, walked. Slices of one-cell elements that the call makes by make, known whole, row by row. Plain helpers. Volumes: volume.Join, walked. Are two slices of strings the same (boulterref26.Same). Volumes: the chapter's example; the law VolumeParts, walked. Bytes at the head of a block, whatever lies behind them; texts copied over them, as far as they fit. The laws on heads: a block with other bytes at some places. Two labels held against each other. Volumes: the law VolumeReads, walked. -/
import Derived.Test.YtjldphpdfckjnaaDoorVolP
import Derived.Test.YtjldphpdfckjnaaDoorHdO
import Derived.Test.YtjldphpdfckjnaaDoorHdV
import Derived.Test.YtjldphpdfckjnaaDoorAtB
import Derived.Laws.Tables
import Derived.Laws.Rows
import Derived.Laws.CopyOwn
import Derived.Test.YtjldphpdfckjnaaDoorHdJ
import Derived.Test.YtjldphpdfckjnaaDoorHdT
import Derived.BigQuiet
import Derived.Test.YtjldphpdfckjnaaDoorStrs
import Derived.Laws.MakeOwn
import Derived.Laws.OwnMore
import Derived.Lib.Join
import Derived.Deep.RegionHeld3
import Derived.Test.YtjldphpdfckjnaaDoorMakeB
import Derived.Test.YtjldphpdfckjnaaDoorPutB
import Derived.Lib.LazyBuf
import Derived.Test.YtjldphpdfckjnaaDoorHdN
import Derived.Test.YtjldphpdfckjnaaDoorRowk
import Derived.Test.YtjldphpdfckjnaaDoorPost5
namespace Go.Proofs.YtjldphpdfckjnaaDoor
open Go.RowKit

theorem sumB_S (l : List UInt8) (k : Nat) (h : k < (S l).size) : sumB (l.take (k + 1)) = sumB (l.take k) + ((S l)[k]'h).toNat := by
  have h2 : k < l.length := by rw [S_size] at h; exact h
  rw [sumB_take l k h2]
  rfl
theorem sumB_tk (l : List UInt8) (k : Nat) (h : l.length ≤ 1000000) : sumB (l.take k) ≤ 255000000 := by
  have := sumB_le (l.take k)
  rw [List.length_take] at this
  omega
set_option maxRecDepth 100000 in
theorem vsum_any (l : List UInt8) (hl : l.length ≤ 1000000) (w : World) :
    Calls Tryd.prog 30 #[.string (S l)] w fun e w' => e = .returned (.int .i64 (sumB l : Nat)) ∧ w = w' := by
  go_enter Tryd.func30, Tryd.ntmps30
  go_wp2
  go_loop [3, 7] (fun n i => ∃ k : Nat, k ≤ l.length ∧ i = .int .i64 k ∧ n = .int .i64 (sumB (l.take k) : Nat)) (fun _ i => l.length - (intOf i).toNat)
  case atStart => exact ⟨0, Nat.zero_le _, rfl, rfl⟩
  case round =>
    obtain ⟨k, hk, rfl, rfl⟩ := hrel
    have hb := sumB_tk l k hl
    by_cases hlt : k < l.length
    · have hlt2 : k < (S l).size := by rw [S_size]; exact hlt
      have HS := Lib.hid (sumB_S l k hlt2)
      have hc := ((S l)[k]'hlt2).toNat_lt
      generalize sumB (l.take k) = A at *
      go_wp2
      go_round
      case rel => exact ⟨k + 1, by omega, by go_num, by rw [HS.out]; go_num⟩
      case measure => simp [intOf]; omega
    · have he : k = l.length := by omega
      have HL := Lib.hid (show sumB (l.take k) = sumB l by rw [he, List.take_length])
      have hbA : sumB l ≤ 255000000 := by rw [← HL.out]; exact hb
      clear he
      generalize sumB (l.take k) = A at *
      go_wp2
      go_ret
      exact ⟨by rw [HL.out]; rfl, rfl⟩
set_option maxRecDepth 100000 in
theorem rvsum_any (l : List UInt8) (hl : l.length ≤ 1000000) (w : World) :
    Calls Tryd.prog 25 #[.string (S l)] w fun e w' => e = .returned (.int .i64 (sumB l : Nat)) ∧ w = w' := by
  go_enter Tryd.func25, Tryd.ntmps25
  go_wp2
  go_loop [3, 4] (fun n i => ∃ k : Nat, k ≤ l.length ∧ i = .int .i64 k ∧ n = .int .i64 (sumB (l.take k) : Nat)) (fun _ i => l.length - (intOf i).toNat)
  case atStart => exact ⟨0, Nat.zero_le _, rfl, rfl⟩
  case round =>
    obtain ⟨k, hk, rfl, rfl⟩ := hrel
    have hb := sumB_tk l k hl
    by_cases hlt : k < l.length
    · have hlt2 : k < (S l).size := by rw [S_size]; exact hlt
      have HS := Lib.hid (sumB_S l k hlt2)
      have hc := ((S l)[k]'hlt2).toNat_lt
      generalize sumB (l.take k) = A at *
      go_wp2
      go_round
      case rel => exact ⟨k + 1, by omega, by go_num, by rw [HS.out]; go_num⟩
      case measure => simp [intOf]; omega
    · have he : k = l.length := by omega
      have HL := Lib.hid (show sumB (l.take k) = sumB l by rw [he, List.take_length])
      have hbA : sumB l ≤ 255000000 := by rw [← HL.out]; exact hb
      clear he
      generalize sumB (l.take k) = A at *
      go_wp2
      go_ret
      exact ⟨by first | rfl | (rw [HL.out]; rfl) | (rw [HL.out]; go_num), rfl⟩
theorem wfI_of (v : Int) (h0 : 0 ≤ v) (h1 : v < 8589934592) : wfI v := by
  unfold wfI
  simp [Lit.wf, IntKind.min, IntKind.max, IntKind.signed, IntKind.bits]
  omega
theorem wf_vol (s : List UInt8) (num cnt : Int) (n0 : 0 ≤ num) (n1 : num < 2097152) (c0 : 0 ≤ cnt) (c1 : cnt < 2097152) (hs : s.length ≤ 1000000) : wfH (volH s num cnt) := by
  have := sumB_le s
  exact ⟨wfI_of 0 (by decide) (by decide), wfI_of num n0 (by omega), wfI_of cnt c0 (by omega), wfI_of _ (by show 0 ≤ (s.length : Int); omega) (by show (s.length : Int) < _; omega), wfI_of _ (by show 0 ≤ (sumB s : Int); omega) (by show (sumB s : Int) < _; omega), wfI_of 0 (by decide) (by decide), wfI_of 0 (by decide) (by decide)⟩
theorem short_vol (s : List UInt8) (num cnt : Int) : shortH (volH s num cnt) 1000000 := ⟨by show volN.length ≤ _; decide, by show 0 ≤ _; decide, by show 0 ≤ _; decide, by show 0 ≤ _; decide⟩
theorem vol_val (s : List UInt8) (num cnt : Int) : HV (volH s num cnt) = .agg #[.string ⟨#[118, 111, 108, 117, 109, 101]⟩, .string ⟨#[]⟩, .int .u8 86, .int .i64 0, .int .i64 num, .int .i64 cnt, .int .i64 s.length, .int .i64 (sumB s : Nat), .string ⟨#[]⟩, .string ⟨#[]⟩, .int .i64 0, .int .i64 0, .int .i64 0] := rfl
set_option maxRecDepth 100000 in
theorem one_any (s : List UInt8) (num cnt : Int) (n0 : 0 ≤ num) (n1 : num < 2097152) (c0 : 0 ≤ cnt) (c1 : cnt < 2097152) (hs : s.length ≤ 1000000) (w : World) :
    Calls Tryd.prog 33 #[.string (S s), .int .i64 num, .int .i64 cnt] w fun e w' => e = .returned (.string (S (oneV s num cnt))) ∧ Below w.heap.size w w' := by
  have HB := Lib.hid (fun w => hBuild_yes (volH s num cnt) w (short_vol s num cnt) (wf_vol s num cnt n0 n1 c0 c1 hs) (fits_vol s num cnt n0 n1 c0 c1 hs))
  rw [vol_val] at HB
  have HS := Lib.hid (show S (buildN (volH s num cnt)) ++ S (padB s) = S (oneV s num cnt) from S_append _ _)
  have hBl : (buildN (volH s num cnt)).length ≤ 1000 := by rw [(build_fields _ (fits_vol s num cnt n0 n1 c0 c1 hs)).len]; decide
  have hPl : (padB s).length ≤ 2000000 := by
    have := restI_bd s.length
    unfold padB zerosL padK; rw [List.length_append, List.length_replicate]; omega
  generalize buildN (volH s num cnt) = B at *
  have HU := Lib.hid (fun w => vsum_any s hs w)
  have HP := Lib.hid (fun w => Pad_any s hs w)
  generalize padB s = PB at *
  generalize sumB s = A at *
  go_enter Tryd.func33, Tryd.ntmps33
  go_wp2_with fail
  refine (HU.out _).mono ?_
  rintro e w1 ⟨rfl, rfl⟩
  go_wp2_with fail
  refine (HB.out _).mono ?_
  rintro e w1 ⟨rfl, hb1⟩
  go_wp2_with fail
  refine (HP.out _).mono ?_
  rintro e w2 ⟨rfl, hb2⟩
  go_wp2_with fail
  go_ret
  exact ⟨by rw [HS.out]; rfl, chainS hb1 hb2⟩
set_option maxRecDepth 100000 in
theorem rone_any (s : List UInt8) (num cnt : Int) (n0 : 0 ≤ num) (n1 : num < 2097152) (c0 : 0 ≤ cnt) (c1 : cnt < 2097152) (hs : s.length ≤ 1000000) (w : World) :
    Calls Tryd.prog 9 #[.string (S s), .int .i64 num, .int .i64 cnt] w fun e w' => e = .returned (.string (S (oneV s num cnt))) ∧ Below w.heap.size w w' := by
  have HB := Lib.hid (fun w => rBuild_any (volH s num cnt) w (fits_vol s num cnt n0 n1 c0 c1 hs))
  rw [vol_val] at HB
  have HS := Lib.hid (show S (buildN (volH s num cnt)) ++ S (padB s) = S (oneV s num cnt) from S_append _ _)
  have hBl : (buildN (volH s num cnt)).length ≤ 1000 := by rw [(build_fields _ (fits_vol s num cnt n0 n1 c0 c1 hs)).len]; decide
  have hPl : (padB s).length ≤ 2000000 := by
    have := restI_bd s.length
    unfold padB zerosL padK; rw [List.length_append, List.length_replicate]; omega
  generalize buildN (volH s num cnt) = B at *
  have HU := Lib.hid (fun w => rvsum_any s hs w)
  have HP := Lib.hid (fun w => rPad_any s hs w)
  generalize padB s = PB at *
  generalize sumB s = A at *
  go_enter Tryd.func9, Tryd.ntmps9
  go_wp2_with fail
  refine (HU.out _).mono ?_
  rintro e w1 ⟨rfl, rfl⟩
  go_wp2_with fail
  refine (HB.out _).mono ?_
  rintro e w1 ⟨rfl, hb1⟩
  go_wp2_with fail
  refine (HP.out _).mono ?_
  rintro e w2 ⟨rfl, rfl⟩
  go_wp2_with fail
  go_ret
  exact ⟨by rw [HS.out]; rfl, hb1⟩
end Go.Proofs.YtjldphpdfckjnaaDoor
namespace Go.Proofs.YtjldphpdfckjnaaDoor
open Go.RowKit

theorem rw_load {T : TypeId} {fs : Array Field} (hu : Tryd.prog.underlying T = some (.struct fs)) {ops : Array Oper} {rest : List Oper} {o : Oper} {a : Act} {Q : Exit → Act → World → Prop} {w : World} (hgd : o.guard = none) (x : Operand) (ho : o.op = .load T x)
    (g : Nat) (hx : a.eval x = .pointer (some ⟨g, 0, none⟩)) (C : List Value) (hA : AtB w g T C) (hi : (Tryd.prog.info? T).map (·.size) = some C.toArray.size) (h : wpList Tryd.prog ops Q rest (a.put o.dst (.agg C.toArray)) w) : wpList Tryd.prog ops Q (o :: rest) a w :=
  wpList_load_row hgd T x ho g hx T C.toArray (0, 0) _ hA hu rfl hi h
theorem rw_store {T : TypeId} {ops : Array Oper} {rest : List Oper} {o : Oper} {a : Act} {Q : Exit → Act → World → Prop} {w : World} (hgd : o.guard = none) (x y : Operand) (ho : o.op = .store T x y)
    (g : Nat) (hx : a.eval x = .pointer (some ⟨g, 0, none⟩)) (C C2 : List Value) (hA : AtB w g T C) (hy : a.eval y = .agg C2.toArray) (hi : (Tryd.prog.info? T).map (·.size) = some C2.toArray.size) (hl : C.toArray.size = C2.toArray.size) (h1 : C2.toArray.all (·.oneCell') = true)
    (B : Nat) (wb : World) (hb : Below B wb w) (hBg : B ≤ g)
    (h : ∀ w', AtB w' g T C2 → Below B wb w' → (∀ k, k ≠ g → w'.heap[k]? = w.heap[k]?) → wpList Tryd.prog ops Q rest (a.put o.dst undef) w') : wpList Tryd.prog ops Q (o :: rest) a w :=
  wpList_store_row hgd T x y ho g C2.toArray hx hy T C.toArray hA hi hl h1
    (h _ (setRow_heap w g _ _ _ _ hA) (below_setRow hb hBg _) (fun k hk => setRow_other w g k _ hk))
theorem results_rw1 {fn : Func} {t : Tmp} {T : TypeId} {fs : Array Field} (hu : Tryd.prog.underlying T = some (.struct fs)) (h : fn.results = #[.cell t T]) (tmps : Array Value) (w : World) (g : Nat) (C : List Value) (hp : tmps.getD t undef = .pointer (some ⟨g, 0, none⟩)) (hA : AtB w g T C) (hi : (Tryd.prog.info? T).map (·.size) = some C.toArray.size) :
    (results fn tmps).run Tryd.prog w = .ok (.agg C.toArray) w := by
  have hl := run_loadVar_row (P := Tryd.prog) w g T T C.toArray (0, 0) _ hA hu rfl hi
  have hp2 : tmps[t]?.getD undef = .pointer (some ⟨g, 0, none⟩) := by simpa using hp
  simp [results, h, hp2, asAddr, hl]
theorem results_rw2 {fn : Func} {t u : Tmp} {T : TypeId} {fs : Array Field} (hu : Tryd.prog.underlying T = some (.struct fs)) (h : fn.results = #[.cell t T, .tmp u]) (tmps : Array Value) (w : World) (g : Nat) (C : List Value) (hp : tmps.getD t undef = .pointer (some ⟨g, 0, none⟩)) (hA : AtB w g T C) (hi : (Tryd.prog.info? T).map (·.size) = some C.toArray.size) :
    (results fn tmps).run Tryd.prog w = .ok (.tuple #[.agg C.toArray, tmps.getD u undef]) w := by
  have hl := run_loadVar_row (P := Tryd.prog) w g T T C.toArray (0, 0) _ hA hu rfl hi
  have hp2 : tmps[t]?.getD undef = .pointer (some ⟨g, 0, none⟩) := by simpa using hp
  simp [results, h, hp2, asAddr, hl]
theorem results_rw3 {fn : Func} {t u v : Tmp} {T : TypeId} {fs : Array Field} (hu : Tryd.prog.underlying T = some (.struct fs)) (h : fn.results = #[.cell t T, .tmp u, .tmp v]) (tmps : Array Value) (w : World) (g : Nat) (C : List Value) (hp : tmps.getD t undef = .pointer (some ⟨g, 0, none⟩)) (hA : AtB w g T C) (hi : (Tryd.prog.info? T).map (·.size) = some C.toArray.size) :
    (results fn tmps).run Tryd.prog w = .ok (.tuple #[.agg C.toArray, tmps.getD u undef, tmps.getD v undef]) w := by
  have hl := run_loadVar_row (P := Tryd.prog) w g T T C.toArray (0, 0) _ hA hu rfl hi
  have hp2 : tmps[t]?.getD undef = .pointer (some ⟨g, 0, none⟩) := by simpa using hp
  simp [results, h, hp2, asAddr, hl]
end Go.Proofs.YtjldphpdfckjnaaDoor
namespace Go.Proofs.YtjldphpdfckjnaaDoor
open Go.RowKit

def LC (x : LabL) : List Value := [.int .i64 x.num, .int .i64 x.cnt, .int .i64 x.size, .int .i64 x.sum]
theorem LabV_eq (x : LabL) : LabV x = .agg (LC x).toArray := rfl
theorem LC_one (x : LabL) : (LC x).toArray.all (·.oneCell') = true := by simp [LC, Value.oneCell']
theorem chainB {w0 u v : World} {B : Nat} (h : Below B w0 u) (k : Below u.heap.size u v) (hB : B ≤ u.heap.size) : Below B w0 v := h.trans (k.mono hB)
theorem info_lab : (Tryd.prog.info? 31).map (·.size) = some 4 := by kernel_rfl
set_option maxRecDepth 100000 in
set_option maxHeartbeats 8000000 in
theorem vRead_any (v : List UInt8) (hv : v.length ≤ 1000000) (w : World) :
    Calls Tryd.prog 11 #[.string (S v)] w fun e w' => e = .returned (.tuple #[LabV (readV v).1, .string (S (readV v).2.1), .int .i64 (readV v).2.2]) ∧ Below w.heap.size w w' := by
  have hR0 : AtB (w.alloc (.cells #[.int .i64 0, .int .i64 0, .int .i64 0, .int .i64 0] 31)) w.heap.size 31 (LC noneL) := AtB.new w _ (LC noneL)
  have hx0 : Below w.heap.size w (w.alloc (.cells #[.int .i64 0, .int .i64 0, .int .i64 0, .int .i64 0] 31)) := (Below.refl _ _).alloc (Nat.le_refl _) _
  by_cases h0 : v.length < 512
  · have HF : Hid (readV v = (noneL, [], 3)) := Lib.hid (by unfold readV; rw [if_pos h0])
    have h0I : (v.length : Int) < 512 := by omega
    clear h0
    go_enter Tryd.func11, Tryd.ntmps11
    go_wp2_with (first | (refine rw_store rfl _ _ rfl _ rfl (LC noneL) (LC noneL) hR0 rfl info_lab rfl (LC_one _) _ w hx0 (Nat.le_refl _) ?_; intro w9 hR9 hb9 hk9))
    refine bodyPost_ret (results_rw3 Tryd.underlying31 rfl _ _ _ (LC noneL) rfl hR9 info_lab) rfl ⟨by rw [HF.out]; rfl, hb9⟩
  have h0I : ¬ (v.length : Int) < 512 := by omega
  have h0J : (512 : Int) ≤ (v.length : Int) := by omega
  have HF : Hid (readV v = (if (parseN (v.take 512)).2 ≠ 0 then (noneL, [], (parseN (v.take 512)).2) else if (parseN (v.take 512)).1.kind ≠ 86 ∨ (parseN (v.take 512)).1.name ≠ volN then (noneL, [], 5) else if (parseN (v.take 512)).1.gid = 0 ∨ (parseN (v.take 512)).1.gid ≤ (parseN (v.take 512)).1.uid then (noneL, [], 6) else if (unpF (v.drop 512) (parseN (v.take 512)).1.size).2 ≠ 0 then (noneL, [], (unpF (v.drop 512) (parseN (v.take 512)).1.size).2) else if (sumB (unpF (v.drop 512) (parseN (v.take 512)).1.size).1 : Int) ≠ (parseN (v.take 512)).1.time then (noneL, [], 4) else (⟨(parseN (v.take 512)).1.uid, (parseN (v.take 512)).1.gid, (parseN (v.take 512)).1.size, (parseN (v.take 512)).1.time⟩, (unpF (v.drop 512) (parseN (v.take 512)).1.size).1, 0))) := Lib.hid (by unfold readV; rw [if_neg h0])
  have e1 := take_S v 512
  have e2 := ext_from v 512
  have hdl : (v.drop 512).length ≤ 1000000 := by rw [List.length_drop]; omega
  have htk : (v.take 512).length ≤ 1000000 := by rw [List.length_take]; omega
  generalize v.take 512 = tk at *
  generalize v.drop 512 = d at *
  have HPA := Lib.hid (fun w => hParse_any tk w htk)
  have HUN := Lib.hid (fun n w => Unpad_any d hdl n w)
  generalize parseN tk = P at *
  obtain ⟨H1, c1⟩ := P
  clear h0 htk
  go_enter Tryd.func11, Tryd.ntmps11
  go_wp2_with fail
  refine (HPA.out _).mono ?_
  rintro e w2 ⟨rfl, hb2⟩
  have hR2 : AtB w2 w.heap.size 31 (LC noneL) := hR0.under hb2 (by simp)
  have hx2 : Below w.heap.size w w2 := hx0.trans (hb2.mono hx0.size)
  clear hR0 hx0 hb2 HPA
  have HP3 : HAt (w2.alloc (.cells (HC H1).toArray 68)) w2.heap.size H1 := AtB.new w2 _ (HC H1)
  have hR3 : AtB (w2.alloc (.cells (HC H1).toArray 68)) w.heap.size 31 (LC noneL) := hR2.alloc _
  have hx3 : Below w.heap.size w (w2.alloc (.cells (HC H1).toArray 68)) := hx2.alloc hx2.size _
  have hl2 : w.heap.size < w2.heap.size := hR2.lt
  clear hR2 hx2
  by_cases he : c1 = 0
  rotate_left
  · have hfb : ((c1 : Int) != 0) = true := bne_iff_ne.2 (by omega)
    replace HF : Hid (readV v = (noneL, [], c1)) := Lib.hid (by rw [HF.out, if_pos he])
    clear he
    go_wp2_with (first | (refine app_storeAll rfl _ _ _ rfl (HC noneH).toArray (HC H1).toArray rfl rfl info_head rfl (HC_one _) ?_; generalize (w2.alloc (.cells (HC H1).toArray 68)) = W3 at *; generalize w2.heap.size = g1 at *) | (refine rw_store rfl _ _ rfl _ rfl (LC noneL) (LC noneL) hR3 rfl info_lab rfl (LC_one _) _ w hx3 (Nat.le_refl _) ?_; intro w9 hR9 hb9 hk9))
    refine bodyPost_ret (results_rw3 Tryd.underlying31 rfl _ _ _ (LC noneL) rfl hR9 info_lab) rfl ⟨by rw [HF.out]; rfl, hb9⟩
  subst he
  replace HF := Lib.hid (HF.out.trans (if_neg (fun g => g rfl)))
  have hfb : (((0 : Nat) : Int) != 0) = false := rfl
  go_upto_region 6 with (first | (refine app_storeAll rfl _ _ _ rfl (HC noneH).toArray (HC H1).toArray rfl rfl info_head rfl (HC_one _) ?_; generalize (w2.alloc (.cells (HC H1).toArray 68)) = W3 at *; generalize w2.heap.size = g1 at *))
  have c0 : W3.cell? ⟨g1, 0, none⟩ = some (.string (S H1.name)) := HP3.cell 0
  have c2 : W3.cell? ⟨g1, 2, none⟩ = some (.int .u8 H1.kind.toNat) := HP3.cell 2
  by_cases hk : H1.kind = 86
  rotate_left
  · replace HF : Hid (readV v = (noneL, [], 5)) := Lib.hid (HF.out.trans (if_pos (.inl hk)))
    have hkb := byte_bne _ _ 86 rfl hk
    clear hk
    go_wp2_with (first | (refine rw_store rfl _ _ rfl _ rfl (LC noneL) (LC noneL) hR3 rfl info_lab rfl (LC_one _) _ w hx3 (Nat.le_refl _) ?_; intro w9 hR9 hb9 hk9))
    refine bodyPost_ret (results_rw3 Tryd.underlying31 rfl _ _ _ (LC noneL) rfl hR9 info_lab) rfl ⟨by rw [HF.out]; rfl, hb9⟩
  have hkb := byte_bne' _ _ 86 rfl hk
  by_cases hn : H1.name = volN
  rotate_left
  · replace HF : Hid (readV v = (noneL, [], 5)) := Lib.hid (HF.out.trans (if_pos (.inr hn)))
    have hnb : (H1.name != [118, 111, 108, 117, 109, 101]) = true := bne_iff_ne.2 hn
    have hnb2 : (H1.name == [118, 111, 108, 117, 109, 101]) = false := beq_eq_false_iff_ne.2 hn
    clear hk hn
    go_wp2_with (first | (refine rw_store rfl _ _ rfl _ rfl (LC noneL) (LC noneL) hR3 rfl info_lab rfl (LC_one _) _ w hx3 (Nat.le_refl _) ?_; intro w9 hR9 hb9 hk9))
    refine bodyPost_ret (results_rw3 Tryd.underlying31 rfl _ _ _ (LC noneL) rfl hR9 info_lab) rfl ⟨by rw [HF.out]; rfl, hb9⟩
  replace HF := Lib.hid (HF.out.trans (if_neg (fun g => g.elim (fun g => g hk) (fun g => g hn))))
  rw [hn] at c0
  have c4 : W3.cell? ⟨g1, 4, none⟩ = some (.int .i64 H1.uid) := HP3.cell 4
  have c5 : W3.cell? ⟨g1, 5, none⟩ = some (.int .i64 H1.gid) := HP3.cell 5
  have c6 : W3.cell? ⟨g1, 6, none⟩ = some (.int .i64 H1.size) := HP3.cell 6
  have c7 : W3.cell? ⟨g1, 7, none⟩ = some (.int .i64 H1.time) := HP3.cell 7
  unfold volN at c0
  clear hk hn HP3
  generalize H1.kind = kd at *
  generalize H1.uid = ui at *
  generalize H1.gid = gi at *
  generalize H1.size = sz at *
  generalize H1.time = ti at *
  by_cases hg0 : gi = 0
  · replace HF : Hid (readV v = (noneL, [], 6)) := Lib.hid (HF.out.trans (if_pos (.inl hg0)))
    have hgb : (gi == 0) = true := by rw [hg0]; rfl
    clear hg0
    go_wp2_with (first | (refine rw_store rfl _ _ rfl _ rfl (LC noneL) (LC noneL) hR3 rfl info_lab rfl (LC_one _) _ w hx3 (Nat.le_refl _) ?_; intro w9 hR9 hb9 hk9))
    refine bodyPost_ret (results_rw3 Tryd.underlying31 rfl _ _ _ (LC noneL) rfl hR9 info_lab) rfl ⟨by rw [HF.out]; rfl, hb9⟩
  have hgb : (gi == 0) = false := beq_eq_false_iff_ne.2 hg0
  by_cases hg1 : gi ≤ ui
  · replace HF : Hid (readV v = (noneL, [], 6)) := Lib.hid (HF.out.trans (if_pos (.inr hg1)))
    clear hg0
    go_wp2_with (first | (refine rw_store rfl _ _ rfl _ rfl (LC noneL) (LC noneL) hR3 rfl info_lab rfl (LC_one _) _ w hx3 (Nat.le_refl _) ?_; intro w9 hR9 hb9 hk9))
    refine bodyPost_ret (results_rw3 Tryd.underlying31 rfl _ _ _ (LC noneL) rfl hR9 info_lab) rfl ⟨by rw [HF.out]; rfl, hb9⟩
  replace HF := Lib.hid (HF.out.trans (if_neg (fun g => g.elim (fun g => hg0 g) (fun g => hg1 g))))
  have hg2 : ui < gi := by omega
  clear hg0 hg1
  have hul := unp_len d sz
  replace HUN := Lib.hid (fun w => HUN.out sz w)
  unfold unpV at HUN
  generalize unpF d sz = U at *
  obtain ⟨u, ce⟩ := U
  have hul : u.length ≤ 1000000 := Nat.le_trans hul hdl
  have HSU := Lib.hid (fun w => vsum_any u hul w)
  go_upto_region 10 with (fail)
  go_quiet ((go_at_call 29; exact Calls.quiet_of (HUN.out _)))
  have hD : Below W3.heap.size W3 (W3.drewN nq) := belowDrewN (Below.refl _ _)
  have hR4 := hR3.below hD
  have hx4 : Below w.heap.size w (W3.drewN nq) := belowDrewN hx3
  have d4 : (W3.drewN nq).cell? ⟨g1, 4, none⟩ = _ := c4
  have d5 : (W3.drewN nq).cell? ⟨g1, 5, none⟩ = _ := c5
  have d6 : (W3.drewN nq).cell? ⟨g1, 6, none⟩ = _ := c6
  have d7 : (W3.drewN nq).cell? ⟨g1, 7, none⟩ = _ := c7
  clear hD hR3 hx3 c0 c2 c4 c5 c6 c7 HUN hgb hg2 hkb
  generalize W3.drewN nq = W4 at *
  by_cases he : ce = 0
  rotate_left
  · have hcb : ((ce : Int) != 0) = true := bne_iff_ne.2 (by omega)
    replace HF : Hid (readV v = (noneL, [], ce)) := Lib.hid (HF.out.trans (if_pos he))
    clear he
    go_wp2_with (first | (refine rw_store rfl _ _ rfl _ rfl (LC noneL) (LC noneL) hR4 rfl info_lab rfl (LC_one _) _ w hx4 (Nat.le_refl _) ?_; intro w9 hR9 hb9 hk9))
    refine bodyPost_ret (results_rw3 Tryd.underlying31 rfl _ _ _ (LC noneL) rfl hR9 info_lab) rfl ⟨by rw [HF.out]; rfl, hb9⟩
  subst he
  replace HF := Lib.hid (HF.out.trans (if_neg (fun g => g rfl)))
  have hcb : (((0 : Nat) : Int) != 0) = false := rfl
  go_upto_region 13 with (fail)
  go_quiet ((go_at_call 30; exact qsame (HSU.out _)))
  have hD : Below W4.heap.size W4 (W4.drewN nq) := belowDrewN (Below.refl _ _)
  have hR5 := hR4.below hD
  have hx5 : Below w.heap.size w (W4.drewN nq) := belowDrewN hx4
  have f4 : (W4.drewN nq).cell? ⟨g1, 4, none⟩ = _ := d4
  have f5 : (W4.drewN nq).cell? ⟨g1, 5, none⟩ = _ := d5
  have f6 : (W4.drewN nq).cell? ⟨g1, 6, none⟩ = _ := d6
  have f7 : (W4.drewN nq).cell? ⟨g1, 7, none⟩ = _ := d7
  clear hD hR4 hx4 d4 d5 d6 d7 HSU
  generalize W4.drewN nq = W5 at *
  by_cases hs : (sumB u : Int) = ti
  rotate_left
  · have hsb : ((sumB u : Int) != ti) = true := bne_iff_ne.2 hs
    replace HF : Hid (readV v = (noneL, [], 4)) := Lib.hid (HF.out.trans (if_pos hs))
    clear hs
    generalize sumB u = su at *
    go_wp2_with (first | (refine rw_store rfl _ _ rfl _ rfl (LC noneL) (LC noneL) hR5 rfl info_lab rfl (LC_one _) _ w hx5 (Nat.le_refl _) ?_; intro w9 hR9 hb9 hk9))
    refine bodyPost_ret (results_rw3 Tryd.underlying31 rfl _ _ _ (LC noneL) rfl hR9 info_lab) rfl ⟨by rw [HF.out]; rfl, hb9⟩
  have hsb : ((sumB u : Int) != ti) = false := by rw [hs]; simp
  replace HF := Lib.hid (HF.out.trans (if_neg (fun g => g hs)))
  clear hs
  generalize sumB u = su at *
  go_wp2_with (first | (refine rw_store rfl _ _ rfl _ rfl (LC noneL) (LC (⟨ui, gi, sz, ti⟩ : LabL)) hR5 rfl info_lab rfl (LC_one _) _ w hx5 (Nat.le_refl _) ?_; intro w9 hR9 hb9 hk9))
  refine bodyPost_ret (results_rw3 Tryd.underlying31 rfl _ _ _ (LC (⟨ui, gi, sz, ti⟩ : LabL)) rfl hR9 info_lab) rfl ⟨by rw [HF.out]; rfl, hb9⟩
end Go.Proofs.YtjldphpdfckjnaaDoor
namespace Go.Proofs.YtjldphpdfckjnaaDoor
open Go.RowKit

theorem info_rlab : (Tryd.prog.info? 35).map (·.size) = some 4 := by kernel_rfl
set_option maxRecDepth 100000 in
set_option maxHeartbeats 8000000 in
theorem rvRead_any (v : List UInt8) (hv : v.length ≤ 1000000) (w : World) :
    Calls Tryd.prog 12 #[.string (S v)] w fun e w' => e = .returned (.tuple #[LabV (readV v).1, .string (S (readV v).2.1), .int .i64 (readV v).2.2]) ∧ Below w.heap.size w w' := by
  have hR0 : AtB (w.alloc (.cells #[.int .i64 0, .int .i64 0, .int .i64 0, .int .i64 0] 35)) w.heap.size 35 (LC noneL) := AtB.new w _ (LC noneL)
  have hx0 : Below w.heap.size w (w.alloc (.cells #[.int .i64 0, .int .i64 0, .int .i64 0, .int .i64 0] 35)) := (Below.refl _ _).alloc (Nat.le_refl _) _
  have hR1 : AtB ((w.alloc (.cells #[.int .i64 0, .int .i64 0, .int .i64 0, .int .i64 0] 35)).alloc (.cells #[.int .i64 0, .int .i64 0, .int .i64 0, .int .i64 0] 35)) w.heap.size 35 (LC noneL) := AtB.alloc hR0 _
  have hx1 : Below w.heap.size w ((w.alloc (.cells #[.int .i64 0, .int .i64 0, .int .i64 0, .int .i64 0] 35)).alloc (.cells #[.int .i64 0, .int .i64 0, .int .i64 0, .int .i64 0] 35)) := hx0.alloc (by simp) _
  have hN1 : AtB ((w.alloc (.cells #[.int .i64 0, .int .i64 0, .int .i64 0, .int .i64 0] 35)).alloc (.cells #[.int .i64 0, .int .i64 0, .int .i64 0, .int .i64 0] 35)) (w.heap.size + 1) 35 (LC noneL) := AtB.new2 _ _ _ (LC noneL) (by simp)
  clear hR0 hx0
  by_cases h0 : v.length < 512
  · have HF : Hid (readV v = (noneL, [], 3)) := Lib.hid (by unfold readV; rw [if_pos h0])
    have h0I : (v.length : Int) < 512 := by omega
    clear h0
    go_enter Tryd.func12, Tryd.ntmps12
    go_upto_region 2 with (fail)
    generalize ((w.alloc (.cells #[.int .i64 0, .int .i64 0, .int .i64 0, .int .i64 0] 35)).alloc (.cells #[.int .i64 0, .int .i64 0, .int .i64 0, .int .i64 0] 35)) = W at *
    go_wp2_with (first | (refine rw_load Tryd.underlying35 rfl _ rfl _ rfl (LC noneL) hN1 info_rlab ?_) | (refine rw_store rfl _ _ rfl _ rfl (LC noneL) (LC noneL) hR1 rfl info_rlab rfl (LC_one _) _ w hx1 (Nat.le_refl _) ?_; intro w9 hR9 hb9 hk9))
    refine bodyPost_ret (results_rw3 Tryd.underlying35 rfl _ _ _ (LC noneL) rfl hR9 info_rlab) rfl ⟨by rw [HF.out]; rfl, hb9⟩
  have h0I : ¬ (v.length : Int) < 512 := by omega
  have h0J : (512 : Int) ≤ (v.length : Int) := by omega
  have HF : Hid (readV v = (if (parseN (v.take 512)).2 ≠ 0 then (noneL, [], (parseN (v.take 512)).2) else if (parseN (v.take 512)).1.kind ≠ 86 ∨ (parseN (v.take 512)).1.name ≠ volN then (noneL, [], 5) else if (parseN (v.take 512)).1.gid = 0 ∨ (parseN (v.take 512)).1.gid ≤ (parseN (v.take 512)).1.uid then (noneL, [], 6) else if (unpF (v.drop 512) (parseN (v.take 512)).1.size).2 ≠ 0 then (noneL, [], (unpF (v.drop 512) (parseN (v.take 512)).1.size).2) else if (sumB (unpF (v.drop 512) (parseN (v.take 512)).1.size).1 : Int) ≠ (parseN (v.take 512)).1.time then (noneL, [], 4) else (⟨(parseN (v.take 512)).1.uid, (parseN (v.take 512)).1.gid, (parseN (v.take 512)).1.size, (parseN (v.take 512)).1.time⟩, (unpF (v.drop 512) (parseN (v.take 512)).1.size).1, 0))) := Lib.hid (by unfold readV; rw [if_neg h0])
  have e1 := take_S v 512
  have e2 := ext_from v 512
  have hdl : (v.drop 512).length ≤ 1000000 := by rw [List.length_drop]; omega
  have htk : (v.take 512).length ≤ 1000000 := by rw [List.length_take]; omega
  generalize v.take 512 = tk at *
  generalize v.drop 512 = d at *
  have HPA := Lib.hid (fun w => rParseH_any tk w)
  have HUN := Lib.hid (fun n w => rUnpad_any d hdl n w)
  generalize parseN tk = P at *
  obtain ⟨H1, c1⟩ := P
  clear h0 htk
  go_enter Tryd.func12, Tryd.ntmps12
  go_upto_region 2 with (fail)
  have hl1 : w.heap.size + 1 < ((w.alloc (.cells #[.int .i64 0, .int .i64 0, .int .i64 0, .int .i64 0] 35)).alloc (.cells #[.int .i64 0, .int .i64 0, .int .i64 0, .int .i64 0] 35)).heap.size := by simp
  have hl0 : w.heap.size < ((w.alloc (.cells #[.int .i64 0, .int .i64 0, .int .i64 0, .int .i64 0] 35)).alloc (.cells #[.int .i64 0, .int .i64 0, .int .i64 0, .int .i64 0] 35)).heap.size := by simp; omega
  generalize ((w.alloc (.cells #[.int .i64 0, .int .i64 0, .int .i64 0, .int .i64 0] 35)).alloc (.cells #[.int .i64 0, .int .i64 0, .int .i64 0, .int .i64 0] 35)) = W at *
  go_wp2_with fail
  refine (HPA.out _).mono ?_
  rintro e w2 ⟨rfl, hb2⟩
  have hR2 : AtB w2 w.heap.size 35 (LC noneL) := hR1.under hb2 hl0
  have hN2 : AtB w2 (w.heap.size + 1) 35 (LC noneL) := hN1.under hb2 hl1
  have hx2 : Below w.heap.size w w2 := hx1.trans (hb2.mono hx1.size)
  clear hR1 hN1 hx1 hb2 HPA hl0 hl1
  have HP3 : HAt (w2.alloc (.cells (HC H1).toArray 68)) w2.heap.size H1 := AtB.new w2 _ (HC H1)
  have hR3 : AtB (w2.alloc (.cells (HC H1).toArray 68)) w.heap.size 35 (LC noneL) := hR2.alloc _
  have hN3 : AtB (w2.alloc (.cells (HC H1).toArray 68)) (w.heap.size + 1) 35 (LC noneL) := hN2.alloc _
  have hx3 : Below w.heap.size w (w2.alloc (.cells (HC H1).toArray 68)) := hx2.alloc hx2.size _
  have hl2 : w.heap.size < w2.heap.size := hR2.lt
  have hl22 : w.heap.size + 1 < w2.heap.size := hN2.lt
  clear hR2 hx2 hN2
  by_cases he : c1 = 0
  rotate_left
  · have hfb : ((c1 : Int) != 0) = true := bne_iff_ne.2 (by omega)
    replace HF : Hid (readV v = (noneL, [], c1)) := Lib.hid (by rw [HF.out, if_pos he])
    clear he
    go_wp2_with (first | (refine app_storeAll rfl _ _ _ rfl (HC noneH).toArray (HC H1).toArray rfl rfl info_head rfl (HC_one _) ?_; generalize (w2.alloc (.cells (HC H1).toArray 68)) = W3 at *; generalize w2.heap.size = g1 at *) | (refine rw_load Tryd.underlying35 rfl _ rfl _ rfl (LC noneL) hN3 info_rlab ?_) | (refine rw_store rfl _ _ rfl _ rfl (LC noneL) (LC noneL) hR3 rfl info_rlab rfl (LC_one _) _ w hx3 (Nat.le_refl _) ?_; intro w9 hR9 hb9 hk9))
    refine bodyPost_ret (results_rw3 Tryd.underlying35 rfl _ _ _ (LC noneL) rfl hR9 info_rlab) rfl ⟨by rw [HF.out]; rfl, hb9⟩
  subst he
  replace HF := Lib.hid (HF.out.trans (if_neg (fun g => g rfl)))
  have hfb : (((0 : Nat) : Int) != 0) = false := rfl
  go_upto_region 7 with (first | (refine app_storeAll rfl _ _ _ rfl (HC noneH).toArray (HC H1).toArray rfl rfl info_head rfl (HC_one _) ?_; generalize (w2.alloc (.cells (HC H1).toArray 68)) = W3 at *; generalize w2.heap.size = g1 at *))
  have c0 : W3.cell? ⟨g1, 0, none⟩ = some (.string (S H1.name)) := HP3.cell 0
  have c2 : W3.cell? ⟨g1, 2, none⟩ = some (.int .u8 H1.kind.toNat) := HP3.cell 2
  by_cases hk : H1.kind = 86
  rotate_left
  · replace HF : Hid (readV v = (noneL, [], 5)) := Lib.hid (HF.out.trans (if_pos (.inl hk)))
    have hkb := byte_bne _ _ 86 rfl hk
    clear hk
    go_wp2_with (first | (refine rw_load Tryd.underlying35 rfl _ rfl _ rfl (LC noneL) hN3 info_rlab ?_) | (refine rw_store rfl _ _ rfl _ rfl (LC noneL) (LC noneL) hR3 rfl info_rlab rfl (LC_one _) _ w hx3 (Nat.le_refl _) ?_; intro w9 hR9 hb9 hk9))
    refine bodyPost_ret (results_rw3 Tryd.underlying35 rfl _ _ _ (LC noneL) rfl hR9 info_rlab) rfl ⟨by rw [HF.out]; rfl, hb9⟩
  have hkb := byte_bne' _ _ 86 rfl hk
  by_cases hn : H1.name = volN
  rotate_left
  · replace HF : Hid (readV v = (noneL, [], 5)) := Lib.hid (HF.out.trans (if_pos (.inr hn)))
    have hnb : (H1.name != [118, 111, 108, 117, 109, 101]) = true := bne_iff_ne.2 hn
    have hnb2 : (H1.name == [118, 111, 108, 117, 109, 101]) = false := beq_eq_false_iff_ne.2 hn
    clear hk hn
    go_wp2_with (first | (refine rw_load Tryd.underlying35 rfl _ rfl _ rfl (LC noneL) hN3 info_rlab ?_) | (refine rw_store rfl _ _ rfl _ rfl (LC noneL) (LC noneL) hR3 rfl info_rlab rfl (LC_one _) _ w hx3 (Nat.le_refl _) ?_; intro w9 hR9 hb9 hk9))
    refine bodyPost_ret (results_rw3 Tryd.underlying35 rfl _ _ _ (LC noneL) rfl hR9 info_rlab) rfl ⟨by rw [HF.out]; rfl, hb9⟩
  replace HF := Lib.hid (HF.out.trans (if_neg (fun g => g.elim (fun g => g hk) (fun g => g hn))))
  rw [hn] at c0
  have c4 : W3.cell? ⟨g1, 4, none⟩ = some (.int .i64 H1.uid) := HP3.cell 4
  have c5 : W3.cell? ⟨g1, 5, none⟩ = some (.int .i64 H1.gid) := HP3.cell 5
  have c6 : W3.cell? ⟨g1, 6, none⟩ = some (.int .i64 H1.size) := HP3.cell 6
  have c7 : W3.cell? ⟨g1, 7, none⟩ = some (.int .i64 H1.time) := HP3.cell 7
  unfold volN at c0
  clear hk hn HP3
  generalize H1.kind = kd at *
  generalize H1.uid = ui at *
  generalize H1.gid = gi at *
  generalize H1.size = sz at *
  generalize H1.time = ti at *
  by_cases hg0 : gi = 0
  · replace HF : Hid (readV v = (noneL, [], 6)) := Lib.hid (HF.out.trans (if_pos (.inl hg0)))
    have hgb : (gi == 0) = true := by rw [hg0]; rfl
    clear hg0
    go_wp2_with (first | (refine rw_load Tryd.underlying35 rfl _ rfl _ rfl (LC noneL) hN3 info_rlab ?_) | (refine rw_store rfl _ _ rfl _ rfl (LC noneL) (LC noneL) hR3 rfl info_rlab rfl (LC_one _) _ w hx3 (Nat.le_refl _) ?_; intro w9 hR9 hb9 hk9))
    refine bodyPost_ret (results_rw3 Tryd.underlying35 rfl _ _ _ (LC noneL) rfl hR9 info_rlab) rfl ⟨by rw [HF.out]; rfl, hb9⟩
  have hgb : (gi == 0) = false := beq_eq_false_iff_ne.2 hg0
  by_cases hg1 : gi ≤ ui
  · replace HF : Hid (readV v = (noneL, [], 6)) := Lib.hid (HF.out.trans (if_pos (.inr hg1)))
    clear hg0
    go_wp2_with (first | (refine rw_load Tryd.underlying35 rfl _ rfl _ rfl (LC noneL) hN3 info_rlab ?_) | (refine rw_store rfl _ _ rfl _ rfl (LC noneL) (LC noneL) hR3 rfl info_rlab rfl (LC_one _) _ w hx3 (Nat.le_refl _) ?_; intro w9 hR9 hb9 hk9))
    refine bodyPost_ret (results_rw3 Tryd.underlying35 rfl _ _ _ (LC noneL) rfl hR9 info_rlab) rfl ⟨by rw [HF.out]; rfl, hb9⟩
  replace HF := Lib.hid (HF.out.trans (if_neg (fun g => g.elim (fun g => hg0 g) (fun g => hg1 g))))
  have hg2 : ui < gi := by omega
  clear hg0 hg1
  have hul := unp_len d sz
  replace HUN := Lib.hid (fun w => HUN.out sz w)
  unfold unpV at HUN
  generalize unpF d sz = U at *
  obtain ⟨u, ce⟩ := U
  have hul : u.length ≤ 1000000 := Nat.le_trans hul hdl
  have HSU := Lib.hid (fun w => rvsum_any u hul w)
  go_upto_region 11 with (fail)
  go_quiet ((go_at_call 32; exact Calls.quiet_of_same (HUN.out _)))
  have hD : Below W3.heap.size W3 (W3.drewN nq) := belowDrewN (Below.refl _ _)
  have hR4 := hR3.below hD
  have hN4 := hN3.below hD
  have hx4 : Below w.heap.size w (W3.drewN nq) := belowDrewN hx3
  have d4 : (W3.drewN nq).cell? ⟨g1, 4, none⟩ = _ := c4
  have d5 : (W3.drewN nq).cell? ⟨g1, 5, none⟩ = _ := c5
  have d6 : (W3.drewN nq).cell? ⟨g1, 6, none⟩ = _ := c6
  have d7 : (W3.drewN nq).cell? ⟨g1, 7, none⟩ = _ := c7
  clear hD hR3 hx3 c0 c2 c4 c5 c6 c7 HUN hgb hg2 hkb hN3
  generalize W3.drewN nq = W4 at *
  by_cases he : ce = 0
  rotate_left
  · have hcb : ((ce : Int) != 0) = true := bne_iff_ne.2 (by omega)
    replace HF : Hid (readV v = (noneL, [], ce)) := Lib.hid (HF.out.trans (if_pos he))
    clear he
    go_wp2_with (first | (refine rw_load Tryd.underlying35 rfl _ rfl _ rfl (LC noneL) hN4 info_rlab ?_) | (refine rw_store rfl _ _ rfl _ rfl (LC noneL) (LC noneL) hR4 rfl info_rlab rfl (LC_one _) _ w hx4 (Nat.le_refl _) ?_; intro w9 hR9 hb9 hk9))
    refine bodyPost_ret (results_rw3 Tryd.underlying35 rfl _ _ _ (LC noneL) rfl hR9 info_rlab) rfl ⟨by rw [HF.out]; rfl, hb9⟩
  subst he
  replace HF := Lib.hid (HF.out.trans (if_neg (fun g => g rfl)))
  have hcb : (((0 : Nat) : Int) != 0) = false := rfl
  go_upto_region 14 with (fail)
  go_quiet ((go_at_call 25; exact qsame (HSU.out _)))
  have hD : Below W4.heap.size W4 (W4.drewN nq) := belowDrewN (Below.refl _ _)
  have hR5 := hR4.below hD
  have hN5 := hN4.below hD
  have hx5 : Below w.heap.size w (W4.drewN nq) := belowDrewN hx4
  have f4 : (W4.drewN nq).cell? ⟨g1, 4, none⟩ = _ := d4
  have f5 : (W4.drewN nq).cell? ⟨g1, 5, none⟩ = _ := d5
  have f6 : (W4.drewN nq).cell? ⟨g1, 6, none⟩ = _ := d6
  have f7 : (W4.drewN nq).cell? ⟨g1, 7, none⟩ = _ := d7
  clear hD hR4 hx4 d4 d5 d6 d7 HSU hN4
  generalize W4.drewN nq = W5 at *
  by_cases hs : (sumB u : Int) = ti
  rotate_left
  · have hsb : ((sumB u : Int) != ti) = true := bne_iff_ne.2 hs
    replace HF : Hid (readV v = (noneL, [], 4)) := Lib.hid (HF.out.trans (if_pos hs))
    clear hs
    generalize sumB u = su at *
    go_wp2_with (first | (refine rw_load Tryd.underlying35 rfl _ rfl _ rfl (LC noneL) hN5 info_rlab ?_) | (refine rw_store rfl _ _ rfl _ rfl (LC noneL) (LC noneL) hR5 rfl info_rlab rfl (LC_one _) _ w hx5 (Nat.le_refl _) ?_; intro w9 hR9 hb9 hk9))
    refine bodyPost_ret (results_rw3 Tryd.underlying35 rfl _ _ _ (LC noneL) rfl hR9 info_rlab) rfl ⟨by rw [HF.out]; rfl, hb9⟩
  have hsb : ((sumB u : Int) != ti) = false := by rw [hs]; simp
  replace HF := Lib.hid (HF.out.trans (if_neg (fun g => g hs)))
  clear hs
  generalize sumB u = su at *
  go_wp2_with (first | (refine rw_store rfl _ _ rfl _ rfl (LC noneL) (LC (⟨ui, gi, sz, ti⟩ : LabL)) hR5 rfl info_rlab rfl (LC_one _) _ w hx5 (Nat.le_refl _) ?_; intro w9 hR9 hb9 hk9))
  refine bodyPost_ret (results_rw3 Tryd.underlying35 rfl _ _ _ (LC (⟨ui, gi, sz, ti⟩ : LabL)) rfl hR9 info_rlab) rfl ⟨by rw [HF.out]; rfl, hb9⟩
end Go.Proofs.YtjldphpdfckjnaaDoor
namespace Go.Proofs.YtjldphpdfckjnaaDoor
open Go.RowKit

theorem ownS_lit (w : World) : OwnS (w.alloc (.cells #[] 9)) w.heap.size (.slice (some ⟨w.heap.size, 0, none⟩) 0 0) [] :=
  World.ownsRow_lit (base := w.heap.size) (e := 9) (size := 1) w #[] 0 (Nat.le_refl _) (by unfold maxLen; omega) rfl
theorem OwnS.shape {w : World} {base : Nat} {v : Value} {l : List (List UInt8)} (h : OwnS w base v l) : ∃ a c, v = .slice a l.length c := by
  obtain ⟨a, c, h1, _⟩ := h.strs
  exact ⟨a, c, h1⟩
theorem vols_len (sz : Nat) (s : List UInt8) : (volsV sz s).length = cntV sz s := by unfold volsV; rw [List.length_map, List.length_range]
theorem vols_take (sz : Nat) (s : List UInt8) (k : Nat) (h : k < cntV sz s) : (volsV sz s).take (k + 1) = (volsV sz s).take k ++ [oneV (chunkV sz s k) k (cntV sz s : Nat)] := by
  rw [List.take_succ_eq_append_getElem (by rw [vols_len]; exact h)]
  congr 2
  unfold volsV
  rw [List.getElem_map, List.getElem_range]
theorem cnt_pos (sz : Nat) (s : List UInt8) : 1 ≤ cntV sz s := by unfold cntV; omega
theorem cnt_lt (sz : Nat) (s : List UInt8) (k : Nat) (h0 : 0 < sz) (h : k < cntV sz s) : k * sz ≤ s.length := by
  unfold cntV at h
  by_cases hk : k = 0
  · subst hk; omega
  · have h2 : k < (s.length + sz - 1) / sz := by omega
    have h3 := (Nat.le_div_iff_mul_le h0).1 h2
    rw [Nat.succ_mul] at h3
    omega
theorem cnt_bd (sz : Nat) (s : List UInt8) (h0 : 512 ≤ sz) (hs : s.length ≤ 1000000) : cntV sz s ≤ 2000 := by
  unfold cntV
  have : (s.length + sz - 1) / sz < 2001 := by
    rw [Nat.div_lt_iff_lt_mul (by omega)]
    omega
  omega
theorem no_part (s : ByteArray) (n : Int) (w : World) (h : n < 2 ∨ 1048576 < n) :
    Calls Tryd.prog 13 #[.string s, .int .i64 n] w fun e w' => e = .returned (.tuple #[.slice none 0 0, .int .i64 6]) ∧ w = w' := by
  rcases h with h | h
  · go_enter Tryd.func13, Tryd.ntmps13
    go_wp2_with fail
    go_ret2
    exact ⟨rfl, rfl⟩
  · have h2 : ¬ n < 2 := by omega
    go_enter Tryd.func13, Tryd.ntmps13
    go_wp2_with fail
    go_ret2
    exact ⟨rfl, rfl⟩
set_option maxRecDepth 100000 in
set_option maxHeartbeats 4000000 in
theorem vPart_any (s : List UInt8) (n : Nat) (h2 : 2 ≤ n) (hm : n ≤ 1048576) (hs : s.length ≤ 1000000) (w : World) :
    Calls Tryd.prog 13 #[.string (S s), .int .i64 n] w fun e w' => (∃ v, e = .returned (.tuple #[v, .int .i64 0]) ∧ OwnS w' w.heap.size v (volsV (512 * (n - 1)) s)) ∧ Below w.heap.size w w' := by
  obtain ⟨sz, hsz⟩ : ∃ sz, sz = 512 * (n - 1) := ⟨_, rfl⟩
  rw [← hsz]
  have hz1 : 512 ≤ sz := by omega
  have hz2 : sz ≤ 536870400 := by omega
  have hmul : ((n : Int) - 1) * 512 = (sz : Int) := by omega
  have hc1 := cnt_pos sz s
  have hc2 := cnt_bd sz s hz1 hs
  have hcl := fun k => cnt_lt sz s k (by omega)
  obtain ⟨q, hq⟩ : ∃ q : Nat, q = (s.length + sz - 1) / sz := ⟨_, rfl⟩
  have hqI : ((s.length : Int) + (sz : Int) - 1) / (sz : Int) = (q : Int) := by
    rw [hq, show ((s.length : Int) + (sz : Int) - 1) = ((s.length + sz - 1 : Nat) : Int) by omega]
    rfl
  have hmx : max (q : Int) 1 = (cntV sz s : Nat) := by
    unfold cntV
    rw [← hq]
    omega
  have HVL := Lib.hid (vols_len sz s)
  have HVT := Lib.hid (fun k => vols_take sz s k)
  have HT : Hid ((volsV sz s).take (cntV sz s) = volsV sz s) := Lib.hid (by rw [← vols_len, List.take_length])
  generalize hL : volsV sz s = L at *
  generalize hC : cntV sz s = C at *
  have hn2 : ¬ (n : Int) < 2 := by omega
  have hn3 : ¬ (n : Int) > 1048576 := by omega
  have HCL := Lib.hid hcl
  clear hL hC hq hsz hcl
  go_enter Tryd.func13, Tryd.ntmps13
  go_wp2_with fail
  clear hmul hqI hmx
  go_loopw [8, 30] (fun v i wr => ∃ (k : Nat), i = .int .i64 k ∧ k ≤ C ∧ OwnS wr w.heap.size v (L.take k) ∧ Below w.heap.size w wr) (fun _ i _ => C - (intOf i).toNat)
  case atStart => exact ⟨0, rfl, Nat.zero_le _, OwnS.nil _ _, Below.refl _ _⟩
  case round =>
    obtain ⟨k, rfl, hk, hO, hB⟩ := hrel
    have hsize := hB.size
    by_cases hlt : k < C
    · have h1 := HCL.out k hlt
      obtain ⟨p, hp⟩ : ∃ p, p = k * sz := ⟨_, rfl⟩
      obtain ⟨hi, hhi⟩ : ∃ hi, hi = min (p + sz) s.length := ⟨_, rfl⟩
      have hpI : (k : Int) * (sz : Int) = (p : Int) := by rw [hp]; push_cast; rfl
      have hpJ : ((k : Int) + 1) * (sz : Int) = (p : Int) + (sz : Int) := by rw [Int.add_mul, hpI, Int.one_mul]
      have hmI : min ((p : Int) + (sz : Int)) (s.length : Int) = (hi : Int) := by omega
      have hps : p ≤ s.length := by rw [hp]; exact h1
      have hx : (S s).extract p hi = S (chunkV sz s k) := by
        rw [S_extract, hhi]
        unfold chunkV
        rw [← hp]
        congr 1
        by_cases h : p + sz ≤ s.length
        · rw [Nat.min_eq_left h]; congr 1; omega
        · rw [Nat.min_eq_right (by omega), List.take_of_length_le (by rw [List.length_drop]; omega), List.take_of_length_le (by rw [List.length_drop]; omega)]
      have hcl := chunk_len sz s k
      have hb1 : (p : Int) ≤ (hi : Int) := by omega
      have hb2 : (hi : Int) ≤ (s.length : Int) := by omega
      have hb3 : (p : Int) ≤ 1000000 := by omega
      have HN := Lib.hid (HVT.out k hlt)
      have HO := Lib.hid (fun w => one_any (chunkV sz s k) k C (by omega) (by omega) (by omega) (by omega) (by omega) w)
      have hln : (L.take k).length = k := by rw [List.length_take, HVL.out]; omega
      generalize oneV (chunkV sz s k) k C = one at *
      generalize chunkV sz s k = ch at *
      generalize L.take k = done at *
      obtain ⟨a8, c8, e8⟩ := hO.shape
      subst e8
      have HLN := Lib.hid hln
      clear hp hhi h1 hln
      go_wp2_with fail
      clear hpI hpJ hmI hx
      refine (HO.out _).mono ?_
      rintro e w1 ⟨rfl, hb1'⟩
      have hO1 := hO.below hb1' (Nat.le_refl _)
      have hB1 := hB.trans (hb1'.mono hsize)
      have hs1 := hB1.size
      go_wp2_with (at_builtin; go_must (refine app_str rfl (.tmp 33) (.tmp 49) rfl w.heap.size (.slice a8 done.length c8) done one rfl hO1 rfl (by rw [HLN.out]; omega) hs1 ?_); intro v' w' hO2 hb2 _)
      go_roundw
      case rel => exact ⟨k + 1, by go_num, by omega, by rw [HN.out]; exact hO2, hB1.trans hb2⟩
      case measure => simp [intOf]; omega
    · have hkC : k = C := by omega
      subst hkC
      rw [HT.out] at hO
      clear HT HVL HVT
      go_wp2_with fail
      go_ret2
      exact ⟨⟨_, rfl, hO⟩, hB⟩
end Go.Proofs.YtjldphpdfckjnaaDoor
namespace Go.Proofs.YtjldphpdfckjnaaDoor
open Go.RowKit

def chunksV (sz : Nat) (s : List UInt8) (k : Nat) : List (List UInt8) := (List.range k).map (chunkV sz s)
theorem chunks_len (sz : Nat) (s : List UInt8) (k : Nat) : (chunksV sz s k).length = k := by unfold chunksV; rw [List.length_map, List.length_range]
theorem chunks_succ (sz : Nat) (s : List UInt8) (k : Nat) : chunksV sz s (k + 1) = chunksV sz s k ++ [chunkV sz s k] := by
  unfold chunksV
  rw [List.range_succ, List.map_append]; rfl
theorem chunks_get (sz : Nat) (s : List UInt8) (k i : Nat) (h : i < k) : (chunksV sz s k)[i]? = some (chunkV sz s i) := by
  unfold chunksV
  simp [h]
set_option maxRecDepth 100000 in
set_option maxHeartbeats 4000000 in
theorem rPart_any (s : List UInt8) (n : Nat) (h2 : 2 ≤ n) (hm : n ≤ 1048576) (hs : s.length ≤ 1000000) (w : World) :
    Calls Tryd.prog 15 #[.string (S s), .int .i64 n] w fun e w' => (∃ v, e = .returned v ∧ OwnS w' w.heap.size v (volsV (512 * (n - 1)) s)) ∧ Below w.heap.size w w' := by
  obtain ⟨sz, hsz⟩ : ∃ sz, sz = 512 * (n - 1) := ⟨_, rfl⟩
  rw [← hsz]
  have hz1 : 512 ≤ sz := by omega
  have hz2 : sz ≤ 536870400 := by omega
  have hmul : 512 * ((n : Int) - 1) = (sz : Int) := by omega
  clear hsz
  go_enter Tryd.func15, Tryd.ntmps15
  go_upto_region 3 with (fail)
  have hX0 : Below w.heap.size w (w.alloc (.cells #[] 9)) := (Below.refl _ _).alloc (Nat.le_refl _) _
  have hO0 := ownS_lit w
  generalize w.alloc (.cells #[] 9) = W0 at *
  generalize (Value.slice (some ⟨w.heap.size, 0, none⟩) 0 0) = v0 at *
  clear hmul
  go_loopw [0, 6] (fun x v wr => ∃ (k : Nat), x = .string (S (s.drop (k * sz))) ∧ k * sz ≤ s.length ∧ (k = 0 ∨ k * sz < s.length) ∧ k ≤ 2000 ∧ OwnS wr w.heap.size v (chunksV sz s k) ∧ Below w.heap.size w wr) (fun x _ _ => match x with | .string b => b.size | _ => 0)
  case atStart => exact ⟨0, by rw [Nat.zero_mul, List.drop_zero], by omega, .inl rfl, by omega, hO0, hX0⟩
  case round =>
    obtain ⟨k, rfl, hk, hk0, hk2, hO, hB⟩ := hrel
    have hsize := hB.size
    have hdl : (s.drop (k * sz)).length = s.length - k * sz := List.length_drop
    have hcN := chunks_len sz s k
    have HCS := Lib.hid (chunks_succ sz s k)
    by_cases hgt : sz < (s.drop (k * sz)).length
    · have hgI : ((s.drop (k * sz)).length : Int) > (sz : Int) := by omega
      have hge : (sz : Int) ≤ ((s.drop (k * sz)).length : Int) := by omega
      have e1 : (S (s.drop (k * sz))).extract 0 sz = S (chunkV sz s k) := take_S _ _
      have e2 : (S (s.drop (k * sz))).extract sz (s.drop (k * sz)).length = S (s.drop ((k + 1) * sz)) := by
        rw [drop_S _ _ _ rfl, List.drop_drop, Nat.add_mul, Nat.one_mul]
      have hk3 : (k + 1) * sz < s.length := by rw [Nat.add_mul, Nat.one_mul]; omega
      have hk4 : k + 1 ≤ 2000 := by
        have : (k + 1) * 512 ≤ (k + 1) * sz := Nat.mul_le_mul_left _ hz1
        omega
      have HM : Hid ((s.drop ((k + 1) * sz)).length < (s.drop (k * sz)).length) := Lib.hid (by rw [List.length_drop, hdl, Nat.add_mul, Nat.one_mul]; omega)
      have HCN := Lib.hid hcN
      obtain ⟨d2, hd2⟩ : ∃ d2, d2 = s.drop ((k + 1) * sz) := ⟨_, rfl⟩
      rw [← hd2] at e2 HM
      have HD2 := Lib.hid hd2
      clear hd2
      generalize s.drop (k * sz) = d at *
      generalize chunkV sz s k = ch at *
      generalize chunksV sz s k = done at *
      obtain ⟨a6, c6, e6⟩ := hO.shape
      subst e6
      clear hdl hcN
      go_wp2_with (at_builtin; go_must (refine app_str rfl (.tmp 17) (.tmp 21) rfl w.heap.size (.slice a6 done.length c6) done ch rfl hO rfl (by rw [HCN.out]; omega) hsize ?_); intro v' w' hO2 hb2 _)
      go_roundw
      case rel => exact ⟨k + 1, by rw [HD2.out], by omega, .inr hk3, by omega, by rw [HCS.out]; exact hO2, hB.trans hb2⟩
      case measure =>
        show (S d2).size < (S d).size
        rw [S_size, S_size]; exact HM.out
    · have hgI : ¬ ((s.drop (k * sz)).length : Int) > (sz : Int) := by omega
      have hch : s.drop (k * sz) = chunkV sz s k := by
        unfold chunkV
        rw [List.take_of_length_le (by omega)]
      have hC : cntV sz s = k + 1 := cnt_is sz s k (by omega) (by rw [Nat.add_mul, Nat.one_mul]; omega) hk0
      have HVT := Lib.hid (fun j => vols_take sz s j)
      have HT : Hid ((volsV sz s).take (k + 1) = volsV sz s) := Lib.hid (by rw [← hC, ← vols_len, List.take_length])
      have HVL : Hid ((volsV sz s).length = k + 1) := Lib.hid (by rw [vols_len, hC])
      have HG := Lib.hid (fun i h => chunks_get sz s (k + 1) i h)
      have HL1 := Lib.hid (chunks_len sz s (k + 1))
      rw [HCS.out] at HG HL1
      rw [hch] at hgI ⊢
      rw [hC] at HVT
      have HCN := Lib.hid hcN
      have hCL := fun i => chunk_len sz s i
      have HCL := Lib.hid hCL
      have hchl := chunk_len sz s k
      obtain ⟨L, hLe⟩ : ∃ L, volsV sz s = L := ⟨_, rfl⟩
      rw [hLe] at HVT HT HVL
      have HLE := Lib.hid hLe
      clear hLe
      generalize hcc : chunkV sz s = cf at *
      generalize chunksV sz s k = done at *
      obtain ⟨a6, c6, e6⟩ := hO.shape
      subst e6
      clear hdl hch hC hcN hcc hCL hk0
      go_upto_region 8 with (at_builtin; go_must (refine app_str rfl (.tmp 26) (.tmp 28) rfl w.heap.size (.slice a6 done.length c6) done (cf k) rfl hO rfl (by rw [HCN.out]; omega) hsize ?_); intro v' w' hO2 hb2 _)
      have hB2 := hB.trans hb2
      have hsize2 := hB2.size
      obtain ⟨a, c, e4, hcell⟩ := hO2.strs
      have hX3 : Below w'.heap.size w' (w'.alloc (.cells #[] 9)) := (Below.refl _ _).alloc (Nat.le_refl _) _
      have hO3 := ownS_lit w'
      have hll : (done ++ [cf k]).length = k + 1 := HL1.out
      subst e4
      generalize done ++ [cf k] = chs at *
      have HCE : Hid (∃ b off, a = some ⟨b, off, none⟩ ∧ b < w'.heap.size ∧ ∀ j, j < k + 1 → w'.cell? ⟨b, off + j, none⟩ = some (.string (S (cf j)))) := Lib.hid (by
        obtain ⟨b, off, h1, h3, h4⟩ := hcell (by omega)
        refine ⟨b, off, h1, h3, fun j hj => ?_⟩
        rw [h4 j (by omega)]
        have := HG.out j hj
        rw [List.getElem?_eq_getElem (by omega)] at this
        rw [Option.some.inj this])
      have HBW := Lib.hid hB2
      rw [hll]
      clear hO hB hO2 hb2 hgI hcell hB2 HG HL1 hll
      have HX3 := Lib.hid hX3
      have HO3 := Lib.hid hO3
      clear hX3 hO3
      generalize w'.alloc (.cells #[] 9) = W3 at *
      generalize hg' : w'.heap.size = g at *
      have HGE := Lib.hid hg'
      clear hg'
      go_wp2_with fail
      go_loopw [7, 8] (fun v i wr => ∃ (j : Nat), i = .int .i64 j ∧ j ≤ k + 1 ∧ OwnS wr g v (L.take j) ∧ Below g w' wr) (fun _ i _ => k + 1 - (intOf i).toNat)
      case atStart => exact ⟨0, rfl, Nat.zero_le _, HO3.out, HX3.out⟩
      case round =>
        obtain ⟨j, rfl, hj, hO, hB⟩ := hrel
        clear HX3 HO3
        have hsz := hB.size
        by_cases hlt : j < k + 1
        · obtain ⟨b, off, rfl, hb1, hb2⟩ := HCE.out
          have hc : wr.cell? ⟨b, off + j, none⟩ = some (.string (S (cf j))) := by rw [hB.cell (by exact hb1)]; exact hb2 j hlt
          have hRO := Lib.hid (fun w => rone_any (cf j) j (k + 1 : Nat) (by omega) (by omega) (by omega) (by omega) (by have := HCL.out j; omega) w)
          have HN := Lib.hid (HVT.out j hlt)
          have hjI : (j : Int) < (k + 1 : Nat) := by omega
          have hln : (L.take j).length ≤ 3000 := by rw [List.length_take, HVL.out]; omega
          generalize cf j = ch at *
          generalize L.take j = done2 at *
          obtain ⟨a7, c7, e7⟩ := hO.shape
          subst e7
          clear hb2 HCE
          go_wp2_with fail
          refine (hRO.out _).mono ?_
          rintro e w1 ⟨rfl, hb1'⟩
          have hO1 := hO.below hb1' (Nat.le_refl _)
          have hg1 : g ≤ wr.heap.size := by have := HGE.out; omega
          have hB1 := hB.trans (hb1'.mono hg1)
          have hs1 : g ≤ w1.heap.size := Nat.le_trans hg1 hb1'.size
          go_wp2_with (at_builtin; go_must (refine app_str rfl (.tmp 37) (.tmp 46) rfl g (.slice a7 done2.length c7) done2 _ rfl hO1 rfl (by omega) hs1 ?_); intro v' w' hO2 hb2 _)
          go_roundw
          case rel => exact ⟨j + 1, by go_num, by omega, by rw [HN.out]; exact hO2, hB1.trans hb2⟩
          case measure => simp [intOf]; omega
        · have hjk : j = k + 1 := by omega
          subst hjk
          rw [HT.out] at hO
          have hjI : ¬ ((k + 1 : Nat) : Int) < (k + 1 : Nat) := by omega
          clear HT HVL HVT
          go_wp2_with fail
          go_ret
          refine ⟨⟨_, rfl, by rw [HLE.out]; exact hO.base (by have h1 := HGE.out; omega)⟩, HBW.out.trans (hB.mono (by have h1 := HGE.out; omega))⟩
end Go.Proofs.YtjldphpdfckjnaaDoor
namespace Go.Proofs.YtjldphpdfckjnaaDoor
open Go.RowKit

/-- a block of n cells, the i-th of which is f i -/
def RowF (w : World) (g : Nat) (T : TypeId) (n : Nat) (f : Nat → Value) : Prop := AtB w g T ((List.range n).map f)
theorem mk_row (T e : TypeId) (z : Value) (by_ : Nat) (hT : Tryd.prog.underlying T = some (.slice e)) (hinfo : (Tryd.prog.info? e).map (fun i => (i.zero, i.size, i.bytes)) = some (some z, 1, by_)) (hz : z.cells = #[z]) (hby : by_ ≤ 1000) (k : Nat) (hk : k ≤ 1000000) (w : World) :
    (Instr.makeSlice T (.int .i64 k) (.int .i64 k)).run Tryd.prog w = .ok (.slice (some ⟨w.heap.size, 0, none⟩) k k) (w.alloc (.cells (madeCells #[z] k) e)) := by
  obtain ⟨i0, hi, hz0, hz1, hz2⟩ := info_parts hinfo
  have hm : k * by_ ≤ 1000000 * 1000 := Nat.mul_le_mul hk hby
  have hm2 : (by_ : Int) * (k : Int) ≤ 281474976710656 := by
    have e2 : (by_ : Int) * (k : Int) = ((k * by_ : Nat) : Int) := by rw [Nat.mul_comm]; push_cast; rfl
    rw [e2]; omega
  have := run_makeSlice (P := Tryd.prog) w T e i0 z hT hi hz0 .i64 .i64 k k (by omega) (by omega) (by rw [hz1]; omega) (by rw [hz2]; exact hm2) (by omega)
  rw [this, hz1, hz]
  simp only [Int.toNat_natCast, Nat.mul_one]
theorem RowF.new (w : World) (e : TypeId) (z : Value) (k : Nat) : RowF (w.alloc (.cells (madeCells #[z] k) e)) w.heap.size e k (fun _ => z) := by
  have h : (List.map (fun _ : Nat => z) (List.range k)).toArray = madeCells #[z] k := by
    apply Array.toList_inj.1
    rw [toList_madeCells_one]
    simp [List.map_const']
  unfold RowF AtB
  rw [h]
  exact heap_alloc_new _ _
theorem RowF.cell {w : World} {g : Nat} {T : TypeId} {n : Nat} {f : Nat → Value} (h : RowF w g T n f) (i : Nat) (hi : i < n) : w.cell? ⟨g, i, none⟩ = some (f i) := by
  rw [AtB.cell h i]
  simp [hi]
theorem RowF.fz {w : World} {g : Nat} {T : TypeId} {n : Nat} {f : Nat → Value} (h : RowF w g T n f) (i : Nat) : w.frozen? ⟨g, i, none⟩ = false := AtB.fz h i
theorem RowF.lt {w : World} {g : Nat} {T : TypeId} {n : Nat} {f : Nat → Value} (h : RowF w g T n f) : g < w.heap.size := AtB.lt h
theorem RowF.under {w w' : World} {g B : Nat} {T : TypeId} {n : Nat} {f : Nat → Value} (h : RowF w g T n f) (hb : Below B w w') (hg : g < B) : RowF w' g T n f := AtB.under h hb hg
theorem RowF.below {w w' : World} {g : Nat} {T : TypeId} {n : Nat} {f : Nat → Value} (h : RowF w g T n f) (hb : Below w.heap.size w w') : RowF w' g T n f := AtB.below h hb
theorem RowF.alloc {w : World} {g : Nat} {T : TypeId} {n : Nat} {f : Nat → Value} (h : RowF w g T n f) (o : Obj) : RowF (w.alloc o) g T n f := AtB.alloc h o
theorem RowF.drew {w : World} {g : Nat} {T : TypeId} {n : Nat} {f : Nat → Value} (h : RowF w g T n f) : RowF w.drew g T n f := h
theorem RowF.set {w : World} {g : Nat} {T : TypeId} {n : Nat} {f : Nat → Value} (h : RowF w g T n f) (i : Nat) (f' : Nat → Value) (hf : ∀ j, j < n → j ≠ i → f' j = f j) : RowF (w.setCell ⟨g, i, none⟩ (f' i)) g T n f' := by
  have h2 := AtB.set h i (f' i)
  have e : ((List.range n).map f).set i (f' i) = (List.range n).map f' := by
    apply List.ext_getElem
    · simp
    · intro j h1 h3
      have hj : j < n := by simpa using h3
      rw [List.getElem_set, List.getElem_map, List.getElem_range]
      by_cases hji : i = j
      · subst hji; simp
      · rw [if_neg hji, List.getElem_map, List.getElem_range, hf j hj (fun e => hji e.symm)]
  rw [e] at h2
  exact h2
theorem RowF.setOther {w : World} {g : Nat} {T : TypeId} {n : Nat} {f : Nat → Value} (h : RowF w g T n f) (k i : Nat) (v : Value) (hk : k ≠ g) : RowF (w.setCell ⟨k, i, none⟩ v) g T n f := AtB.setOther h k i v hk
theorem RowF.congr {w : World} {g : Nat} {T : TypeId} {n : Nat} {f f' : Nat → Value} (h : RowF w g T n f) (hf : ∀ j, j < n → f' j = f j) : RowF w g T n f' := by
  unfold RowF at *
  rw [show (List.range n).map f' = (List.range n).map f from List.map_congr_left fun i hi => hf i (List.mem_range.1 hi)]
  exact h
end Go.Proofs.YtjldphpdfckjnaaDoor
namespace Go.Proofs.YtjldphpdfckjnaaDoor
open Go.RowKit

theorem join_plain (l : List (List UInt8)) : Lib.join l [] = l.flatten := by
  induction l with
  | nil => rfl
  | cons x l ih =>
    rw [Lib.join_cons, List.flatten_cons]
    congr 1
    unfold Lib.joinTail
    simp
theorem flat_le (M : Nat) : ∀ l : List (List UInt8), (∀ q ∈ l, q.length ≤ M) → l.flatten.length ≤ l.length * M
  | [], _ => by simp
  | x :: l, h => by
    have h1 := flat_le M l (fun q hq => h q (List.mem_cons_of_mem _ hq))
    have h2 := h x (by simp)
    rw [List.flatten_cons, List.length_append, List.length_cons, Nat.succ_mul]
    omega
theorem getP_le (acc : List (Nat × List UInt8)) (n M : Nat) (h : ∀ p ∈ acc, p.2.length ≤ M) : (getP acc n).length ≤ acc.length * M := by
  unfold getP
  refine Nat.le_trans (flat_le M _ ?_) (Nat.mul_le_mul_right _ ?_)
  · intro q hq
    obtain ⟨p, hp, rfl⟩ := List.mem_map.1 hq
    exact h p (List.mem_filter.1 hp).1
  · rw [List.length_map]; exact List.length_filter_le _ _
theorem gath_le (acc : List (Nat × List UInt8)) (n M : Nat) (h : ∀ p ∈ acc, p.2.length ≤ M) : (gath acc n).length ≤ n * (acc.length * M) := by
  unfold gath
  refine Nat.le_trans (flat_le (acc.length * M) _ ?_) (by simp)
  intro q hq
  obtain ⟨i, hi, rfl⟩ := List.mem_map.1 hq
  exact getP_le acc i M h
theorem info_str1 : (Tryd.prog.info? 9).map (fun i => (i.zero, i.size, i.bytes)) = some (some (.string ⟨#[]⟩), 1, 16) := by kernel_rfl
theorem info_bool1 : (Tryd.prog.info? 4).map (fun i => (i.zero, i.size, i.bytes)) = some (some (.bool false), 1, 1) := by kernel_rfl
theorem vJoin_none (a : Option Addr) (c : Nat) (w : World) : Calls Tryd.prog 16 #[.slice a 0 c] w fun e w' => e = .returned (.tuple #[.string (S []), .int .i64 0, .int .i64 9]) ∧ w = w' := by
  go_enter Tryd.func16, Tryd.ntmps16
  go_wp2_with fail
  go_ret3
  exact ⟨rfl, rfl⟩
def partsF (acc : List (Nat × List UInt8)) (i : Nat) : Value := .string (S (getP acc i))
def thereF (acc : List (Nat × List UInt8)) (i : Nat) : Value := .bool (hasP acc i)
set_option maxRecDepth 100000 in
set_option maxHeartbeats 8000000 in
theorem vJoin_some (L : List (List UInt8)) (v : Value) (h0 : 0 < L.length) (hl : L.length ≤ 1000) (hm : ∀ q ∈ L, q.length ≤ 1000000) (w : World) (hv : StrsV w v L) :
    Calls Tryd.prog 16 #[v] w fun e w' => e = .returned (.tuple #[.string (S (joinV L.length L 0 []).1), .int .i64 (joinV L.length L 0 []).2.1, .int .i64 (joinV L.length L 0 []).2.2]) ∧ Below w.heap.size w w' := by
  obtain ⟨a, c, rfl, hv⟩ := hv
  obtain ⟨b, off, rfl, hb, hcell⟩ := hv h0
  obtain ⟨n, hn⟩ : ∃ n, n = L.length := ⟨_, rfl⟩
  have hcell : ∀ j, j < n → w.cell? ⟨b, off + j, none⟩ = some (.string (S (L.getD j []))) := fun j hj => by
    rw [List.getD_eq_getElem?_getD, List.getElem?_eq_getElem (by omega)]; exact hcell j (by omega)
  have hmm : ∀ k, k < n → (L.getD k []).length ≤ 1000000 := fun k h => by
    rw [List.getD_eq_getElem?_getD, List.getElem?_eq_getElem (by omega)]; exact hm _ (List.getElem_mem _)
  have hdr : ∀ k, k < n → L.drop k = L.getD k [] :: L.drop (k + 1) := fun k h => by
    rw [List.getD_eq_getElem?_getD, List.getElem?_eq_getElem (by omega)]; exact List.drop_eq_getElem_cons (by omega)
  rw [← hn] at h0 hl ⊢
  obtain ⟨R, hR⟩ : ∃ R, joinV n L 0 [] = R := ⟨_, rfl⟩
  rw [hR]
  have HCE := Lib.hid hcell
  have HM := Lib.hid hmm
  have HDR := Lib.hid hdr
  have hn0 : ((n : Int) == 0) = false := beq_eq_false_iff_ne.2 (by omega)
  have hmk1 : ∀ w : World, (Instr.makeSlice 29 (.int .i64 n) (.int .i64 n)).run Tryd.prog w = .ok (.slice (some ⟨w.heap.size, 0, none⟩) n n) (w.alloc (.cells (madeCells #[.string ⟨#[]⟩] n) 9)) := fun w => mk_row _ _ _ 16 Tryd.underlying29 info_str1 rfl (by decide) n (by omega) w
  have hmk2 : ∀ w : World, (Instr.makeSlice 78 (.int .i64 n) (.int .i64 n)).run Tryd.prog w = .ok (.slice (some ⟨w.heap.size, 0, none⟩) n n) (w.alloc (.cells (madeCells #[.bool false] n) 4)) := fun w => mk_row _ _ _ 1 Tryd.underlying78 info_bool1 rfl (by decide) n (by omega) w
  have HN := Lib.hid hn
  have HR := Lib.hid hR
  clear hv hcell hm hn hR hmm hdr
  go_enter Tryd.func16, Tryd.ntmps16
  go_upto_region 5 with (fail)
  have hP0 : RowF ((w.alloc (.cells (madeCells #[.string ⟨#[]⟩] n) 9)).alloc (.cells (madeCells #[.bool false] n) 4)) w.heap.size 9 n (partsF []) := (RowF.new w _ _ n).alloc _
  have hT0 : RowF ((w.alloc (.cells (madeCells #[.string ⟨#[]⟩] n) 9)).alloc (.cells (madeCells #[.bool false] n) 4)) (w.heap.size + 1) 4 n (thereF []) := by
    have := RowF.new (w.alloc (.cells (madeCells #[.string ⟨#[]⟩] n) 9)) 4 (.bool false) n
    rw [show (w.alloc (.cells (madeCells #[.string ⟨#[]⟩] n) 9)).heap.size = w.heap.size + 1 by simp] at this
    exact this
  have hX0 : Below w.heap.size w ((w.alloc (.cells (madeCells #[.string ⟨#[]⟩] n) 9)).alloc (.cells (madeCells #[.bool false] n) 4)) := ((Below.refl _ _).alloc (Nat.le_refl _) _).alloc (by simp) _
  generalize (w.alloc (.cells (madeCells #[.string ⟨#[]⟩] n) 9)).alloc (.cells (madeCells #[.bool false] n) 4) = W0 at *
  clear hmk1 hmk2
  go_wp2_with fail
  go_loopw [23] (fun i wr => ∃ (k : Nat) (acc : List (Nat × List UInt8)), i = .int .i64 k ∧ k ≤ n ∧ Hid (joinV n (L.drop k) k acc = R) ∧ Hid (acc.length = k) ∧ Hid (∀ p ∈ acc, p.2.length ≤ 1000000) ∧ RowF wr w.heap.size 9 n (partsF acc) ∧ RowF wr (w.heap.size + 1) 4 n (thereF acc) ∧ Below w.heap.size w wr) (fun i _ => n - (intOf i).toNat)
  case atStart => exact ⟨0, [], rfl, Nat.zero_le _, Lib.hid (by rw [List.drop_zero]; exact HR.out), Lib.hid rfl, Lib.hid (by simp), hP0, hT0, hX0⟩
  case round =>
    obtain ⟨k, acc, rfl, hk, HJ, HA, HQ, hP, hT, hX⟩ := hrel
    clear hP0 hT0 hX0
    by_cases hlt : k < n
    · have hc : wr.cell? ⟨b, off + k, none⟩ = some (.string (S (L.getD k []))) := by rw [hX.cell (by exact hb)]; exact HCE.out k hlt
      have hml := HM.out k hlt
      have hd := HDR.out k hlt
      generalize L.getD k [] = q at *
      have hRN := read_num q
      have hRA := fun w => vRead_any q hml w
      replace HJ := HJ.out
      rw [hd, joinV] at HJ
      generalize readV q = P at *
      obtain ⟨⟨nu, cn, lz, ls⟩, by', er⟩ := P
      simp only at hRN HJ
      have HRA := Lib.hid hRA
      unfold LabV at HRA
      clear hRA hd
      go_wp2_with fail
      refine (HRA.out _).mono ?_
      rintro e w1 ⟨rfl, hb1⟩
      have hX1 := hX.trans (hb1.mono hX.size)
      have hP1 := hP.below hb1
      have hT1 := hT.below hb1
      have hlT := hT1.lt
      clear hX hP hT hb1 hc HRA
      by_cases he : er = 0
      rotate_left
      · have HE := Lib.hid (show R = ([], k, er) by rw [← HJ, if_pos he])
        have hb : ((er : Int) != 0) = true := bne_iff_ne.2 (by omega)
        clear HJ he hRN
        go_wp2_with fail
        go_ret3
        exact ⟨by rw [HE.out]; rfl, hX1.alloc hX1.size _⟩
      subst he
      rw [if_neg (fun g => g rfl)] at HJ
      have hb : (((0 : Nat) : Int) != 0) = false := rfl
      by_cases he : cn = n
      rotate_left
      · have HE := Lib.hid (show R = ([], k, 2) by rw [← HJ, if_pos he])
        have hb2 : (cn != (n : Int)) = true := bne_iff_ne.2 he
        clear HJ he hRN
        go_wp2_with fail
        go_ret3
        exact ⟨by rw [HE.out]; rfl, hX1.alloc hX1.size _⟩
      subst he
      rw [if_neg (fun g => g rfl)] at HJ
      obtain ⟨r0, r1, r2⟩ := hRN rfl
      obtain ⟨x, rfl⟩ : ∃ x : Nat, nu = x := ⟨nu.toNat, by omega⟩
      rw [Int.toNat_natCast] at HJ
      have hxn : x < n := by omega
      have hbn : ((n : Int) != (n : Int)) = false := by simp
      have hX2 : Below w.heap.size w (w1.alloc (.cells #[.int .i64 x, .int .i64 n, .int .i64 lz, .int .i64 ls] 31)) := hX1.alloc hX1.size _
      have hP2 : RowF (w1.alloc (.cells #[.int .i64 x, .int .i64 n, .int .i64 lz, .int .i64 ls] 31)) w.heap.size 9 n (partsF acc) := hP1.alloc _
      have hT2 : RowF (w1.alloc (.cells #[.int .i64 x, .int .i64 n, .int .i64 lz, .int .i64 ls] 31)) (w.heap.size + 1) 4 n (thereF acc) := hT1.alloc _
      have hAt : AtB (w1.alloc (.cells #[.int .i64 x, .int .i64 n, .int .i64 lz, .int .i64 ls] 31)) w1.heap.size 31 [.int .i64 x, .int .i64 n, .int .i64 lz, .int .i64 ls] := AtB.new w1 _ [.int .i64 x, .int .i64 n, .int .i64 lz, .int .i64 ls]
      go_upto_region 9 with (fail)
      generalize w1.alloc (.cells #[.int .i64 x, .int .i64 n, .int .i64 lz, .int .i64 ls] 31) = w2 at *
      have hgl : w.heap.size + 1 < w1.heap.size := hlT
      generalize w1.heap.size = g9 at *
      have c0 : w2.cell? ⟨g9, 0, none⟩ = some (.int .i64 x) := hAt.cell 0
      have c1 : w2.cell? ⟨g9, 1, none⟩ = some (.int .i64 n) := hAt.cell 1
      clear hX1 hP1 hT1 hAt hlT
      have hxI : (x : Int) < (n : Int) := by omega
      cases hh : hasP acc x with
      | true =>
        have HE := Lib.hid (show R = ([], k, 13) by rw [← HJ, if_pos hh])
        have ct : w2.cell? ⟨w.heap.size + 1, x, none⟩ = some (.bool true) := by rw [hT2.cell x hxn, thereF, hh]
        clear HJ hh r0 r1 r2
        go_wp2_with fail
        go_ret3
        exact ⟨by rw [HE.out]; rfl, hX2⟩
      | false =>
        rw [hh, if_neg (by decide)] at HJ
        have ct : w2.cell? ⟨w.heap.size + 1, x, none⟩ = some (.bool false) := by rw [hT2.cell x hxn, thereF, hh]
        have cp : w2.cell? ⟨w.heap.size, x, none⟩ = some (.string (S (getP acc x))) := hP2.cell x hxn
        have ft : w2.frozen? ⟨w.heap.size + 1, x, none⟩ = false := hT2.fz x
        have fp : w2.frozen? ⟨w.heap.size, x, none⟩ = false := hP2.fz x
        have HNW := Lib.hid HJ
        have HPN : Hid (RowF (((w2.setCell ⟨w.heap.size + 1, x, none⟩ (.bool true)).setCell ⟨w.heap.size, x, none⟩ (.string (S by'))).drew) w.heap.size 9 n (partsF (acc ++ [(x, by')]))) := Lib.hid (by
          have e : Value.string (S by') = partsF (acc ++ [(x, by')]) x := by
            unfold partsF
            rw [getP_app, getP_none acc x hh, getP_one, if_pos rfl]; rfl
          rw [e]
          refine ((hP2.setOther (w.heap.size + 1) x _ (by omega)).set x (partsF (acc ++ [(x, by')])) (fun j _ hj => ?_)).drew
          unfold partsF
          rw [getP_app, getP_one, if_neg (fun e => hj e.symm), List.append_nil])
        have HTN : Hid (RowF (((w2.setCell ⟨w.heap.size + 1, x, none⟩ (.bool true)).setCell ⟨w.heap.size, x, none⟩ (.string (S by'))).drew) (w.heap.size + 1) 4 n (thereF (acc ++ [(x, by')]))) := Lib.hid (by
          have e : Value.bool true = thereF (acc ++ [(x, by')]) x := by
            unfold thereF
            rw [hasP_app]; simp
          rw [e]
          refine ((hT2.set x (thereF (acc ++ [(x, by')])) (fun j _ hj => ?_)).setOther w.heap.size x _ (by omega)).drew
          unfold thereF
          rw [hasP_app]
          have : (x == j) = false := beq_eq_false_iff_ne.2 (fun e => hj e.symm)
          rw [this, Bool.or_false])
        have HXN : Hid (Below w.heap.size w (((w2.setCell ⟨w.heap.size + 1, x, none⟩ (.bool true)).setCell ⟨w.heap.size, x, none⟩ (.string (S by'))).drew)) := Lib.hid (((hX2.setCell (by simp) _).setCell (by simp) _).drew)
        have HLN : Hid ((acc ++ [(x, by')]).length = k + 1) := Lib.hid (by rw [List.length_append, HA.out]; rfl)
        have HQN : Hid (∀ p ∈ acc ++ [(x, by')], p.2.length ≤ 1000000) := Lib.hid (by
          intro p hp
          rcases List.mem_append.1 hp with g | g
          · exact HQ.out p g
          · rw [List.mem_singleton.1 g]; exact Nat.le_trans r2 hml)
        clear HJ hh r0 r1 r2 hX2 hP2 hT2 hml
        go_wp2_with fail
        go_region
        go_wp2_with fail
        go_roundw
        case rel => exact ⟨k + 1, acc ++ [(x, by')], by go_num, by omega, HNW, HLN, HQN, HPN.out, HTN.out, HXN.out⟩
        case measure => simp [intOf] <;> omega
    · have hkn : k = n := by omega
      subst hkn
      have HRE := Lib.hid (show R = (gath acc k, 0, 0) by
        rw [← HJ.out, List.drop_eq_nil_of_le (by rw [← HN.out]; exact Nat.le_refl _), joinV])
      have hjl : Lib.join (((List.range k).map fun i => S (getP acc i)).map (·.data.toList)) (⟨#[]⟩ : ByteArray).data.toList = gath acc k := by
        rw [show (⟨#[]⟩ : ByteArray).data.toList = [] from rfl, join_plain, List.map_map]
        rfl
      have hgl : (gath acc k).length ≤ 140737488355328 := by
        have := gath_le acc k 1000000 HQ.out
        rw [HA.out] at this
        have h2 : k * (k * 1000000) ≤ 1000 * (1000 * 1000000) := Nat.mul_le_mul hl (Nat.mul_le_mul_right _ hl)
        omega
      have hSJ := Go.Proofs.Tryd.strings_Join w.heap.size 0 k ((List.range k).map fun i => S (getP acc i)) ⟨#[]⟩ wr (fun j x hx => by
        rw [List.getElem?_map] at hx
        obtain ⟨i, hi, rfl⟩ := Option.map_eq_some_iff.1 hx
        obtain ⟨hj, rfl⟩ := List.getElem?_eq_some_iff.1 hi
        rw [List.getElem_range, Nat.zero_add]
        rw [List.length_range] at hj
        exact hP.cell j hj) hP.lt (by simp; omega) (by simp) (by rw [hjl]; exact hgl)
      rw [hjl, List.length_map, List.length_range] at hSJ
      have HSJ := Lib.hid hSJ
      clear hSJ hjl
      go_wp2_with fail
      refine HSJ.out.mono ?_
      rintro e w1 ⟨rfl, hb1⟩
      go_wp2_with fail
      go_ret3
      exact ⟨by rw [HRE.out]; rfl, hX.trans (hb1.mono hX.size)⟩
end Go.Proofs.YtjldphpdfckjnaaDoor
namespace Go.Proofs.YtjldphpdfckjnaaDoor
open Go.RowKit

theorem drewN_add (w : World) (a b : Nat) : (w.drewN a).drewN b = w.drewN (a + b) := World.drewN_drewN ..
theorem getl (l : List (List UInt8)) (k : Nat) (h : k < l.length) (r : List (List UInt8)) (h2 : k < r.length) (h0 : l.take k = r.take k) (e : l[k] = r[k]) : l.take (k + 1) = r.take (k + 1) := by
  rw [List.take_succ_eq_append_getElem h, List.take_succ_eq_append_getElem h2, h0, e]
set_option maxRecDepth 100000 in
/-- are two slices of strings the same -/
theorem Same_any (l r : List (List UInt8)) (v u : Value) (hl : l.length ≤ 1000000000) (w : World) (hv : StrsV w v l) (hu : StrsV w u r) :
    Calls Tryd.prog 14 #[v, u] w fun e w' => e = .returned (.bool (decide (l = r))) ∧ ∃ m, w' = w.drewN m := by
  obtain ⟨a, c, rfl, hv⟩ := hv
  obtain ⟨a2, c2, rfl, hu⟩ := hu
  by_cases hlen : l.length = r.length
  · have hlen1 : l.length ≤ r.length := by omega
    have hlen2 : r.length ≤ l.length := by omega
    have HL := Lib.hid hlen
    have hbe : ((l.length : Int) != r.length) = false := by rw [hlen]; simp
    clear hlen
    go_enter Tryd.func14, Tryd.ntmps14
    go_wp2
    go_loopw [5] (fun i wr => ∃ k : Nat, k ≤ l.length ∧ i = .int .i64 k ∧ l.take k = r.take k ∧ ∃ m, wr = w.drewN m) (fun i _ => l.length - (intOf i).toNat)
    case atStart => exact ⟨0, by omega, rfl, rfl, 0, rfl⟩
    case round =>
      obtain ⟨k, hk, rfl, heq, hm⟩ := hrel
      have HE := Lib.hid heq
      by_cases hlt : k < l.length
      · have hlt2 : k < r.length := by omega
        obtain ⟨b, off, rfl, _, h2⟩ := hv (by omega)
        obtain ⟨b2, off2, rfl, _, h4⟩ := hu (by omega)
        have hc : wr.cell? ⟨b, off + k, none⟩ = some (.string (S l[k])) := by obtain ⟨m, rfl⟩ := hm; exact h2 k hlt
        have hc2 : wr.cell? ⟨b2, off2 + k, none⟩ = some (.string (S r[k])) := by obtain ⟨m, rfl⟩ := hm; exact h4 k hlt2
        have HM := Lib.hid hm
        clear h2 h4 hm heq
        by_cases he : l[k] = r[k]
        · have hb : (l[k] == r[k]) = true := beq_iff_eq.2 he
          have HN := Lib.hid (getl l k hlt r hlt2 HE.out he)
          clear he
          go_wp2
          go_quiet (fail)
          go_wp2
          go_roundw
          case rel => exact ⟨k + 1, by omega, by go_num, HN.out, by obtain ⟨m, rfl⟩ := HM.out; exact ⟨m + nq, drewN_add _ _ _⟩⟩
          case measure => simp [intOf]; omega
        · have hb : (l[k] == r[k]) = false := beq_eq_false_iff_ne.2 he
          have hne : decide (l = r) = false := decide_eq_false_iff_not.2 fun g => he (by subst g; rfl)
          have HN := Lib.hid hne
          clear he hne
          go_wp2
          go_quiet (fail)
          go_wp2
          go_ret
          exact ⟨by rw [HN.out]; rfl, by obtain ⟨m, rfl⟩ := HM.out; exact ⟨m + nq, drewN_add _ _ _⟩⟩
      · have : k = l.length := by omega
        subst this
        have hyes : decide (l = r) = true := decide_eq_true_iff.2 (by rw [List.take_length] at heq; rw [heq, HL.out, List.take_length])
        have HY := Lib.hid hyes
        obtain ⟨m, rfl⟩ := hm
        clear hyes heq
        go_wp2
        go_ret
        exact ⟨by rw [HY.out]; rfl, m, rfl⟩
  · have hbe : ((l.length : Int) != r.length) = true := by rw [bne_iff_ne]; omega
    have hne : decide (l = r) = false := decide_eq_false_iff_not.2 fun g => hlen (by rw [g])
    have HN := Lib.hid hne
    clear hlen hne
    go_enter Tryd.func14, Tryd.ntmps14
    go_wp2
    go_ret
    exact ⟨by rw [HN.out]; rfl, 0, rfl⟩
end Go.Proofs.YtjldphpdfckjnaaDoor
namespace Go.Proofs.YtjldphpdfckjnaaDoor
open Go.RowKit

theorem one_length (s : List UInt8) (num cnt : Int) (hf : fitsN (volH s num cnt) = 0) : (oneV s num cnt).length = 512 + (s.length + padK s.length) := by
  unfold oneV padB zerosL
  rw [List.length_append, (build_fields _ hf).len, List.length_append, List.length_replicate]
theorem zeros_vols1 : ∃ x, volsV 512 (List.replicate 512 0) = [x] ∧ x.length = 1024 := by
  have hc : cntV 512 (List.replicate 512 0) = 1 := by unfold cntV; rw [List.length_replicate]; decide
  refine ⟨oneV (chunkV 512 (List.replicate 512 0) 0) 0 1, ?_, ?_⟩
  · unfold volsV
    rw [hc]; rfl
  · have hl : (chunkV 512 (List.replicate 512 (0 : UInt8)) 0).length = 512 := by
      unfold chunkV
      rw [List.length_take, List.length_drop, List.length_replicate]; decide
    rw [one_length _ _ _ (fits_vol _ _ _ (by decide) (by decide) (by decide) (by decide) (by rw [hl]; decide)), hl]
    rfl
theorem zeros_vols2 : (volsV 512 (List.replicate 513 0)).length = 2 := by
  rw [vols_len]
  unfold cntV
  rw [List.length_replicate]; decide
set_option maxRecDepth 100000 in
set_option maxHeartbeats 4000000 in
theorem awake39 (w : World) : Calls Tryd.prog 8 #[] w fun e w' => e = .returned (.bool true) ∧ Below w.heap.size w w' := by
  have hmk1 : ∀ w, (Instr.makeSlice 46 (.int .i64 512) (.int .i64 512)).run Tryd.prog w = .ok (.slice (some ⟨w.heap.size, 0, none⟩) 512 512) (w.alloc (.cells (zerosA 512) 5)) := fun w => mk_bytes 512 512 (by decide) (by decide) w
  have hmk2 : ∀ w, (Instr.makeSlice 46 (.int .i64 513) (.int .i64 513)).run Tryd.prog w = .ok (.slice (some ⟨w.heap.size, 0, none⟩) 513 513) (w.alloc (.cells (zerosA 513) 5)) := fun w => mk_bytes 513 513 (by decide) (by decide) w
  have hcv1 := fun w => conv_zeros 512 (by decide) w
  have hcv2 := fun w => conv_zeros 513 (by decide) w
  have HP1 := Lib.hid (fun w => vPart_any (List.replicate 512 0) 2 (by decide) (by decide) (by rw [List.length_replicate]; decide) w)
  have HP2 := Lib.hid (fun w => vPart_any (List.replicate 513 0) 2 (by decide) (by decide) (by rw [List.length_replicate]; decide) w)
  have e2 := zeros_vols2
  obtain ⟨x, e1, hx1⟩ := zeros_vols1
  rw [show 512 * (2 - 1) = 512 from rfl, e1] at HP1
  rw [show 512 * (2 - 1) = 512 from rfl] at HP2
  generalize volsV 512 (List.replicate 513 0) = L2 at *
  have hz1 : (List.replicate 512 (0 : UInt8)).length ≤ 2000 := by rw [List.length_replicate]; decide
  have hz2 : (List.replicate 513 (0 : UInt8)).length ≤ 2000 := by rw [List.length_replicate]; decide
  generalize List.replicate 512 (0 : UInt8) = z1 at *
  generalize List.replicate 513 (0 : UInt8) = z2 at *
  have H2 := Lib.hid e2
  have HX1 := Lib.hid hx1
  clear e1 e2 hx1
  have hB0 : Below w.heap.size w (w.alloc (.cells (zerosA 512) 5)) := (Below.refl _ _).alloc (Nat.le_refl _) _
  go_enter Tryd.func8, Tryd.ntmps8
  go_wp2_with fail
  refine (HP1.out _).mono ?_
  rintro e w1 ⟨⟨v1, rfl, hO1⟩, hb1⟩
  have hB1 := hB0.trans (hb1.mono hB0.size)
  obtain ⟨a1, c1, rfl, hc1⟩ := hO1.strs
  obtain ⟨b1, off1, rfl, hl1, hq1⟩ := hc1 Nat.one_pos
  have hq1 : w1.cell? ⟨b1, off1, none⟩ = some (.string (S x)) := hq1 0 Nat.one_pos
  have hB2 : Below w1.heap.size w1 (w1.alloc (.cells (zerosA 513) 5)) := (Below.refl _ _).alloc (Nat.le_refl _) _
  clear hmk1 hcv1 hB0 hc1 hO1 hb1
  go_wp2_with fail
  refine (HP2.out _).mono ?_
  rintro e w2 ⟨⟨v2, rfl, hO2⟩, hb2⟩
  have hB3 := hB2.trans (hb2.mono hB2.size)
  obtain ⟨a2, c2, e4⟩ := hO2.shape
  rw [H2.out] at e4
  subst e4
  have hq2 : w2.cell? ⟨b1, off1, none⟩ = some (.string (S x)) := by rw [hB3.cell (by exact hl1)]; exact hq1
  have hxl : ((x.length : Int) == 1024) = true := by rw [HX1.out]; rfl
  have hB4 := hB1.trans (hB3.mono hB1.size)
  clear hmk2 hcv2 hB2 hB3 hO2 hb2 hB1 hq1
  go_wp2_with fail
  go_ret
  exact ⟨rfl, hB4⟩
/-- 'append(v, x...)' of a slice of strings, as a step of a region that draws -/
theorem step_app_strs {ops : Array Oper} {o : Oper} {a : Act} {K : Act → World → Prop} {Q : Exit → Act → World → Prop} {E : Prop} {w0 : World} (hgd : o.guard = none) (s x : Operand)
    (ho : o.op = .call { callee := .builtin .append, args := #[s, x], argTypes := #[29, 29] })
    (base : Nat) (v : Value) (l news : List (List UInt8)) (hs : a.eval s = v) (hown : OwnS w0 base v l) (g off m c : Nat)
    (hx : a.eval x = .slice (some ⟨g, off, none⟩) m c) (hm : news.length = m) (hc : ∀ j (h : j < news.length), w0.cell? ⟨g, off + j, none⟩ = some (.string (S news[j])))
    (hbound : l.length + m ≤ 1000000000) (hbase : base ≤ w0.heap.size)
    (h : ∀ v' w', OwnS w' base v' (l ++ news) → Below base w0 w' → Grew w0 w' v v' → K (a.put o.dst v') w') :
    if Region.wanted o (yielded ops a.tmps) = true then o.wp Tryd.prog a w0 K Q else E := by
  have hw : Region.wanted o (yielded ops a.tmps) = true := by simp [Region.wanted, hgd]
  rw [if_pos hw]
  obtain ⟨i0, hi, hz0, hz1, hz2⟩ := info_parts info_str
  obtain ⟨v', w', hr, h2, h3⟩ := run_append_sep (P := Tryd.prog) w0 base 29 o.type 9 i0 (.string ⟨#[]⟩) 1 16 Tryd.underlying29 hi hz0 hz1 hz2 rfl (by decide) v l.length (l.map sv) hown
    ⟨g, off, none⟩ m c (news.map sv) (by simp [hm]) (fun j u hj => by
      rw [List.getElem?_map] at hj
      obtain ⟨q, hq, rfl⟩ := Option.map_eq_some_iff.1 hj
      obtain ⟨hj2, rfl⟩ := List.getElem?_eq_some_iff.1 hq
      rw [Addr.add_lit]
      exact hc j hj2) (sv_one _) (by unfold maxLen; omega) (by omega) hbase
  unfold Oper.wp execOp
  simp only [ho, resolve, invoke, builtin, Sem.run_bind, Sem.run_pure, Result.andThen_ok, List.map_toArray, List.map_cons, List.map_nil, hs, hx, hr]
  refine h v' w' ?_ ?_ h3
  · unfold OwnS
    rw [List.map_append, List.length_append, hm]
    exact h2
  · refine (Below.refl base w0).grown h3.grown hbase ?_
    intro k hk
    exact (World.ownsRow.lt hown k hk).1
theorem OwnS.full {w : World} {base : Nat} {v : Value} {L : List (List UInt8)} (h : OwnS w base v L) {C : Nat} (hC : L.length = C) (h0 : 0 < C) :
    ∃ g c, v = .slice (some ⟨g, 0, none⟩) C c ∧ C ≤ c ∧ base ≤ g ∧ g < w.heap.size ∧ ∀ j, j < C → w.cell? ⟨g, j, none⟩ = some (.string (S (L.getD j []))) := by
  have hc := fun g => World.ownsRow.cells h (g := g)
  have hlt := World.ownsRow.lt h
  rcases h.2 with ⟨e, h1⟩ | ⟨g, cap, cur, rfl, h1, h2, h3, _⟩
  · omega
  · refine ⟨g, cap, by rw [hC], by omega, h1, (hlt g rfl).2, fun j hj => ?_⟩
    have := hc g rfl j (sv (L.getD j [])) (by
      rw [List.getElem?_map, List.getD_eq_getElem?_getD, List.getElem?_eq_getElem (by omega)]; rfl)
    rw [Addr.add_lit, Nat.zero_add] at this
    exact this
set_option maxRecDepth 100000 in
set_option maxHeartbeats 8000000 in
theorem lawParts39 (s : ByteArray) (n : Int) (turn : UInt8) (w : World) :
    Calls Tryd.prog 4 #[.string s, .int .i64 n, .int .u8 turn.toNat] w fun e w' => e = .returned (.bool true) ∧ Below w.heap.size w w' := by
  have HAW := Lib.hid awake39
  by_cases hbig : 6000 < s.size
  · have hbI : (s.size : Int) > 6000 := by omega
    clear hbig
    go_enter Tryd.func4, Tryd.ntmps4
    go_wp2_with fail
    refine (HAW.out _).mono ?_
    rintro e w2 ⟨rfl, hb2⟩
    go_wp2_with fail
    go_ret
    exact ⟨rfl, hb2⟩
  have hbI : ¬ (s.size : Int) > 6000 := by omega
  by_cases hn : n < 2 ∨ 1048576 < n
  · have HN := Lib.hid (fun w => no_part s n w hn)
    clear hbig
    rcases hn with hn | hn
    · go_enter Tryd.func4, Tryd.ntmps4
      go_wp2_with fail
      refine (HN.out _).mono ?_
      rintro e w1 ⟨rfl, rfl⟩
      go_wp2_with fail
      refine (HAW.out _).mono ?_
      rintro e w2 ⟨rfl, hb2⟩
      go_wp2_with fail
      go_ret
      exact ⟨rfl, hb2⟩
    · have hn2 : ¬ n < 2 := by omega
      go_enter Tryd.func4, Tryd.ntmps4
      go_wp2_with fail
      refine (HN.out _).mono ?_
      rintro e w1 ⟨rfl, rfl⟩
      go_wp2_with fail
      refine (HAW.out _).mono ?_
      rintro e w2 ⟨rfl, hb2⟩
      go_wp2_with fail
      go_ret
      exact ⟨rfl, hb2⟩
  obtain ⟨m, rfl⟩ : ∃ m : Nat, n = m := ⟨n.toNat, by omega⟩
  have hm2 : ¬ (m : Int) < 2 := by omega
  have hm3 : ¬ (m : Int) > 1048576 := by omega
  obtain ⟨l, hl⟩ : ∃ l, l = s.data.toList := ⟨_, rfl⟩
  have hsl : s = S l := by rw [hl]; rfl
  have hll : l.length ≤ 6000 := by rw [hl, size_len]; omega
  subst hsl
  clear hl
  have HP := Lib.hid (fun w => vPart_any l m (by omega) (by omega) (by omega) w)
  have HR := Lib.hid (fun w => rPart_any l m (by omega) (by omega) (by omega) w)
  obtain ⟨sz, hsz⟩ : ∃ sz, sz = 512 * (m - 1) := ⟨_, rfl⟩
  rw [← hsz] at HP HR
  have hz1 : 512 ≤ sz := by omega
  have hC := vols_len sz l
  have hc1 := cnt_pos sz l
  have hc2 : cntV sz l ≤ 20 := by
    unfold cntV
    have : (l.length + sz - 1) / sz < 21 := by
      rw [Nat.div_lt_iff_lt_mul (by omega)]
      omega
    omega
  have hJP := fun k hk => join_vols sz l k (by omega) (by omega) (by omega) hk
  have hvl : ∀ q ∈ volsV sz l, q.length ≤ 1000000 := by
    intro q hq
    unfold volsV at hq
    obtain ⟨i, hi, rfl⟩ := List.mem_map.1 hq
    have hi := List.mem_range.1 hi
    have h1 := chunk_len sz l i
    have h2 := restI_bd (chunkV sz l i).length
    rw [one_length _ _ _ (fits_vol _ _ _ (by omega) (by omega) (by omega) (by omega) (by omega))]
    unfold padK
    omega
  generalize volsV sz l = L at *
  generalize cntV sz l = C at *
  obtain ⟨k, hk⟩ : ∃ k, k = turn.toNat % C := ⟨_, rfl⟩
  have hkC : k < C := by rw [hk]; exact Nat.mod_lt _ (by omega)
  have hkI : ((turn.toNat : Int)) % (C : Int) = (k : Int) := by rw [hk]; rfl
  have htl := turn.toNat_lt
  have hM := hJP k (by omega)
  have HML : Hid ((L.drop k ++ L.take k).length = C) := Lib.hid (by rw [List.length_append, List.length_drop, List.length_take]; omega)
  have hMv : joinV (L.drop k ++ L.take k).length (L.drop k ++ L.take k) 0 [] = (l, 0, 0) := by
    unfold joinR at hM
    rwa [if_neg (by intro g; have := HML.out; rw [g] at this; simp at this; omega)] at hM
  have HMV := Lib.hid hMv
  have HVL := Lib.hid (show ∀ q ∈ L.drop k ++ L.take k, q.length ≤ 1000000 by
    intro q hq
    rcases List.mem_append.1 hq with g | g
    · exact hvl q (List.mem_of_mem_drop g)
    · exact hvl q (List.mem_of_mem_take g))
  have HCL := Lib.hid hC
  clear hC hM hMv hJP hvl hsz hz1 hk hbig hn
  go_enter Tryd.func4, Tryd.ntmps4
  go_wp2_with fail
  refine (HP.out _).mono ?_
  rintro e w1 ⟨⟨v1, rfl, hO1⟩, hb1⟩
  obtain ⟨g5, c1, rfl, hg5, _, hgl, hq1⟩ := hO1.full HCL.out (by omega)
  have HS1 := Lib.hid hO1.strs
  have HQ1 := Lib.hid hq1
  have hcc : ((C : Int) == 0) = false := beq_eq_false_iff_ne.2 (by omega)
  clear hO1 hq1
  go_wp2_with fail
  refine (HR.out _).mono ?_
  rintro e w2 ⟨⟨v2, rfl, hO2⟩, hb2⟩
  have hB2 := hb1.trans (hb2.mono hb1.size)
  have hSm := Same_any L L _ _ (by rw [HCL.out]; omega) w2 (HS1.out.below hb2 (Nat.le_refl _)) hO2.strs
  rw [show decide (L = L) = true from decide_eq_true rfl] at hSm
  have HSm := Lib.hid hSm
  obtain ⟨a2, c2, e2⟩ := hO2.shape
  rw [HCL.out] at e2
  subst e2
  clear hSm hO2
  go_wp2_with fail
  refine (HSm.out).mono ?_
  rintro e w3 ⟨rfl, q, rfl⟩
  have hB3 : Below w.heap.size w (w2.drewN q) := belowDrewN hB2
  have hb3 : Below w1.heap.size w1 (w2.drewN q) := belowDrewN hb2
  have HQ3 : Hid (∀ j, j < C → (w2.drewN q).cell? ⟨g5, j, none⟩ = some (.string (S (L.getD j [])))) := Lib.hid (fun j hj => by rw [hb3.cell (by exact hgl)]; exact HQ1.out j hj)
  have hgl3 : g5 < (w2.drewN q).heap.size := Nat.lt_of_lt_of_le hgl hb3.size
  clear HSm HQ1 HS1 hb2 hB2 hb3
  generalize w2.drewN q = W at *
  have z0 : (0 : Int) ≤ (k : Int) := by omega
  have z1 : (k : Int) ≤ (C : Int) := by omega
  have z2 : (k : Int) ≤ (c1 : Int) := by omega
  have z3 : (C : Int) ≤ (c1 : Int) := by omega
  have z4 : ¬ c1 = k := by omega
  have z5 : ¬ c1 = 0 := by omega
  go_upto_region 9 with (fail)
  simp only [hkI]
  clear hkI
  have hx1 : Below W.heap.size W ((W.alloc (.cells #[] 9)).drew) := ((Below.refl _ _).alloc (Nat.le_refl _) _).drew
  go_region_law (first
    | (refine step_app_strs rfl (.tmp 55) (.tmp 58) rfl W.heap.size _ [] (L.drop k) rfl (ownS_lit W) g5 k (C - k) (c1 - k) rfl (by rw [List.length_drop, HCL.out]) (fun j hj => by rw [List.length_drop, HCL.out] at hj; rw [hx1.cell (by exact hgl3), HQ3.out _ (by omega), List.getElem_drop, List.getD_eq_getElem?_getD, List.getElem?_eq_getElem (by rw [HCL.out]; omega)]; rfl) (by simp; omega) (by simp) ?_; intro v3 w3 hO3 hb3 hg3)
    | (refine step_app_strs rfl (.tmp 59) (.tmp 62) rfl W.heap.size v3 ([] ++ L.drop k) (L.take k) rfl hO3 g5 0 k c1 rfl (by rw [List.length_take, HCL.out]; omega) (fun j hj => by rw [List.length_take, HCL.out] at hj; rw [Nat.zero_add, hb3.cell (by exact hgl3), hx1.cell (by exact hgl3), HQ3.out _ (by omega), List.getElem_take, List.getD_eq_getElem?_getD, List.getElem?_eq_getElem (by rw [HCL.out]; omega)]; rfl) (by simp [HCL.out]; omega) (Nat.le_trans hx1.size hb3.size) ?_; intro v4 w4 hO4 hb4 hg4))
  rw [List.nil_append] at hO4
  have hB4 : Below w.heap.size w w4 := hB3.trans (((hx1.trans hb3).trans hb4).mono hB3.size)
  have hJ := vJoin_some _ v4 (by rw [HML.out]; omega) (by rw [HML.out]; omega) HVL.out w4 hO4.strs
  rw [HMV.out] at hJ
  have HJ := Lib.hid hJ
  clear hJ hO4 hb4 hg4 hO3 hb3 hg3 hx1 hB3 HQ3
  go_wp2_with fail
  refine (HJ.out).mono ?_
  rintro e w5 ⟨rfl, hb5⟩
  have hB5 := hB4.trans (hb5.mono hB4.size)
  have hll2 : (l == l) = true := by simp
  go_wp2_with fail
  refine (HAW.out _).mono ?_
  rintro e w6 ⟨rfl, hb6⟩
  go_wp2_with fail
  go_ret
  exact ⟨rfl, hB5.trans (hb6.mono hB5.size)⟩
end Go.Proofs.YtjldphpdfckjnaaDoor
namespace Go.Proofs.YtjldphpdfckjnaaDoor
open Go.RowKit

/-- the block g begins with these bytes, none of which is frozen -/
def ByAt (w : World) (g : Nat) (l : List UInt8) : Prop :=
  ∃ (ex : List Value) (fr : Nat × Nat), w.heap[g]? = some (.cells ((l.map bv) ++ ex).toArray 5 fr) ∧ ∀ i, i < l.length → ¬ (fr.1 ≤ i ∧ i < fr.2)
theorem ByAt.lt {w : World} {g : Nat} {l : List UInt8} (h : ByAt w g l) : g < w.heap.size := by
  obtain ⟨ex, fr, h, _⟩ := h
  exact (Array.getElem?_eq_some_iff.1 h).1
theorem ByAt.same {w w' : World} {g : Nat} {l : List UInt8} (h : ByAt w g l) (e : w'.heap[g]? = w.heap[g]?) : ByAt w' g l := by
  obtain ⟨ex, fr, h, h2⟩ := h
  exact ⟨ex, fr, e.trans h, h2⟩
theorem ByAt.under {w w' : World} {g B : Nat} {l : List UInt8} (h : ByAt w g l) (hb : Below B w w') (hg : g < B) : ByAt w' g l := h.same (hb.block g hg)
theorem ByAt.drew {w : World} {g : Nat} {l : List UInt8} (h : ByAt w g l) : ByAt w.drew g l := h
theorem ByAt.cell {w : World} {g : Nat} {l : List UInt8} (h : ByAt w g l) (i : Nat) (hi : i < l.length) : w.cell? ⟨g, i, none⟩ = some (bv l[i]) := by
  obtain ⟨ex, fr, h, _⟩ := h
  simp [World.cell?, h, List.getElem?_append_left, hi]
theorem ByAt.fz {w : World} {g : Nat} {l : List UInt8} (h : ByAt w g l) (i : Nat) (hi : i < l.length) : w.frozen? ⟨g, i, none⟩ = false := by
  obtain ⟨ex, fr, h, h2⟩ := h
  have := h2 i hi
  simp [World.frozen?, h]
  intro h3
  omega
theorem heap_setCell_any (w : World) (g i : Nat) (cs : Array Value) (t : TypeId) (fr : Nat × Nat) (v : Value) (hg : w.heap[g]? = some (.cells cs t fr)) :
    (w.setCell ⟨g, i, none⟩ v).heap[g]? = some (.cells (cs.setIfInBounds i v) t fr) := by
  simp [World.setCell, Array.getElem?_modify, hg]
theorem ByAt.set {w : World} {g : Nat} {l : List UInt8} (h : ByAt w g l) (i : Nat) (b : UInt8) (hi : i < l.length) : ByAt (w.setCell ⟨g, i, none⟩ (bv b)) g (l.set i b) := by
  obtain ⟨ex, fr, h, h2⟩ := h
  refine ⟨ex, fr, ?_, by rw [List.length_set]; exact h2⟩
  rw [heap_setCell_any w g i _ _ _ (bv b) h]
  simp [List.map_set, List.set_append_left, hi]
theorem lay_cons (l : List UInt8) (off : Nat) (b : UInt8) (s : List UInt8) (h : off < l.length) : layL l off (b :: s) = layL (l.set off b) (off + 1) s := by
  unfold layL
  rw [List.drop_set_of_lt (by omega), show off + 1 + s.length = off + (b :: s).length by rw [List.length_cons]; omega]
  congr 1
  rw [List.take_succ_eq_append_getElem (by rw [List.length_set]; exact h)]
  rw [List.take_set_of_le (Nat.le_refl _)]
  simp
theorem lay_len (l : List UInt8) (off : Nat) (s : List UInt8) (h : off + s.length ≤ l.length) : (layL l off s).length = l.length := by
  unfold layL
  rw [List.length_append, List.length_append, List.length_take, List.length_drop]
  omega
theorem ByAt.lay {g : Nat} : ∀ (s : List UInt8) (off : Nat) (l : List UInt8) (w : World), ByAt w g l → off + s.length ≤ l.length → ByAt (w.setCells g off (s.map bv)) g (layL l off s)
  | [], off, l, w, h, _ => by
    have : layL l off [] = l := by unfold layL; simp
    rw [this]
    exact h
  | b :: s, off, l, w, h, hl => by
    rw [List.length_cons] at hl
    rw [lay_cons l off b s (by omega)]
    exact ByAt.lay s (off + 1) (l.set off b) (w.setCell ⟨g, off, none⟩ (bv b)) (h.set off b (by omega)) (by rw [List.length_set]; omega)
theorem setCells_other (g k : Nat) (hk : k ≠ g) : ∀ (vs : List Value) (off : Nat) (w : World), (w.setCells g off vs).heap[k]? = w.heap[k]?
  | [], _, _ => rfl
  | v :: vs, off, w => (setCells_other g k hk vs (off + 1) _).trans (setCell_other w g off k v hk)
theorem run_copy_min (w : World) (ty : TypeId) (g off dLen dCap : Nat) (s l : List UInt8) (n : Nat) (hn : Nat.min s.length dLen = n) (hA : ByAt w g l) (hfit : off + n ≤ l.length) :
    (Builtin.copy_ #[46, 9] ty #[.slice (some ⟨g, off, none⟩) dLen dCap, .string (S s)]).run Tryd.prog w = .ok (goInt n) (w.setCells g off ((s.take n).map bv)) := by
  have hz : ∀ w, (Go.sizeOf 5).run Tryd.prog w = .ok 1 w := fun w => by kernel_rfl
  have hnl : n ≤ s.length := by rw [← hn]; exact Nat.min_le_left _ _
  have hl : ((s.take n).map bv).length = n := by rw [List.length_map, List.length_take]; omega
  have hst := run_storeCells_cells (P := Tryd.prog) g off ((s.take n).map bv) 0 w (by
      intro j hj
      rw [hl] at hj
      rw [Nat.add_zero, hA.cell (off + j) (by omega)]; rfl) (by
      intro j hj
      rw [hl] at hj
      rw [Nat.add_zero]; exact hA.fz (off + j) (by omega)) (bv_one _)
  simp [Builtin.copy_, run_underlying Tryd.underlying46, Builtin.lenOf, Builtin.firstCells, hz]
  have e : List.take n (List.map (fun b : UInt8 => Value.int IntKind.u8 (b.toNat : Int)) s) = (s.take n).map bv := by rw [List.map_take]; rfl
  rw [hn, e, hst, Nat.add_zero, ← List.map_take]
  rfl
theorem below_setCells (B g : Nat) (wb : World) (hB : B ≤ g) : ∀ (vs : List Value) (off : Nat) (w : World), Below B wb w → Below B wb (w.setCells g off vs)
  | [], _, _, h => h
  | v :: vs, off, _, h => below_setCells B g wb hB vs (off + 1) _ (h.setCell hB v)
/-- 'copy(d, s)' of a text, as far as it fits -/
theorem app_copy {ops : Array Oper} {rest : List Oper} {o : Oper} {a : Act} {Q : Exit → Act → World → Prop} {w0 : World} (hgd : o.guard = none) (d x : Operand)
    (ho : o.op = .call { callee := .builtin .copy, args := #[d, x], argTypes := #[46, 9] })
    (g off dLen dCap : Nat) (hd : a.eval d = .slice (some ⟨g, off, none⟩) dLen dCap) (s cur : List UInt8) (hx : a.eval x = .string (S s)) (n : Nat) (hn : Nat.min s.length dLen = n) (hW : ByAt w0 g cur) (hfit : off + n ≤ cur.length)
    (B : Nat) (wb : World) (hb : Below B wb w0) (hBg : B ≤ g)
    (h : ∀ w', ByAt w' g (layL cur off (s.take n)) → Below B wb w' → (∀ k, k ≠ g → w'.heap[k]? = w0.heap[k]?) → wpList Tryd.prog ops Q rest (a.put o.dst (goInt n)) w') :
    wpList Tryd.prog ops Q (o :: rest) a w0 := by
  refine wpList_plain hgd fun K hK => ?_
  have hr := run_copy_min w0 o.type g off dLen dCap s cur n hn hW hfit
  unfold Oper.wp execOp
  simp only [ho, resolve, invoke, builtin, Sem.run_bind, Sem.run_pure, Result.andThen_ok, List.map_toArray, List.map_cons, List.map_nil, hd, hx, hr]
  have hnl : n ≤ s.length := by rw [← hn]; exact Nat.min_le_left _ _
  exact hK _ _ (h _ (ByAt.lay (s.take n) off cur w0 hW (by rw [List.length_take]; omega)) (below_setCells B g wb hBg _ _ _ hb) (fun k hk => setCells_other g k hk _ _ _))
theorem step_copy {ops : Array Oper} {o : Oper} {a : Act} {K : Act → World → Prop} {Q : Exit → Act → World → Prop} {E : Prop} {w0 : World} (hgd : o.guard = none) (d x : Operand)
    (ho : o.op = .call { callee := .builtin .copy, args := #[d, x], argTypes := #[46, 9] })
    (g off dLen dCap : Nat) (hd : a.eval d = .slice (some ⟨g, off, none⟩) dLen dCap) (s cur : List UInt8) (hx : a.eval x = .string (S s)) (n : Nat) (hn : Nat.min s.length dLen = n) (hW : ByAt w0 g cur) (hfit : off + n ≤ cur.length)
    (B : Nat) (wb : World) (hb : Below B wb w0) (hBg : B ≤ g)
    (h : ∀ w', ByAt w' g (layL cur off (s.take n)) → Below B wb w' → (∀ k, k ≠ g → w'.heap[k]? = w0.heap[k]?) → K (a.put o.dst (goInt n)) w') :
    if Region.wanted o (yielded ops a.tmps) = true then o.wp Tryd.prog a w0 K Q else E := by
  have hw : Region.wanted o (yielded ops a.tmps) = true := by simp [Region.wanted, hgd]
  rw [if_pos hw]
  have hr := run_copy_min w0 o.type g off dLen dCap s cur n hn hW hfit
  unfold Oper.wp execOp
  simp only [ho, resolve, invoke, builtin, Sem.run_bind, Sem.run_pure, Result.andThen_ok, List.map_toArray, List.map_cons, List.map_nil, hd, hx, hr]
  have hnl : n ≤ s.length := by rw [← hn]; exact Nat.min_le_left _ _
  exact h _ (ByAt.lay (s.take n) off cur w0 hW (by rw [List.length_take]; omega)) (below_setCells B g wb hBg _ _ _ hb) (fun k hk => setCells_other g k hk _ _ _)
/-- 'string(v)' of such bytes -/
theorem ByAt.str {w : World} {g : Nat} {l : List UInt8} (h : ByAt w g l) (n c : Nat) (hn : n = l.length) : (convert 46 9 (.slice (some ⟨g, 0, none⟩) n c)).run Tryd.prog w = .ok (.string (S l)) w := by
  subst hn
  rw [run_convert_bytes_string w 46 9 5 _ _ _ Tryd.underlying46 Tryd.underlying5 Tryd.underlying9]
  have hl : (loadCells ⟨g, 0, none⟩ l.length).run Tryd.prog w = .ok ((l.map fun b => (b.toNat : Int)).map (Value.int .u8)).toArray w := by
    have := run_loadCells_list (P := Tryd.prog) w ⟨g, 0, none⟩ (l.map bv) (fun j v hj => by
      rw [List.getElem?_map] at hj
      obtain ⟨b, hb, rfl⟩ := Option.map_eq_some_iff.1 hj
      obtain ⟨hj2, rfl⟩ := List.getElem?_eq_some_iff.1 hb
      rw [Addr.add_lit]
      simpa using h.cell j hj2)
    rw [List.length_map] at this
    rw [this, List.map_map]
    rfl
  rw [run_bytesToString w _ _ _ _ hl, foldl_push_bytes]
  simp [S, List.map_map, Function.comp_def]
/-- '[]byte(s)' -/
theorem app_bytes {ops : Array Oper} {rest : List Oper} {o : Oper} {a : Act} {Q : Exit → Act → World → Prop} {w : World} (hgd : o.guard = none) (x : Operand)
    (ho : o.op = .convert 9 46 x) (l : List UInt8) (hx : a.eval x = .string (S l))
    (h : ∀ w' c, Below w.heap.size w w' → ByAt w' w.heap.size l → l.length ≤ c → wpList Tryd.prog ops Q rest (a.put o.dst (.slice (some ⟨w.heap.size, 0, none⟩) l.length c)) w') :
    wpList Tryd.prog ops Q (o :: rest) a w := by
  refine wpList_plain hgd fun K hK => ?_
  unfold Oper.wp execOp
  simp only [ho, hx, Lib.run_convert_string_bytes w 9 46 5 (S l) Tryd.underlying9 Tryd.underlying46 Tryd.underlying5, Sem.run_bind, Sem.run_pure, Result.andThen_ok]
  rw [S_size]
  refine hK _ _ (h _ _ (below_bytesWorld _ _ _ _ (Nat.le_refl _)) ?_ (grownCap_ge _ _ _ _))
  have hcells : Lib.bytesCells w 5 (S l) = (l.map bv ++ List.replicate (grownCap w (S l).size 0 5 - (S l).size) (Value.int .u8 0)).toArray := by
    unfold Lib.bytesCells
    apply Array.toList_inj.1
    simp [S]
    exact fun _ _ => rfl
  refine ⟨List.replicate (grownCap w (S l).size 0 5 - (S l).size) (Value.int .u8 0), ((Lib.bytesCells w 5 (S l)).size, (Lib.bytesCells w 5 (S l)).size + 1), ?_, ?_⟩
  · rw [Lib.bytesWorld_at_new, ← hcells]
  · intro i hi
    have : i < (Lib.bytesCells w 5 (S l)).size := by
      unfold Lib.bytesCells
      simp [S]
      omega
    omega
end Go.Proofs.YtjldphpdfckjnaaDoor
namespace Go.Proofs.YtjldphpdfckjnaaDoor
open Go.RowKit

set_option maxRecDepth 100000 in
set_option maxHeartbeats 8000000 in
theorem spoilt_any (blk : List UInt8) (spots : List (Nat × List UInt8)) (v : Value) (sl : Bool) (w : World) (hbl : blk.length = 512) (hv : SpotsV w v spots) (hp : ∀ p ∈ spots, p.1 < 65536 ∧ p.2.length ≤ 140737488355328) (hsn : spots.length ≤ 1000) :
    Calls Tryd.prog 10 #[.string (S blk), v, .bool sl] w fun e w' => ∃ t : List UInt8, t.length = 512 ∧ e = .returned (.string (S t)) ∧ Below w.heap.size w w' := by
  obtain ⟨a, c, rfl, hv⟩ := hv
  have HV := Lib.hid hv
  have HP := Lib.hid hp
  have hlen : spots.length = spots.length := rfl
  clear hv hp hlen
  go_enter Tryd.func10, Tryd.ntmps10
  go_wp2_with (refine app_bytes rfl _ rfl blk rfl ?_; intro w1 cb hb1 hBy hcb; rw [hbl])
  rw [hbl] at hcb
  have HX1 := Lib.hid hb1
  have HB1 := Lib.hid hBy
  have HL := Lib.hid hbl
  clear hb1 hBy hbl
  generalize hg : w.heap.size = g at *
  have HG := Lib.hid hg
  clear hg
  go_loopw [14] (fun v14 wr => ∃ (k : Nat) (cur : List UInt8), v14 = .int .i64 k ∧ k ≤ spots.length ∧ Hid (cur.length = 512) ∧ Hid (ByAt wr g cur) ∧ Hid (Below g w wr)) (fun v14 _ => spots.length - (intOf v14).toNat)
  case atStart => exact ⟨0, blk, rfl, Nat.zero_le _, HL, HB1, HX1⟩
  case round =>
    obtain ⟨k, cur, rfl, hk, HCL, HB, HX⟩ := hrel
    clear HB1 HX1 HL
    by_cases hlt : k < spots.length
    · have hkI : (k : Int) < (spots.length : Int) := by omega
      obtain ⟨b, off, rfl, hblt, hcell⟩ := HV.out (by omega)
      obtain ⟨p, hpk⟩ : ∃ p, spots[k] = p := ⟨_, rfl⟩
      have hpb := HP.out p (by rw [← hpk]; exact List.getElem_mem hlt)
      obtain ⟨At, s⟩ := p
      have hbg : b < g := by have := HG.out; omega
      have c0 : wr.cell? ⟨b, off + k * 2, none⟩ = some (.int .u16 At) := by
        rw [HX.out.cell (by exact hbg)]
        exact hcell k hlt 0 _ (by rw [hpk]; rfl)
      have c1 : wr.cell? ⟨b, off + k * 2 + 1, none⟩ = some (.string (S s)) := by
        rw [HX.out.cell (by exact hbg)]
        exact hcell k hlt 1 _ (by rw [hpk]; rfl)
      obtain ⟨hA, hsl⟩ := hpb
      obtain ⟨q, hq⟩ : ∃ q : Nat, q = At % 512 := ⟨_, rfl⟩
      have hqI : (At : Int) % 512 = (q : Int) := by omega
      have hq5 : q < 512 := by omega
      have hne : ¬ cb = q := by omega
      have hcbI : (512 : Int) ≤ (cb : Int) := by omega
      have hcb2 : 512 ≤ cb := hcb
      have hA2 : (At : Int) ≤ 65535 := by omega
      have hA0 : (0 : Int) ≤ (At : Int) := by omega
      have htm : ((At : Int)).tmod 512 = (q : Int) := by rw [Int.tmod_eq_emod_of_nonneg hA0]; exact hqI
      have hwA : IntKind.i64.wrap (At : Int) = (At : Int) := wrap_lit_i64 _ (by omega) (by omega)
      have hq0I : (0 : Int) ≤ (q : Int) := by omega
      have hq5I : (q : Int) ≤ 512 := by omega
      clear hq hcell hpk HV HP
      have HB5 : Hid (ByAt (wr.alloc (.cells #[.int .u16 At, .string (S s)] 26)) g cur) := Lib.hid (HB.out.same (Below.heap_alloc wr _ g HB.out.lt))
      have HX5 : Hid (Below g w (wr.alloc (.cells #[.int .u16 At, .string (S s)] 26))) := Lib.hid (HX.out.alloc (Nat.le_of_lt HB.out.lt) _)
      have HQ5 : Hid (AtB (wr.alloc (.cells #[.int .u16 At, .string (S s)] 26)) wr.heap.size 26 [.int .u16 At, .string (S s)]) := Lib.hid (AtB.new wr _ [.int .u16 At, .string (S s)])
      have hgp : g < wr.heap.size := HB.out.lt
      go_upto_region 6 with fail
      generalize wr.alloc (.cells #[.int .u16 At, .string (S s)] 26) = w5 at *
      generalize wr.heap.size = gp at *
      have q0d : w5.drew.cell? ⟨gp, 0, none⟩ = some (.int .u16 At) := by rw [show w5.drew.cell? ⟨gp, 0, none⟩ = w5.cell? ⟨gp, 0, none⟩ from rfl, HQ5.out.cell 0]; rfl
      have q1d : w5.drew.cell? ⟨gp, 1, none⟩ = some (.string (S s)) := by rw [show w5.drew.cell? ⟨gp, 1, none⟩ = w5.cell? ⟨gp, 1, none⟩ from rfl, HQ5.out.cell 1]; rfl
      have hbd : Below g w w5.drew := HX5.out.drew
      have hWd : ByAt w5.drew g cur := HB5.out
      have hfit : q + Nat.min s.length (512 - q) ≤ cur.length := by
        rw [HCL.out]
        have : Nat.min s.length (512 - q) ≤ 512 - q := Nat.min_le_right _ _
        omega
      clear c0 c1 HB HX HB5 HX5 HQ5
      go_region_held3 (fun W => W.cell? ⟨gp, 0, none⟩ = some (.int .u16 At) ∧ W.cell? ⟨gp, 1, none⟩ = some (.string (S s))) (first | exact ⟨r0, r1⟩ | exact ⟨q0d, q1d⟩) (first
        | (refine step_copy (by rfl) (.tmp 28) (.tmp 30) (by rfl) g q (512 - q) (cb - q) (by rfl) s cur (by rfl) _ rfl hWd hfit g w hbd (Nat.le_refl _) ?_; intro w6 hW6 hb6 hk6; have r0 : w6.cell? ⟨gp, 0, none⟩ = some (.int .u16 At) := (World.cell?_of_block (a := ⟨gp, 0, none⟩) (hk6 gp (by omega))).trans q0d; have r1 : w6.cell? ⟨gp, 1, none⟩ = some (.string (S s)) := (World.cell?_of_block (a := ⟨gp, 1, none⟩) (hk6 gp (by omega))).trans q1d))
      clear hwA htm hqI
      go_wp2_with fail
      go_roundw
      case rel => exact ⟨k + 1, _, by go_num, by omega, Lib.hid (by rw [lay_len _ _ _ (by rw [List.length_take]; have : Nat.min s.length (512 - q) ≤ 512 - q := Nat.min_le_right _ _; rw [HCL.out]; omega)]; exact HCL.out), Lib.hid hW6, Lib.hid hb6⟩
      case measure => simp [intOf] <;> omega
    · have hkk : k = spots.length := by omega
      subst hkk
      have hkI : ¬ (spots.length : Int) < (spots.length : Int) := by omega
      have hstr := HB.out.str 512 cb HCL.out.symm
      have HSE := Lib.hid (fun w => rSeal_any cur w HCL.out)
      cases sl with
      | true =>
        go_wp2_with fail
        refine (HSE.out _).mono ?_
        rintro e w2 ⟨rfl, hb2⟩
        go_wp2_with fail
        go_ret
        exact ⟨sealL cur, seal_len cur HCL.out, rfl, by rw [HG.out]; exact HX.out.trans (hb2.mono (Nat.le_of_lt HB.out.lt))⟩
      | false =>
        go_wp2_with fail
        go_ret
        exact ⟨cur, HCL.out, rfl, by rw [HG.out]; exact HX.out⟩
end Go.Proofs.YtjldphpdfckjnaaDoor
namespace Go.Proofs.YtjldphpdfckjnaaDoor
open Go.RowKit Go.Lib

theorem eq_labs (a b c d : Int) (w : World) :
    (Op.equalIn 10000 35 (.agg #[.int .i64 a, .int .i64 b, .int .i64 c, .int .i64 d]) (.agg #[.int .i64 a, .int .i64 b, .int .i64 c, .int .i64 d])).run Tryd.prog w = .ok true w := by
  rw [run_equalIn_agg w 9999 35 _ _ (by kernel_rfl) (by kernel_rfl)]
  simp [go_sem, Op.eqFields]
@[go_sem high] theorem neq_labs (a b c d : Int) (w : World) : (binOp .neq 35 (.agg #[.int .i64 a, .int .i64 b, .int .i64 c, .int .i64 d]) (.agg #[.int .i64 a, .int .i64 b, .int .i64 c, .int .i64 d])).run Tryd.prog w = .ok (.bool false) w := by
  rw [run_neq_struct, eq_labs]
  rfl
@[go_sem high] theorem neq_LC (x : LabL) (w : World) : (binOp .neq 35 (.agg (LC x).toArray) (.agg (LC x).toArray)).run Tryd.prog w = .ok (.bool false) w := neq_labs x.num x.cnt x.size x.sum w
@[go_sem high] theorem guard_labs (op : BinOp) (x y : Operand) (xs ys : Array Value) (w : World) : (eqGuard op 35 x y (.agg xs) (.agg ys)).run Tryd.prog w = .ok () w :=
  run_eqGuard_agg (P := Tryd.prog) w op _ x y _ _ (by kernel_rfl)
end Go.Proofs.YtjldphpdfckjnaaDoor
namespace Go.Proofs.YtjldphpdfckjnaaDoor
open Go.RowKit

set_option maxRecDepth 100000 in
set_option maxHeartbeats 8000000 in
theorem lawReads39 (raw s : ByteArray) (num cnt : UInt16) (spots : List (Nat × List UInt8)) (v : Value) (sl : Bool) (w : World) (hv : SpotsV w v spots) (hp : ∀ p ∈ spots, p.1 < 65536 ∧ p.2.length ≤ 140737488355328) :
    Calls Tryd.prog 3 #[.string raw, .string s, .int .u16 num.toNat, .int .u16 cnt.toNat, v, .bool sl] w fun e w' => e = .returned (.bool true) ∧ Below w.heap.size w w' := by
  have HAW := Lib.hid awake39
  have HSV := Lib.hid hv
  have HSP := Lib.hid hp
  obtain ⟨a, c, rfl, hcell⟩ := hv
  by_cases h1 : 2000 < raw.size
  · have hbI : (raw.size : Int) > 2000 := by omega
    clear h1 hcell hp
    go_enter Tryd.func3, Tryd.ntmps3
    go_wp2_with fail
    refine (HAW.out _).mono ?_
    rintro e w2 ⟨rfl, hb2⟩
    go_wp2_with fail
    go_ret
    exact ⟨rfl, hb2⟩
  have hbI : ¬ (raw.size : Int) > 2000 := by omega
  by_cases h2 : 2000 < s.size
  · have hbJ : (s.size : Int) > 2000 := by omega
    clear h1 h2 hcell hp
    go_enter Tryd.func3, Tryd.ntmps3
    go_wp2_with fail
    refine (HAW.out _).mono ?_
    rintro e w2 ⟨rfl, hb2⟩
    go_wp2_with fail
    go_ret
    exact ⟨rfl, hb2⟩
  have hbJ : ¬ (s.size : Int) > 2000 := by omega
  by_cases h3 : 10 < spots.length
  · have hbK : (spots.length : Int) > 10 := by omega
    clear h1 h2 h3 hcell hp
    go_enter Tryd.func3, Tryd.ntmps3
    go_wp2_with fail
    refine (HAW.out _).mono ?_
    rintro e w2 ⟨rfl, hb2⟩
    go_wp2_with fail
    go_ret
    exact ⟨rfl, hb2⟩
  have hbK : ¬ (spots.length : Int) > 10 := by omega
  obtain ⟨rl, hrl⟩ : ∃ l, l = raw.data.toList := ⟨_, rfl⟩
  obtain ⟨l, hl⟩ : ∃ l, l = s.data.toList := ⟨_, rfl⟩
  have hrs : raw = S rl := by rw [hrl]; rfl
  have hsl : s = S l := by rw [hl]; rfl
  have hrll : rl.length ≤ 2000 := by rw [hrl, size_len]; omega
  have hll : l.length ≤ 2000 := by rw [hl, size_len]; omega
  subst hrs
  subst hsl
  have hn1 := num.toNat_lt
  have hn2 := cnt.toNat_lt
  have hf := fits_vol l num.toNat cnt.toNat (by omega) (by omega) (by omega) (by omega) (by omega)
  have HO := Lib.hid (fun w => rone_any l num.toNat cnt.toNat (by omega) (by omega) (by omega) (by omega) (by omega) w)
  obtain ⟨ht, hd, hge⟩ := one_take l num.toNat cnt.toNat hf
  have hol := one_length l num.toNat cnt.toNat hf
  have hpk := restI_bd l.length
  have hol2 : (oneV l num.toNat cnt.toNat).length ≤ 4000 := by rw [hol]; unfold padK; omega
  have HBL := Lib.hid (show (buildN (volH l num.toNat cnt.toNat)).length = 512 from (build_fields _ hf).len)
  have e1 := take_S (oneV l num.toNat cnt.toNat) 512
  have e2 := ext_from (oneV l num.toNat cnt.toNat) 512
  rw [ht] at e1
  rw [hd] at e2
  have hpl : (padB l).length ≤ 4000 := by rw [← hd, List.length_drop]; omega
  generalize oneV l num.toNat cnt.toNat = V at *
  generalize buildN (volH l num.toNat cnt.toNat) = B at *
  generalize padB l = D at *
  have hgeI : (512 : Int) ≤ (V.length : Int) := by omega
  have HPC : Hid (∀ k (hk : k < spots.length), ∃ b off, a = some ⟨b, off, none⟩ ∧ b < w.heap.size ∧ w.cell? ⟨b, off + k * 2, none⟩ = some (.int .u16 (spots[k].1 : Nat)) ∧ w.cell? ⟨b, off + k * 2 + 1, none⟩ = some (.string (S spots[k].2)) ∧ spots[k].1 < 65536 ∧ spots[k].2.length ≤ 140737488355328) := Lib.hid (by
    intro k hk
    obtain ⟨b, off, q1, q2, q3⟩ := hcell (by omega)
    have q4 := hp spots[k] (List.getElem_mem hk)
    exact ⟨b, off, q1, q2, q3 k hk 0 _ rfl, q3 k hk 1 _ rfl, q4.1, q4.2⟩)
  have hnum : (num.toNat : Int) ≤ 65535 := by omega
  have hcnt : (cnt.toNat : Int) ≤ 65535 := by omega
  have HSN := Lib.hid (show spots.length ≤ 1000 by omega)
  have hsn : (spots.length : Int) ≤ 10 := by omega
  clear ht hd hf hol hpk hrl hl hcell hp h1 h2 h3
  go_enter Tryd.func3, Tryd.ntmps3
  go_wp2_with fail
  go_loopw [40] (fun i wr => ∃ k : Nat, i = .int .i64 k ∧ k ≤ spots.length ∧ Below w.heap.size w wr) (fun i _ => spots.length - (intOf i).toNat)
  case atStart => exact ⟨0, rfl, Nat.zero_le _, Below.refl _ _⟩
  case round =>
    obtain ⟨k, rfl, hk, hX⟩ := hrel
    have hsz := hX.size
    by_cases hlt : k < spots.length
    · obtain ⟨b, off, rfl, hb, q0, q1, q2, q3⟩ := HPC.out k hlt
      have c0 : wr.cell? ⟨b, off + k * 2, none⟩ = some (.int .u16 (spots[k].1 : Nat)) := by rw [hX.cell (by exact hb)]; exact q0
      have c1 : wr.cell? ⟨b, off + k * 2 + 1, none⟩ = some (.string (S spots[k].2)) := by rw [hX.cell (by exact hb)]; exact q1
      generalize spots[k].1 = at_ at *
      generalize spots[k].2 = q at *
      clear q0 q1 HPC
      by_cases hq : 600 < q.length
      · have hqI : (q.length : Int) > 600 := by omega
        clear hq
        go_wp2_with fail
        refine (HAW.out _).mono ?_
        rintro e w2 ⟨rfl, hb2⟩
        go_wp2_with fail
        go_ret
        exact ⟨rfl, (hX.alloc hsz _).trans (hb2.mono (by have := hX.size; simp; omega))⟩
      · have hqI : ¬ (q.length : Int) > 600 := by omega
        clear hq
        go_wp2_with fail
        go_roundw
        case rel => exact ⟨k + 1, by go_num, by omega, hX.alloc hsz _⟩
        case measure => simp [intOf]; omega
    · have hkn : k = spots.length := by omega
      subst hkn
      have HSV1 := Lib.hid (RowsV.below HSV.out hX (Nat.le_refl _))
      clear HPC
      go_wp2_with fail
      refine (HO.out _).mono ?_
      rintro e w1 ⟨rfl, hb1⟩
      have hX1 := hX.trans (hb1.mono hsz)
      have HSV2 := Lib.hid (RowsV.below HSV1.out hb1 (Nat.le_refl _))
      clear hX hb1
      go_upto_region 10 with (fail)
      have x0 : SpotsV w1.drew (.slice a spots.length c) spots := HSV2.out
      have x1 : Below w.heap.size w w1.drew := hX1.drew
      go_region_held3 (fun W => SpotsV W (.slice a spots.length c) spots ∧ Below w.heap.size w W) (first | exact ⟨x0, x1⟩ | exact ⟨y0, y1⟩) (first
        | (go_at_call 10; refine (spoilt_any B spots _ sl _ HBL.out x0 HSP.out HSN.out).mono ?_; rintro e w3 ⟨t, htl, rfl, hb3⟩; have y0 : SpotsV w3 (.slice a spots.length c) spots := RowsV.below x0 hb3 (Nat.le_refl _); have y1 : Below w.heap.size w w3 := x1.trans (hb3.mono x1.size); have hcat : ∀ W : World, (Op.stringOp .add (S t) (S D)).run Tryd.prog W = .ok (.string (S (t ++ D))) W := (fun W => (run_string_add_sum (P := Tryd.prog) W (S t) (S D) (by rw [S_size, S_size]; omega)).trans (by rw [S_append]))))
      have HX3 := Lib.hid y1
      have hV2 : (t ++ D).length ≤ 5000 := by rw [List.length_append, htl]; omega
      clear hcat
      generalize t ++ D = V2 at *
      have hV3 : S V2 ++ S rl = S (V2 ++ rl) := S_append _ _
      have hV4 : (V2 ++ rl).length ≤ 10000 := by rw [List.length_append]; omega
      generalize V2 ++ rl = V3 at *
      have HR0 : Hid (AtB (w3.alloc (.cells #[.string (S rl), .string (S V2), .string (S V3)] 9)) w3.heap.size 9 [sv rl, sv V2, sv V3]) := Lib.hid (AtB.new w3 _ [sv rl, sv V2, sv V3])
      have HX4 : Hid (Below w.heap.size w (w3.alloc (.cells #[.string (S rl), .string (S V2), .string (S V3)] 9))) := Lib.hid (y1.alloc y1.size _)
      have HTL : Hid (∀ k, k < 3 → ∃ q : List UInt8, [sv rl, sv V2, sv V3][k]? = some (.string (S q)) ∧ q.length ≤ 10000) := Lib.hid (by
        intro k hk
        match k, hk with
        | 0, _ => exact ⟨rl, rfl, by omega⟩
        | 1, _ => exact ⟨V2, rfl, by omega⟩
        | 2, _ => exact ⟨V3, rfl, by omega⟩)
      clear x0 x1 y0 hb3 HSV1 HSV2 HSV hX1 HO htl
      go_upto_region 12 with (fail)
      generalize w3.alloc (.cells #[.string (S rl), .string (S V2), .string (S V3)] 9) = W at *
      generalize w3.heap.size = g69 at *
      generalize [sv rl, sv V2, sv V3] = TL at *
      clear y1 HX3 hV3
      go_wp2_with fail
      go_loopw [71] (fun i wr => ∃ k : Nat, i = .int .i64 k ∧ k ≤ 3 ∧ AtB wr g69 9 TL ∧ Below w.heap.size w wr) (fun i _ => 3 - (intOf i).toNat)
      case atStart => exact ⟨0, rfl, Nat.zero_le _, HR0.out, HX4.out⟩
      case round =>
        obtain ⟨k, rfl, hk, hR, hX⟩ := hrel
        clear HR0 HX4
        by_cases hlt : k < 3
        · obtain ⟨q, hq1, hq2⟩ := HTL.out k hlt
          have hc : wr.cell? ⟨g69, k, none⟩ = some (.string (S q)) := by rw [hR.cell k]; exact hq1
          have HRA := Lib.hid (fun w => vRead_any q (by omega) w)
          have HRB := Lib.hid (fun w => rvRead_any q (by omega) w)
          generalize readV q = P at *
          obtain ⟨⟨nu, cn, lz, ls⟩, by', er⟩ := P
          unfold LabV at HRA HRB
          clear hq1 HTL
          go_wp2_with fail
          refine (HRA.out _).mono ?_
          rintro e w4 ⟨rfl, hb4⟩
          have hX4 := hX.trans (hb4.mono hX.size)
          have hR4 := hR.under hb4 hR.lt
          have hA4 : AtB (w4.alloc (.cells #[.int .i64 nu, .int .i64 cn, .int .i64 lz, .int .i64 ls] 31)) w4.heap.size 31 (LC ⟨nu, cn, lz, ls⟩) := AtB.new w4 _ (LC ⟨nu, cn, lz, ls⟩)
          have hX5 : Below w.heap.size w (w4.alloc (.cells #[.int .i64 nu, .int .i64 cn, .int .i64 lz, .int .i64 ls] 31)) := hX4.alloc hX4.size _
          have hR5 : AtB (w4.alloc (.cells #[.int .i64 nu, .int .i64 cn, .int .i64 lz, .int .i64 ls] 31)) g69 9 TL := hR4.alloc _
          clear hX hR hb4 hX4 hR4 hc HRA
          go_upto_region 15 with (fail)
          generalize w4.alloc (.cells #[.int .i64 nu, .int .i64 cn, .int .i64 lz, .int .i64 ls] 31) = W5 at *
          generalize w4.heap.size = g18 at *
          go_wp2_with fail
          refine (HRB.out _).mono ?_
          rintro e w6 ⟨rfl, hb6⟩
          have hX6 := hX5.trans (hb6.mono hX5.size)
          have hR6 := hR5.under hb6 hR5.lt
          have hA6 := hA4.under hb6 hA4.lt
          have hA7 : AtB (w6.alloc (.cells #[.int .i64 nu, .int .i64 cn, .int .i64 lz, .int .i64 ls] 35)) g18 31 (LC ⟨nu, cn, lz, ls⟩) := hA6.alloc _
          have hB7 : AtB (w6.alloc (.cells #[.int .i64 nu, .int .i64 cn, .int .i64 lz, .int .i64 ls] 35)) w6.heap.size 35 (LC ⟨nu, cn, lz, ls⟩) := AtB.new w6 _ (LC ⟨nu, cn, lz, ls⟩)
          have hX7 : Below w.heap.size w (w6.alloc (.cells #[.int .i64 nu, .int .i64 cn, .int .i64 lz, .int .i64 ls] 35)) := hX6.alloc hX6.size _
          have hR7 : AtB (w6.alloc (.cells #[.int .i64 nu, .int .i64 cn, .int .i64 lz, .int .i64 ls] 35)) g69 9 TL := hR6.alloc _
          clear hX5 hR5 hA4 hb6 hX6 hR6 hA6 HRB
          go_upto_region 16 with (fail)
          generalize w6.alloc (.cells #[.int .i64 nu, .int .i64 cn, .int .i64 lz, .int .i64 ls] 35) = W7 at *
          generalize w6.heap.size = g21 at *
          have hbb : (by' != by') = false := by simp
          have hee : ((er : Int) != (er : Int)) = false := by simp
          go_wp2_with (first | (refine rw_load Tryd.underlying31 rfl _ rfl g18 rfl (LC ⟨nu, cn, lz, ls⟩) hA7 info_lab ?_) | (refine rw_load Tryd.underlying35 rfl _ rfl g21 rfl (LC ⟨nu, cn, lz, ls⟩) hB7 info_rlab ?_))
          go_roundw
          case rel => exact ⟨k + 1, by go_num, by omega, hR7, hX7⟩
          case measure => simp [intOf]; omega
        · have hk3 : k = 3 := by omega
          subst hk3
          go_wp2_with fail
          refine (HAW.out _).mono ?_
          rintro e w4 ⟨rfl, hb4⟩
          go_wp2_with fail
          go_ret
          exact ⟨rfl, hX.trans (hb4.mono hX.size)⟩
end Go.Proofs.YtjldphpdfckjnaaDoor
