import Derived.Test.YtjaiadfpdkjkpaaDoorWhenC
import Derived.Test.YtjaiadfpdkjkpaaDoorWhenD
namespace Go.Proofs.YtjaiadfpdkjkpaaDoor
open Go.RowKit

theorem ScanAt.new (w : World) (s : ByteArray) (ok : Bool) : ScanAt (w.alloc (.cells #[.string s, .bool ok] 93)) w.heap.size s ok := heap_alloc_new _ _
def StV (sec nsec : Int) : Value := .agg #[.int .i64 sec, .int .i64 nsec]
def ParV (sec nsec e : Int) : Value := .tuple #[StV sec nsec, .int .i64 e]
def StAt (w : World) (b : Nat) (sec nsec : Int) : Prop := w.heap[b]? = some (.cells #[.int .i64 sec, .int .i64 nsec] 41 (0, 0))
theorem StAt.c0 {w : World} {b : Nat} {s n : Int} (h : StAt w b s n) : w.cell? ⟨b, 0, none⟩ = some (.int .i64 s) := by
  unfold StAt at h; simp [World.cell?, h]
theorem StAt.c1 {w : World} {b : Nat} {s n : Int} (h : StAt w b s n) : w.cell? ⟨b, 1, none⟩ = some (.int .i64 n) := by
  unfold StAt at h; simp [World.cell?, h]
theorem StAt.f {w : World} {b : Nat} {s n : Int} (h : StAt w b s n) (o : Nat) : w.frozen? ⟨b, o, none⟩ = false := by
  unfold StAt at h; simp [World.frozen?, h]
theorem StAt.set0 {w : World} {b : Nat} {s n : Int} (h : StAt w b s n) (s' : Int) : StAt (w.setCell ⟨b, 0, none⟩ (.int .i64 s')) b s' n := by
  unfold StAt at *
  unfold World.setCell
  show (w.heap.modify b _)[b]? = _
  rw [Array.getElem?_modify, if_pos rfl, h]
  rfl
theorem StAt.set1 {w : World} {b : Nat} {s n : Int} (h : StAt w b s n) (n' : Int) : StAt (w.setCell ⟨b, 1, none⟩ (.int .i64 n')) b s n' := by
  unfold StAt at *
  unfold World.setCell
  show (w.heap.modify b _)[b]? = _
  rw [Array.getElem?_modify, if_pos rfl, h]
  rfl
theorem StAt.own {w w' : World} {b g : Nat} {s n : Int} (h : StAt w g s n) (hO : Own1 b w w') (hne : g ≠ b) : StAt w' g s n := by
  unfold StAt at *
  have hg : g < w.heap.size := by
    rcases Nat.lt_or_ge g w.heap.size with k | k
    · exact k
    · rw [Array.getElem?_eq_none k] at h; cases h
  rw [hO.block g hg (fun e => hne (by injection e))]
  exact h
theorem StAt.below {w w' : World} {b B : Nat} {s n : Int} (h : StAt w b s n) (hb : Below B w w') (hB : b < B) : StAt w' b s n := by
  unfold StAt at *; rw [hb.block b hB]; exact h
def textB : List UInt8 := [49, 57, 54, 57, 45, 49, 50, 45, 51, 49]
def textA : List UInt8 := [49, 57, 55, 48, 45, 48, 49, 45, 48, 50, 32, 48, 48, 58, 48, 48, 58, 48, 49, 46, 53]
/-- on the way through a text: the result's block, the scan's block -/
structure PW (w wr : World) (l : List UInt8) : Prop where
  scan : ScanAt wr (w.heap.size + 1) (S l) true
  out : StAt wr w.heap.size 0 0
  below : Below w.heap.size w wr
theorem PW.new (w : World) (l : List UInt8) : PW w ((w.alloc (.cells #[.int .i64 0, .int .i64 0] 41)).alloc (.cells #[.string (S l), .bool true] 93)) l := by
  refine ⟨?_, ?_, ((Below.refl _ _).alloc (Nat.le_refl _) _).alloc (by simp) _⟩
  · have := ScanAt.new (w.alloc (.cells #[.int .i64 0, .int .i64 0] 41)) (S l) true
    simpa using this
  · unfold StAt
    rw [Below.heap_alloc _ _ _ (by simp)]
    exact heap_alloc_new _ _
theorem PW.step {w wr wn : World} {l l' : List UInt8} (h : PW w wr l) (hO : Own1 (w.heap.size + 1) wr wn) (hS : ScanAt wn (w.heap.size + 1) (S l') true) : PW w wn l' :=
  ⟨hS, h.out.own hO (by omega), hO.below h.below (by omega) h.scan.lt⟩
theorem PW.more {w wr wn : World} {l : List UInt8} (h : PW w wr l) (hb : Below wr.heap.size wr wn) : PW w wn l :=
  ⟨h.scan.below hb h.scan.lt, h.out.below hb (by have := h.scan.lt; omega), h.below.trans (hb.mono h.below.size)⟩
theorem ScanAt.own {w w' : World} {b g : Nat} {s : ByteArray} {ok : Bool} (h : ScanAt w b s ok) (hO : Own1 g w w') (hne : b ≠ g) : ScanAt w' b s ok := by
  have hg := h.lt
  unfold ScanAt at *
  rw [hO.block b hg (fun e => hne (by injection e))]
  exact h
/-- the same, with the block of what is written -/
structure PW2 (w wr : World) (g : Nat) (l : List UInt8) : Prop where
  scan : ScanAt wr (w.heap.size + 1) (S l) true
  out : StAt wr w.heap.size 0 0
  more : StAt wr g 86400 0
  old : w.heap.size + 1 < g
  below : Below w.heap.size w wr
theorem PW.two {w wn : World} {l : List UInt8} (h : PW w wn l) : PW2 w (wn.alloc (.cells #[.int .i64 86400, .int .i64 0] 41)) wn.heap.size l :=
  ⟨h.scan.below ((Below.refl _ _).alloc (Nat.le_refl _) _) h.scan.lt, h.out.below ((Below.refl _ _).alloc (Nat.le_refl _) _) (by have := h.scan.lt; omega), heap_alloc_new _ _, h.scan.lt, h.below.alloc h.below.size _⟩
theorem PW2.step {w wr wn : World} {g : Nat} {l l' : List UInt8} (h : PW2 w wr g l) (hO : Own1 (w.heap.size + 1) wr wn) (hS : ScanAt wn (w.heap.size + 1) (S l') true) : PW2 w wn g l' :=
  ⟨hS, h.out.own hO (by omega), h.more.own hO (by have := h.old; omega), h.old, hO.below h.below (by omega) h.scan.lt⟩

set_option maxRecDepth 100000 in
set_option maxHeartbeats 2000000 in
theorem parse_b (w : World) :
    Calls Tryd.prog 47 #[.string (S textB)] w fun e w' => e = .returned (ParV (-86400) 0 0) ∧ Below w.heap.size w w' := by
  go_enter Tryd.func47, Tryd.ntmps47
  go_wp2_with fail
  refine (Go.Proofs.Tryd.strings_CutPrefix _ _ _).mono ?_
  rintro e w1 ⟨rfl, h1⟩
  rw [show Lib.hasPrefix (S textB).data.toList (⟨#[64]⟩ : ByteArray).data.toList = false by decide]
  subst h1
  go_wp2_with fail
  have hP : PW w _ textB := PW.new w textB
  go_wp2_with fail
  refine (digits_l (w.heap.size + 1) [49, 57, 54, 57, 45, 49, 50, 45, 51, 49] 4 (by decide) (by decide) (by decide) (allDig_of _ rfl) _ hP.scan).mono ?_
  rintro e wn ⟨rfl, hS, hO⟩
  replace hP : PW w wn [45, 49, 50, 45, 51, 49] := hP.step hO hS
  clear hS hO
  rw [show decI (List.take 4 [49, 57, 54, 57, 45, 49, 50, 45, 51, 49]) = 1969 from rfl]
  go_wp2_with fail
  refine (sign_l (w.heap.size + 1) 45 [49, 50, 45, 51, 49] ⟨#[45]⟩ (by decide) (by decide) _ hP.scan).mono ?_
  rintro e wn ⟨hS, hO, rfl⟩
  replace hP : PW w wn [49, 50, 45, 51, 49] := hP.step hO hS
  clear hS hO
  go_wp2_with fail
  refine (digits_l (w.heap.size + 1) [49, 50, 45, 51, 49] 2 (by decide) (by decide) (by decide) (allDig_of _ rfl) _ hP.scan).mono ?_
  rintro e wn ⟨rfl, hS, hO⟩
  replace hP : PW w wn [45, 51, 49] := hP.step hO hS
  clear hS hO
  rw [show decI (List.take 2 [49, 50, 45, 51, 49]) = 12 from rfl]
  go_wp2_with fail
  refine (sign_l (w.heap.size + 1) 45 [51, 49] ⟨#[45]⟩ (by decide) (by decide) _ hP.scan).mono ?_
  rintro e wn ⟨hS, hO, rfl⟩
  replace hP : PW w wn [51, 49] := hP.step hO hS
  clear hS hO
  go_wp2_with fail
  refine (digits_l (w.heap.size + 1) [51, 49] 2 (by decide) (by decide) (by decide) (allDig_of _ rfl) _ hP.scan).mono ?_
  rintro e wn ⟨rfl, hS, hO⟩
  replace hP : PW w wn [] := hP.step hO hS
  clear hS hO
  rw [show decI (List.take 2 [51, 49]) = 31 from rfl]
  go_wp2_with fail
  refine (number_yes 1969 12 31 _ (by decide)).mono ?_
  rintro e wn ⟨rfl, hb⟩
  replace hP : PW w wn [] := hP.more hb
  clear hb
  rw [show numI 1969 12 31 = -1 by decide]
  unfold NumV
  have c0 := hP.scan.c0
  have c1 := hP.scan.c1
  have d0 := hP.out.f 0
  have d1 := hP.out.f 1
  have g0 := hP.out.c0
  have g1 := hP.out.c1
  have hz := hP.scan.lt
  have hz2 : w.heap.size < wn.heap.size := by omega
  have ee : (S []).toList.isEmpty = true := by rw [ByteArray.toList_eq]; rfl
  go_wp2_with fail
  have hF := (hP.out.set0 (-86400)).set1 0
  have hF2 : StAt (((wn.setCell ⟨w.heap.size, 0, none⟩ (.int .i64 (-86400))).setCell ⟨w.heap.size, 1, none⟩ (.int .i64 0)).alloc (.cells #[.int .i64 (-86400), .int .i64 0] 41)) w.heap.size (-86400) 0 :=
    hF.below ((Below.refl _ _).alloc (Nat.le_refl _) _) (by simp; omega)
  have k0 := hF2.c0
  have k1 := hF2.c1
  have hB : Below w.heap.size w (((wn.setCell ⟨w.heap.size, 0, none⟩ (.int .i64 (-86400))).setCell ⟨w.heap.size, 1, none⟩ (.int .i64 0)).alloc (.cells #[.int .i64 (-86400), .int .i64 0] 41)) :=
    ((hP.below.setCell (Nat.le_refl _) _).setCell (Nat.le_refl _) _).alloc (by simp; omega) _
  exact bodyPost_ret (v := ParV (-86400) 0 0) (by simp [results, Tryd.results47, go_sem, ParV, StV, k0, k1]) rfl ⟨rfl, hB⟩

set_option maxRecDepth 100000 in
set_option maxHeartbeats 2000000 in
theorem parse_a (w : World) :
    Calls Tryd.prog 47 #[.string (S textA)] w fun e w' => e = .returned (ParV 86401 500000000 0) ∧ Below w.heap.size w w' := by
  go_enter Tryd.func47, Tryd.ntmps47
  go_wp2_with fail
  refine (Go.Proofs.Tryd.strings_CutPrefix _ _ _).mono ?_
  rintro e w1 ⟨rfl, h1⟩
  rw [show Lib.hasPrefix (S textA).data.toList (⟨#[64]⟩ : ByteArray).data.toList = false by decide]
  subst h1
  go_wp2_with fail
  have hP : PW w _ textA := PW.new w textA
  go_wp2_with fail
  refine (digits_l (w.heap.size + 1) [49, 57, 55, 48, 45, 48, 49, 45, 48, 50, 32, 48, 48, 58, 48, 48, 58, 48, 49, 46, 53] 4 (by decide) (by decide) (by decide) (allDig_of _ rfl) _ hP.scan).mono ?_
  rintro e wn ⟨rfl, hS, hO⟩
  replace hP : PW w wn [45, 48, 49, 45, 48, 50, 32, 48, 48, 58, 48, 48, 58, 48, 49, 46, 53] := hP.step hO hS
  clear hS hO
  rw [show decI (List.take 4 [49, 57, 55, 48, 45, 48, 49, 45, 48, 50, 32, 48, 48, 58, 48, 48, 58, 48, 49, 46, 53]) = 1970 from rfl]
  go_wp2_with fail
  refine (sign_l (w.heap.size + 1) 45 [48, 49, 45, 48, 50, 32, 48, 48, 58, 48, 48, 58, 48, 49, 46, 53] ⟨#[45]⟩ (by decide) (by decide) _ hP.scan).mono ?_
  rintro e wn ⟨hS, hO, rfl⟩
  replace hP : PW w wn [48, 49, 45, 48, 50, 32, 48, 48, 58, 48, 48, 58, 48, 49, 46, 53] := hP.step hO hS
  clear hS hO
  go_wp2_with fail
  refine (digits_l (w.heap.size + 1) [48, 49, 45, 48, 50, 32, 48, 48, 58, 48, 48, 58, 48, 49, 46, 53] 2 (by decide) (by decide) (by decide) (allDig_of _ rfl) _ hP.scan).mono ?_
  rintro e wn ⟨rfl, hS, hO⟩
  replace hP : PW w wn [45, 48, 50, 32, 48, 48, 58, 48, 48, 58, 48, 49, 46, 53] := hP.step hO hS
  clear hS hO
  rw [show decI (List.take 2 [48, 49, 45, 48, 50, 32, 48, 48, 58, 48, 48, 58, 48, 49, 46, 53]) = 1 from rfl]
  go_wp2_with fail
  refine (sign_l (w.heap.size + 1) 45 [48, 50, 32, 48, 48, 58, 48, 48, 58, 48, 49, 46, 53] ⟨#[45]⟩ (by decide) (by decide) _ hP.scan).mono ?_
  rintro e wn ⟨hS, hO, rfl⟩
  replace hP : PW w wn [48, 50, 32, 48, 48, 58, 48, 48, 58, 48, 49, 46, 53] := hP.step hO hS
  clear hS hO
  go_wp2_with fail
  refine (digits_l (w.heap.size + 1) [48, 50, 32, 48, 48, 58, 48, 48, 58, 48, 49, 46, 53] 2 (by decide) (by decide) (by decide) (allDig_of _ rfl) _ hP.scan).mono ?_
  rintro e wn ⟨rfl, hS, hO⟩
  replace hP : PW w wn [32, 48, 48, 58, 48, 48, 58, 48, 49, 46, 53] := hP.step hO hS
  clear hS hO
  rw [show decI (List.take 2 [48, 50, 32, 48, 48, 58, 48, 48, 58, 48, 49, 46, 53]) = 2 from rfl]
  go_wp2_with fail
  refine (number_yes 1970 1 2 _ (by decide)).mono ?_
  rintro e wn ⟨rfl, hb⟩
  replace hP : PW w wn [32, 48, 48, 58, 48, 48, 58, 48, 49, 46, 53] := hP.more hb
  clear hb
  rw [show numI 1970 1 2 = 1 by decide]
  unfold NumV
  have c0 := hP.scan.c0
  have c1 := hP.scan.c1
  have d0 := hP.out.f 0
  have d1 := hP.out.f 1
  have g0 := hP.out.c0
  have g1 := hP.out.c1
  have hz := hP.scan.lt
  have hz2 : w.heap.size < wn.heap.size := by omega
  go_wp2_with fail
  replace hP : PW2 w _ wn.heap.size [32, 48, 48, 58, 48, 48, 58, 48, 49, 46, 53] := hP.two
  generalize (wn.alloc (.cells #[.int .i64 86400, .int .i64 0] 41)) = wm at hP ⊢
  have hg : w.heap.size + 1 < wn.heap.size := hz
  generalize wn.heap.size = g at *
  clear c0 c1 d0 d1 g0 g1 hz hz2
  go_wp2_with fail
  refine (sign_l (w.heap.size + 1) 32 [48, 48, 58, 48, 48, 58, 48, 49, 46, 53] ⟨#[32, 84]⟩ (by decide) (by decide) _ hP.scan).mono ?_
  rintro e wn ⟨hS, hO, rfl⟩
  replace hP : PW2 w wn g [48, 48, 58, 48, 48, 58, 48, 49, 46, 53] := hP.step hO hS
  clear hS hO
  go_wp2_with fail
  refine (digits_l (w.heap.size + 1) [48, 48, 58, 48, 48, 58, 48, 49, 46, 53] 2 (by decide) (by decide) (by decide) (allDig_of _ rfl) _ hP.scan).mono ?_
  rintro e wn ⟨rfl, hS, hO⟩
  replace hP : PW2 w wn g [58, 48, 48, 58, 48, 49, 46, 53] := hP.step hO hS
  clear hS hO
  rw [show decI (List.take 2 [48, 48, 58, 48, 48, 58, 48, 49, 46, 53]) = 0 from rfl]
  go_wp2_with fail
  refine (sign_l (w.heap.size + 1) 58 [48, 48, 58, 48, 49, 46, 53] ⟨#[58]⟩ (by decide) (by decide) _ hP.scan).mono ?_
  rintro e wn ⟨hS, hO, rfl⟩
  replace hP : PW2 w wn g [48, 48, 58, 48, 49, 46, 53] := hP.step hO hS
  clear hS hO
  go_wp2_with fail
  refine (digits_l (w.heap.size + 1) [48, 48, 58, 48, 49, 46, 53] 2 (by decide) (by decide) (by decide) (allDig_of _ rfl) _ hP.scan).mono ?_
  rintro e wn ⟨rfl, hS, hO⟩
  replace hP : PW2 w wn g [58, 48, 49, 46, 53] := hP.step hO hS
  clear hS hO
  rw [show decI (List.take 2 [48, 48, 58, 48, 49, 46, 53]) = 0 from rfl]
  go_wp2_with fail
  refine (sign_l (w.heap.size + 1) 58 [48, 49, 46, 53] ⟨#[58]⟩ (by decide) (by decide) _ hP.scan).mono ?_
  rintro e wn ⟨hS, hO, rfl⟩
  replace hP : PW2 w wn g [48, 49, 46, 53] := hP.step hO hS
  clear hS hO
  go_wp2_with fail
  refine (digits_l (w.heap.size + 1) [48, 49, 46, 53] 2 (by decide) (by decide) (by decide) (allDig_of _ rfl) _ hP.scan).mono ?_
  rintro e wn ⟨rfl, hS, hO⟩
  replace hP : PW2 w wn g [46, 53] := hP.step hO hS
  clear hS hO
  rw [show decI (List.take 2 [48, 49, 46, 53]) = 1 from rfl]
  go_wp2_with fail
  refine (fraction_one (w.heap.size + 1) _ hP.scan).mono ?_
  rintro e wn ⟨rfl, hS, hO⟩
  replace hP : PW2 w wn g [] := hP.step hO hS
  clear hS hO
  have c0 := hP.scan.c0
  have c1 := hP.scan.c1
  have f0 := hP.scan.f 0
  have d0 := hP.out.f 0
  have d1 := hP.out.f 1
  have g0 := hP.out.c0
  have g1 := hP.out.c1
  have m0 := hP.more.c0
  have m1 := hP.more.c1
  have mf0 := hP.more.f 0
  have mf1 := hP.more.f 1
  have hg1 : w.heap.size ≠ g := by omega
  have hg2 : w.heap.size + 1 ≠ g := by omega
  have ee : (S []).toList.isEmpty = true := by rw [ByteArray.toList_eq]; rfl
  go_wp2_with fail
  refine (Go.Proofs.Tryd.strings_TrimSuffix _ _ _ (by decide)).mono ?_
  rintro e wq ⟨rfl, hq⟩
  have hO := (Own1.refl g wn).set (o := 1) (.int .i64 500000000)
  have hm := hP.more.set1 500000000
  have hs := hP.scan.own hO (by omega)
  have ho := hP.out.own hO (by omega)
  have hB := hP.below.setCell (p := ⟨g, 1, none⟩) (show w.heap.size ≤ g by omega) (.int .i64 500000000)
  rw [← hq] at hm hs ho hB
  clear hO c0 c1 f0 d0 d1 g0 g1 m0 m1 mf0 mf1 hP hq
  rw [show (⟨(Lib.trimSuffix (S []).data.toList (⟨#[90]⟩ : ByteArray).data.toList).toArray⟩ : ByteArray) = S [] from rfl]
  have c0 := hs.c0
  have c1 := hs.c1
  have f0 := hs.f 0
  have d0 := ho.f 0
  have d1 := ho.f 1
  have g0 := ho.c0
  have g1 := ho.c1
  have m0 := hm.c0
  have m1 := hm.c1
  have mf0 := hm.f 0
  have mf1 := hm.f 1
  go_wp2_with fail
  have hF := ((((ho.own ((Own1.refl (w.heap.size + 1) wq).set (o := 0) (.string (S []))) (by omega))).own ((Own1.refl g _).set (o := 0) (.int .i64 86401)) (by omega)).set0 86401).set1 500000000
  have k0 := hF.c0
  have k1 := hF.c1
  refine bodyPost_ret (v := ParV 86401 500000000 0) (by simp [results, Tryd.results47, go_sem, ParV, StV, k0, k1]) rfl ⟨rfl, ?_⟩
  exact (((hB.setCell (by simp) _).setCell (by simp; omega) _).setCell (by simp) _).setCell (by simp) _
end Go.Proofs.YtjaiadfpdkjkpaaDoor
