/- sparse.Text's inner function: numbers as lines, put behind what a variable holds. -/
import Derived.Test.YtnemjfojlgjkfaaDoorShrE
import Derived.Test.YtnemjfojlgjkfaaDoorParP
import Derived.Test.YtnemjfojlgjkfaaDoorShelf
import Derived.Lib.AppendIntMem
import Derived.Outline
namespace Go.Proofs.YtnemjfojlgjkfaaDoor
open Go.RowKit
open Go.Lib (decDigits itoa)

abbrev TB (B : Nat) (w : World) : Prop := Lib.TabBelow Tryd.prog B w "internal/strconv.uint64pow10" .u64 Lib.pow10Tab
theorem TB.up {B : Nat} {w w1 : World} (h : TB B w) (hb : Below B w w1) (hB : B ≤ w1.heap.size) : TB w1.heap.size w1 :=
  fun w' hw => h w' (hb.trans (hw.mono hB))
theorem TB.at {B B' : Nat} {w w1 : World} (h : TB B w) (hb : Below B w w1) (hB : B ≤ B') : TB B' w1 :=
  fun w' hw => h w' (hb.trans (hw.mono hB))
theorem lineI_len (x : Int) (h0 : 0 ≤ x) (h1 : x ≤ 1099511627776) : (lineI x).length ≤ 20 := by
  unfold lineI
  have := digs_len 15 x.toNat (by omega)
  simp; omega
/-- a variable that holds a slice of bytes -/
def OutAt (w : World) (g : Nat) (v : Value) : Prop := w.heap[g]? = some (.cells #[v] 53 (0, 0))
theorem OutAt.c0 {w : World} {g : Nat} {v : Value} (h : OutAt w g v) : w.cell? ⟨g, 0, none⟩ = some v := by
  unfold OutAt at h; simp [World.cell?, h]
theorem OutAt.fz {w : World} {g : Nat} {v : Value} (h : OutAt w g v) (i : Nat) : w.frozen? ⟨g, i, none⟩ = false := by
  unfold OutAt at h; simp [World.frozen?, h]
theorem OutAt.lt {w : World} {g : Nat} {v : Value} (h : OutAt w g v) : g < w.heap.size := (Array.getElem?_eq_some_iff.1 h).1
theorem OutAt.under {w w' : World} {g B : Nat} {v : Value} (h : OutAt w g v) (hb : Below B w w') (hg : g < B) : OutAt w' g v := (hb.block g hg).trans h
theorem OutAt.put {w : World} {g : Nat} {v : Value} (h : OutAt w g v) (x : Value) : OutAt (w.setCell ⟨g, 0, none⟩ x) g x := by
  unfold OutAt at h ⊢
  rw [heap_setCell_same w g 0 _ _ x h]
  rfl
/-- some numbers lie at a block -/
def IntsAt (w : World) (b : Nat) (zs : List Int) : Prop := w.heap[b]? = some (.cells (zs.map (Value.int .i64)).toArray 3 (0, 0))
theorem IntsAt.at' {w : World} {b : Nat} {zs : List Int} (h : IntsAt w b zs) (k : Nat) (hk : k < zs.length) : w.cell? ⟨b, k, none⟩ = some (.int .i64 zs[k]) := by
  unfold IntsAt at h
  simp [World.cell?, h, hk]
theorem IntsAt.lt {w : World} {b : Nat} {zs : List Int} (h : IntsAt w b zs) : b < w.heap.size := (Array.getElem?_eq_some_iff.1 h).1
set_option maxRecDepth 100000 in
set_option maxHeartbeats 2000000 in
theorem put_any (x y : Int) (out : List UInt8) (g b B : Nat) (v : Value) (w : World) (hx : 0 ≤ x ∧ x ≤ 1099511627776) (hy : 0 ≤ y ∧ y ≤ 1099511627776) (hol : out.length ≤ 1000000)
    (hO : OutAt w g v) (hown : OwnB w (g + 1) v out) (hI : IntsAt w b [x, y]) (hT : TB B w) (hB : B ≤ g) :
    Calls Tryd.prog 29 #[.slice (some ⟨b, 0, none⟩) 2 2, .pointer (some ⟨g, 0, none⟩)] w fun e w' => e = .returned (.tuple #[]) ∧ ∃ v', OutAt w' g v' ∧ OwnB w' (g + 1) v' (out ++ lineI x ++ lineI y) ∧ Below g w w' := by
  have HP := Lib.hid (show out ++ (([x, y].take 2).flatMap lineI) = out ++ lineI x ++ lineI y by simp)
  have hzs : ∀ z ∈ [x, y], 0 ≤ z ∧ z ≤ 1099511627776 := by
    intro z hz
    simp only [List.mem_cons, List.not_mem_nil, or_false] at hz
    rcases hz with rfl | rfl
    · exact hx
    · exact hy
  have hzl : [x, y].length = 2 := rfl
  have hown0 : OwnB w (g + 1) v (out ++ (([x, y].take 0).flatMap lineI)) := by simpa using hown
  generalize [x, y] = zs at *
  have HZL := Lib.hid hzl
  clear hzl hx hy
  have hb0 : Below g w w := Below.refl _ _
  go_enter Tryd.func29, Tryd.ntmps29
  go_wp2_with fail
  go_loopw [7] (fun v7 wr => ∃ (k : Nat) (vq : Value), v7 = .int .i64 k ∧ k ≤ 2 ∧ OutAt wr g vq ∧ OwnB wr (g + 1) vq (out ++ ((zs.take k).flatMap lineI)) ∧ IntsAt wr b zs ∧ Below g w wr) (fun v7 _ => 2 - (intOf v7).toNat)
  case atStart => exact ⟨0, v, rfl, Nat.zero_le _, hO, hown0, hI, hb0⟩
  case round =>
    clear hown0 hb0 hO hown hI
    obtain ⟨k, vq, rfl, hk, hO, hown, hI, hb⟩ := hrel
    by_cases hlt : k < 2
    · have hkl : k < zs.length := by rw [HZL.out]; exact hlt
      have hc := hI.at' k hkl
      have hbd := hzs zs[k] (List.getElem_mem hkl)
      have hd : (zs.take (k + 1)).flatMap lineI = (zs.take k).flatMap lineI ++ lineI zs[k] := by
        rw [List.take_succ_eq_append_getElem hkl, List.flatMap_append]; simp
      have hfl : ((zs.take k).flatMap lineI).length ≤ 20 * k := by
        have : ∀ m : Nat, m ≤ k → ((zs.take m).flatMap lineI).length ≤ 20 * m := by
          intro m
          induction m with
          | zero => intro _; simp
          | succ m ih =>
            intro hm
            have hml : m < zs.length := by omega
            rw [List.take_succ_eq_append_getElem hml, List.flatMap_append, List.length_append]
            have h1 := ih (by omega)
            have h2 := lineI_len zs[m] (hzs _ (List.getElem_mem hml)).1 (hzs _ (List.getElem_mem hml)).2
            simp only [List.flatMap_cons, List.flatMap_nil, List.append_nil]
            omega
        exact this k (Nat.le_refl _)
      generalize zs[k] = z at *
      have HD := Lib.hid hd
      have HF := Lib.hid hfl
      have HZ := Lib.hid hzs
      clear hd hfl hzs
      have hol2 : (out ++ ((zs.take k).flatMap lineI)).length ≤ 1000040 := by rw [List.length_append]; have := HF.out; omega
      have hassoc : out ++ ((zs.take (k + 1)).flatMap lineI) = (out ++ ((zs.take k).flatMap lineI)) ++ decDigits z.toNat ++ [10] := by
        rw [HD.out]; unfold lineI; simp [List.append_assoc]
      have HA := Lib.hid hassoc
      clear hassoc
      generalize out ++ ((zs.take k).flatMap lineI) = o2 at *
      have o0 := hO.c0
      have hTb := hT.at (hb.mono hB) (show B ≤ g + 1 by omega)
      have hgz := hO.lt
      go_wp2_with fail
      refine (Go.Proofs.Tryd.strconv_AppendInt_10 (g + 1) o2.length z (by omega) (by omega) vq (o2.map bv) _ hown (by omega) (by omega) hTb).mono ?_
      rintro e w1 ⟨v1, rfl, hO1, hb1, hk1⟩
      have hdl := digs_len 15 z.toNat (by omega)
      replace hO1 : OwnB w1 (g + 1) v1 (o2 ++ decDigits z.toNat) := by
        unfold OwnB
        have hi : itoa z = decDigits z.toNat := by unfold itoa; rw [if_neg (by omega)]
        rw [hi] at hO1
        rw [List.map_append, List.length_append]
        exact hO1
      have hOa := hO.under hb1 (by omega)
      have hIa : IntsAt w1 b zs := hk1 b _ hI (by simp) (by intro c fz e; injection e with _ e; exact absurd e (by decide))
      have hB1 := hb.trans (hb1.mono (by omega))
      have hl1 : (o2 ++ decDigits z.toNat).length ≤ 1000060 := by rw [List.length_append]; omega
      have hs1 : g + 1 ≤ w1.heap.size := by have := hOa.lt; omega
      obtain ⟨a1, c1, rfl⟩ := hO1.shape
      have hsI : SepG b (.slice a1 (o2 ++ decDigits z.toNat).length c1) := own_sepG (by decide) hO1 hIa
      have HD2 := Lib.hid hdl
      clear hdl hk1 hb1 hI hO hown hc hbd
      generalize o2 ++ decDigits z.toNat = o3 at *
      go_wp2_with (at_builtin; go_must (refine app_lit rfl (.tmp 13) (.tmp 14) rfl (g + 1) (.slice a1 o3.length c1) o3 [10] rfl hO1 1 _ rfl rfl rfl (by omega) hs1 ?_); intro v2 w2 hO2 hb2 hg2; have hOb := hOa.under hb2 (by omega); have e1 := hOb.c0; have e2 := hOb.fz 0; obtain ⟨a2, c2, rfl⟩ := hO2.shape)
      have hIb : IntsAt w2 b zs := (hg2.block hIa.lt hsI).trans hIa
      have hsO : SepG g (.slice a2 (o3 ++ [10]).length c2) := own_sepG (by decide) hO2 hOb
      have hbg : g ≠ b := by
        intro e
        subst e
        have h1 := hOb
        have h2 := hIb
        unfold OutAt at h1
        unfold IntsAt at h2
        rw [h1] at h2
        injection h2 with h2
        injection h2 with _ h2
        exact absurd h2 (by decide)
      have hIc : IntsAt (w2.setCell ⟨g, 0, none⟩ (.slice a2 (o3 ++ [10]).length c2)) b zs := by
        unfold IntsAt
        rw [heap_setCell_other w2 ⟨g, 0, none⟩ b _ (fun e => hbg e.symm)]
        exact hIb
      have hL : (o3 ++ [10]).length = o3.length + 1 := by simp
      have hOc := hO2.setOther g 0 (.slice a2 (o3 ++ [10]).length c2) hsO
      rw [hL] at hOc hIc
      go_roundw
      case rel => exact ⟨k + 1, _, by go_num, by omega, hOb.put _, by rw [HA.out]; exact hOc, hIc, (hB1.trans (hb2.mono (by omega))).setCell (by simp) _⟩
      case measure => simp [intOf]; omega
    · have hk2 : k = 2 := by omega
      subst hk2
      rw [HP.out] at hown
      go_wp2_with fail
      go_end0
      exact ⟨rfl, _, hO, hown, hb⟩
end Go.Proofs.YtnemjfojlgjkfaaDoor
