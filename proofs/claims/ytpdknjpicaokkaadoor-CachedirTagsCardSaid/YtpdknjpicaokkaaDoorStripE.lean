/- strip.Base, Parent, Under, Clean. -/
import Derived.Test.YtpdknjpicaokkaaDoorJoin2
import Derived.Test.YtpdknjpicaokkaaDoorBaseL
import Derived.Test.YtpdknjpicaokkaaDoorRefS
namespace Go.Proofs.YtpdknjpicaokkaaDoor
open Go.RowKit

theorem chainB {w u v : World} (h : Below w.heap.size w u) (k : Below u.heap.size u v) : Below w.heap.size w v := h.trans (k.mono h.size)
def baseL (l : List UInt8) : List UInt8 := lastL (partsL l)
set_option maxRecDepth 100000 in
theorem Base_any (s : List UInt8) (hs : s.length ≤ 1000000) (w : World) :
    Calls Tryd.prog 30 #[.string (S s)] w fun e w' => e = .returned (.string (S (baseL s))) ∧ w' = w := by
  obtain ⟨k, hk1, hk2, hk3⟩ := lastIdx_of (trimR s) _ rfl (trimR_last s)
  rw [← parts_trim] at hk3
  have hl := trimR_len s
  have HT := Lib.hid (show baseL s = (trimR s).drop k from hk3)
  have hx := strip_ext (trimR s) k
  rw [← HT.out] at hx
  have hki : Lib.lastIndexByte (S (trimR s)) 47 = (k : Int) - 1 := by omega
  have HK := Lib.hid hki
  clear hk1 hk3 hki
  go_enter Tryd.func30, Tryd.ntmps30
  go_wp2_with fail
  refine (Go.Proofs.Tryd.strings_TrimRight_one (S s) 47 (by decide) _ (by rw [S_size]; omega)).mono ?_
  rintro e w1 ⟨rfl, rfl⟩
  rw [S_data, show (⟨(Lib.trimRightB s 47).toArray⟩ : ByteArray) = S (trimR s) from rfl]
  have HT2 := HT
  clear HT
  generalize trimR s = t at *
  go_wp2_with fail
  refine (Go.Proofs.Tryd.strings_LastIndexByte (S t) 47 (by rw [S_size]; omega) _).mono ?_
  rintro e w2 ⟨rfl, rfl⟩
  rw [HK.out]
  have hk0 : (0 : Int) ≤ (k : Int) := by omega
  go_wp2_with fail
  go_ret
  exact ⟨rfl, rfl⟩
def parentV (l : List (List UInt8)) : Value := if l.length < 2 then .tuple #[.string (S []), .bool false] else .tuple #[.string (S (joinL l.dropLast)), .bool true]
theorem StrsV.cut {w : World} {a : Option Addr} {n c : Nat} {l : List (List UInt8)} (h : StrsV w (.slice a n c) l) (k : Nat) (hk : k ≤ l.length) (c' : Nat) : StrsV w (.slice a k c') (l.take k) := by
  obtain ⟨a1, c1, e, h1⟩ := h
  cases e
  refine ⟨a, c', by rw [List.length_take, Nat.min_eq_left hk], fun hp => ?_⟩
  rw [List.length_take, Nat.min_eq_left hk] at hp
  obtain ⟨b, off, e1, e2, e3⟩ := h1 (by omega)
  refine ⟨b, off, e1, e2, fun j hj => ?_⟩
  rw [List.length_take, Nat.min_eq_left hk] at hj
  rw [List.getElem_take]
  exact e3 j (by omega)
set_option maxRecDepth 100000 in
theorem Parent_any (s : List UInt8) (hs : s.length ≤ 1000000) (w : World) :
    Calls Tryd.prog 29 #[.string (S s)] w fun e w' => e = .returned (parentV (partsL s)) ∧ Below w.heap.size w w' := by
  have hlen := parts_len s
  have hsum := parts_sum s
  have hP := fun w => Parts_any s hs w
  have hm : ∀ q ∈ partsL s, q.length ≤ 1000000 := by
    intro q hq
    have : q.length + 1 ≤ ((partsL s).map fun q => q.length + 1).sum := by
      generalize partsL s = l at hq ⊢
      clear hlen hsum hP
      induction l with
      | nil => cases hq
      | cons a l ih =>
        rw [List.map_cons, List.sum_cons]
        rcases List.mem_cons.1 hq with rfl | hq
        · omega
        · have := ih hq; omega
    omega
  generalize partsL s = l at *
  have HP := Lib.hid hP
  have HM := Lib.hid hm
  clear hP hsum hm
  by_cases h2 : l.length < 2
  · have HV := Lib.hid (show parentV l = .tuple #[.string (S []), .bool false] by unfold parentV; rw [if_pos h2])
    go_enter Tryd.func29, Tryd.ntmps29
    go_wp2_with fail
    refine (HP.out _).mono ?_
    rintro e w1 ⟨⟨v, rfl, hO⟩, hb⟩
    obtain ⟨a, c, rfl, _⟩ := hO.strs
    go_wp2_with fail
    go_ret2
    exact ⟨by rw [HV.out]; rfl, hb⟩
  · have HV := Lib.hid (show parentV l = .tuple #[.string (S (joinL l.dropLast)), .bool true] by unfold parentV; rw [if_neg h2])
    go_enter Tryd.func29, Tryd.ntmps29
    go_wp2_with fail
    refine (HP.out _).mono ?_
    rintro e w1 ⟨⟨v, rfl, hO⟩, hb⟩
    have hO2 := hO
    have hS := hO.strs
    obtain ⟨g1, g2⟩ := hO2
    rcases g2 with ⟨rfl, h0⟩ | ⟨g, cap, cur, rfl, hg, hh, hn, r⟩
    · exfalso; omega
    · clear r g1 hh hg hO
      have hq : (0 : Int) ≤ (l.length : Int) - 1 := by omega
      have hq2 : ((l.length : Int) - 1).toNat = l.length - 1 := by omega
      have hq3 : (l.length : Int) - 1 ≤ cap := by omega
      go_wp2_with fail
      refine (Join_any (l.take (l.length - 1)) _ (by rw [List.length_take]; omega) (fun q hq => HM.out q (List.mem_of_mem_take hq)) _ (hS.cut (l.length - 1) (by omega) _)).mono ?_
      rintro e w2 ⟨rfl, hb2⟩
      have hB := chainB hb hb2
      go_wp2_with fail
      go_ret2
      exact ⟨by rw [HV.out, List.dropLast_eq_take]; rfl, hB⟩
end Go.Proofs.YtpdknjpicaokkaaDoor
