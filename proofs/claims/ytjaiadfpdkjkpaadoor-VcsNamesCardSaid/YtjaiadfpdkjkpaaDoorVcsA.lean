/- vcs.Known and vcs.Match. -/
import Derived.Test.YtjaiadfpdkjkpaaDoorRefP
import Derived.Test.YtjaiadfpdkjkpaaDoorBaseA
import Derived.Test.YtjaiadfpdkjkpaaDoorShelf3
namespace Go.Proofs.YtjaiadfpdkjkpaaDoor
open Go.RowKit

def namesL : List (List UInt8) := [[46, 97, 114, 99, 104, 45, 105, 100, 115], [46, 98, 122, 114], [46, 98, 122, 114, 105, 103, 110, 111, 114, 101], [46, 98, 122, 114, 116, 97, 103, 115], [46, 99, 118, 115, 105, 103, 110, 111, 114, 101], [46, 103, 105, 116], [46, 103, 105, 116, 97, 116, 116, 114, 105, 98, 117, 116, 101, 115], [46, 103, 105, 116, 105, 103, 110, 111, 114, 101], [46, 103, 105, 116, 109, 111, 100, 117, 108, 101, 115], [46, 104, 103], [46, 104, 103, 105, 103, 110, 111, 114, 101], [46, 104, 103, 116, 97, 103, 115], [46, 115, 118, 110], [61, 82, 69, 76, 69, 65, 83, 69, 45, 73, 68], [61, 109, 101, 116, 97, 45, 117, 112, 100, 97, 116, 101], [61, 117, 112, 100, 97, 116, 101], [67, 86, 83], [82, 67, 83], [83, 67, 67, 83], [95, 100, 97, 114, 99, 115], [123, 97, 114, 99, 104, 125]]
def nm (t : Nat) : List UInt8 := namesL.getD t [123, 97, 114, 99, 104, 125]
def knownB (x : List UInt8) : Bool := decide (x ∈ namesL)
theorem names_table : ((List.range 21).all fun m => (List.range 22).all fun t => Op.bytesLess (nm t) (nm m) == decide (t < m)) = true := by decide +kernel
theorem nm_big (t : Nat) (h : 21 ≤ t) : nm t = nm 21 := by
  unfold nm
  rw [List.getD_eq_getElem?_getD, List.getD_eq_getElem?_getD, List.getElem?_eq_none (by exact h), List.getElem?_eq_none (by decide)]
theorem less_nm (m t : Nat) (hm : m < 21) : Op.bytesLess (nm t) (nm m) = decide (t < m) := by
  have h := List.all_eq_true.1 names_table m (List.mem_range.2 hm)
  by_cases ht : t < 22
  · have := List.all_eq_true.1 h t (List.mem_range.2 ht)
    simpa using this
  · have := List.all_eq_true.1 h 21 (by simp)
    rw [nm_big t (by omega)]
    have e1 : decide (21 < m) = decide (t < m) := by rw [decide_eq_false (by omega), decide_eq_false (by omega)]
    rw [← e1]
    simpa using this
theorem nm_mem (t : Nat) : nm t ∈ namesL := by
  unfold nm
  rw [List.getD_eq_getElem?_getD]
  by_cases h : t < namesL.length
  · rw [List.getElem?_eq_getElem h]; exact List.getElem_mem h
  · rw [List.getElem?_eq_none (by omega)]; decide
theorem S_inj0 {a b : List UInt8} (h : S a = S b) : a = b := by
  have := congrArg (fun s : ByteArray => s.data.toList) h
  simpa [S] using this
theorem search_known (x : List UInt8) : decide (Lib.bsGo (fun t => Op.bytesLess (S (nm t)).toList (S x).toList) 21 0 21 < 21 ∧ S (nm (Lib.bsGo (fun t => Op.bytesLess (S (nm t)).toList (S x).toList) 21 0 21)) = S x) = knownB x := by
  unfold knownB
  rw [decide_eq_decide]
  constructor
  · rintro ⟨_, h⟩
    rw [← S_inj0 h]
    exact nm_mem _
  · intro h
    obtain ⟨m, hm, he⟩ := List.mem_iff_getElem.1 h
    have hm : m < 21 := hm
    have e : nm m = x := by unfold nm; rw [List.getD_eq_getElem?_getD, List.getElem?_eq_getElem hm, ← he]; rfl
    have hb : Lib.bsGo (fun t => Op.bytesLess (S (nm t)).toList (S x).toList) 21 0 21 = m := by
      refine Lib.bsGo_spec _ m ?_ ?_ 21 0 21 (by omega) (by omega) (by omega)
      · intro t ht
        rw [S_toList, S_toList, ← e, less_nm m t hm]
        exact decide_eq_true ht
      · intro t ht
        rw [S_toList, S_toList, ← e, less_nm m t hm]
        exact decide_eq_false (by omega)
    rw [hb, e]
    exact ⟨hm, rfl⟩
set_option maxRecDepth 100000 in
theorem names_any (w : World) : Calls Tryd.prog 39 #[] w fun e w' => (∃ v, e = .returned v ∧ OwnS w' w.heap.size v namesL ∧ ∃ g c, v = .slice (some ⟨g, 0, none⟩) 21 c) ∧ Below w.heap.size w w' := by
  go_enter Tryd.func39, Tryd.ntmps39
  go_wp2
  go_ret
  refine ⟨⟨_, rfl, ?_, ⟨_, _, rfl⟩⟩, (Below.refl _ _).alloc (Nat.le_refl _) _⟩
  exact World.ownsRow_lit (base := w.heap.size) (e := 9) (size := 1) w _ 21 (Nat.le_refl _) (by decide) (by rfl)
set_option maxRecDepth 100000 in
theorem Known_any (x : List UInt8) (w : World) : Calls Tryd.prog 20 #[.string (S x)] w fun e w' => e = .returned (.bool (knownB x)) ∧ Below w.heap.size w w' := by
  have HK := Lib.hid (search_known x)
  go_enter Tryd.func20, Tryd.ntmps20
  go_wp2_with fail
  refine (names_any _).mono ?_
  rintro e w1 ⟨⟨v, rfl, hO, g, c, rfl⟩, hb1⟩
  have hS := hO.strs
  have hcell : ∀ j, j < 21 → w1.cell? ⟨g, 0 + j, none⟩ = some (.string (S (nm j))) := fun j hj => by
    obtain ⟨a, c1, e1, h1⟩ := hS
    cases e1
    obtain ⟨b, off, e2, _, h3⟩ := h1 (by decide)
    cases e2
    have := h3 j hj
    rw [this]
    congr 3
    unfold nm
    rw [List.getD_eq_getElem?_getD, List.getElem?_eq_getElem (by exact hj)]
    rfl
  have HC := Lib.hid hcell
  clear hcell
  go_wp2_with fail
  refine (Go.Proofs.Tryd.slices_BinarySearch_string g 0 21 c (fun t => S (nm t)) (S x) _ (by decide) HC.out).mono ?_
  rintro e w2 ⟨rfl, q, rfl⟩
  rw [HK.out]
  generalize Lib.bsGo (fun t => Op.bytesLess (S (nm t)).toList (S x).toList) 21 0 21 = p
  generalize hkb : knownB x = b
  have HKB := Lib.hid hkb
  clear hkb
  go_wp2_with fail
  go_ret
  exact ⟨by rw [HKB.out]; rfl, belowDrewN hb1⟩

/-- the first component that is known -/
def findL (l : List (List UInt8)) : Option (List UInt8) := l.find? knownB
def matV (l : List (List UInt8)) : Value := match findL l with | some x => .tuple #[.string (S x), .bool true] | none => .tuple #[.string (S []), .bool false]
theorem find_take (l : List (List UInt8)) (k : Nat) (h : k < l.length) (hn : findL (l.take k) = none) : (knownB l[k] = true → findL l = some l[k]) ∧ (knownB l[k] = false → findL (l.take (k + 1)) = none) := by
  constructor
  · intro hk
    have e : l = l.take k ++ l.drop k := (List.take_append_drop k l).symm
    unfold findL at hn ⊢
    have h2 : (l.take k ++ l.drop k).find? knownB = some l[k] := by
      rw [List.find?_append, hn, List.drop_eq_getElem_cons h, List.find?_cons_of_pos hk]
      rfl
    rw [← e] at h2
    exact h2
  · intro hk
    unfold findL at hn ⊢
    rw [List.take_succ_eq_append_getElem h, List.find?_append, hn, List.find?_cons_of_neg (by rw [hk]; decide)]
    rfl
set_option maxRecDepth 100000 in
set_option maxHeartbeats 4000000 in
theorem Match_any (s : List UInt8) (hs : s.length ≤ 100000) (w : World) : Calls Tryd.prog 18 #[.string (S s)] w fun e w' => e = .returned (matV (partsL s)) ∧ Below w.heap.size w w' := by
  have HP := Lib.hid (fun w => Parts_any s (by omega) w)
  have hlen := parts_len s
  generalize partsL s = l at *
  go_enter Tryd.func18, Tryd.ntmps18
  go_wp2_with fail
  refine (HP.out _).mono ?_
  rintro e w1 ⟨⟨v, rfl, hO⟩, hb1⟩
  have hS := hO.strs
  obtain ⟨av, cv, rfl, _⟩ := hO.strs
  clear hO
  go_wp2_with fail
  go_loopw [9] (fun i wr => ∃ k : Nat, k ≤ l.length ∧ i = .int .i64 k ∧ findL (l.take k) = none ∧ Below w1.heap.size w1 wr) (fun i _ => l.length - (intOf i).toNat)
  case atStart => exact ⟨0, by omega, rfl, rfl, Below.refl _ _⟩
  case round =>
    obtain ⟨k, hk, rfl, hn, hB⟩ := hrel
    have HN := Lib.hid hn
    clear hn
    by_cases hlt : k < l.length
    · obtain ⟨f1, f2⟩ := find_take l k hlt HN.out
      have hSr := hS.below hB (Nat.le_refl _)
      obtain ⟨a1, c1, e1, h1⟩ := id hSr
      cases e1
      obtain ⟨g, off, rfl, g1, g2⟩ := h1 (by omega)
      have hc := g2 k hlt
      have F1 := Lib.hid f1
      have F2 := Lib.hid f2
      clear h1 g2 f1 f2
      generalize l[k] = q at *
      have hK := fun w => Known_any q w
      cases hkq : knownB q with
      | true =>
        rw [hkq] at hK
        have HK := Lib.hid hK
        have HF := Lib.hid (show matV l = .tuple #[.string (S q), .bool true] by unfold matV; rw [F1.out hkq])
        clear hK hkq
        go_wp2_with fail
        refine (HK.out _).mono ?_
        rintro e w2 ⟨rfl, hb2⟩
        have hB2 := chainB hb1 (chainB hB hb2)
        go_wp2_with fail
        go_ret2
        exact ⟨by rw [HF.out]; rfl, hB2⟩
      | false =>
        rw [hkq] at hK
        have HK := Lib.hid hK
        have HF := Lib.hid (F2.out hkq)
        clear hK hkq
        go_wp2_with fail
        refine (HK.out _).mono ?_
        rintro e w2 ⟨rfl, hb2⟩
        have hB2 := chainB hB hb2
        go_wp2_with fail
        go_roundw
        case rel => exact ⟨k + 1, by omega, by go_num, HF.out, hB2⟩
        case measure => simp [intOf]; omega
    · obtain rfl : k = l.length := by omega
      have hn := HN.out
      rw [List.take_length] at hn
      have HF := Lib.hid (show matV l = .tuple #[.string (S []), .bool false] by unfold matV; rw [hn])
      have hB2 := chainB hb1 hB
      clear hn
      go_wp2_with fail
      go_ret2
      exact ⟨by rw [HF.out]; rfl, hB2⟩
end Go.Proofs.YtjaiadfpdkjkpaaDoor
