/- strip.Join at any slice of strings. -/
import Derived.Test.YtpdknjpicaokkaaDoorJoin
namespace Go.Proofs.YtpdknjpicaokkaaDoor
open Go.RowKit

set_option maxRecDepth 100000 in
theorem clone_none (a : Option Addr) (c : Nat) (w : World) :
    Calls Tryd.prog 64 #[.slice a 0 c] w fun e w' => (∃ a' c', e = .returned (.slice a' 0 c')) ∧ Below w.heap.size w w' := by
  cases a with
  | none =>
    refine (Go.Proofs.Tryd.slices_Clone_string_nil 0 c w).mono ?_
    rintro e w' ⟨rfl, rfl⟩
    exact ⟨⟨_, _, rfl⟩, Below.refl _ _⟩
  | some a =>
    have q22 : ∀ (w : World) (a : Option Addr) (n c n' c' : Nat), (binOp .eql 22 (.slice a n c) (.slice none n' c')).run Tryd.prog w = .ok (.bool a.isNone) w := fun w a n c n' c' => Lib.run_eql_slice_nil w _ _ a n c n' c' Tryd.underlying22
    go_enter Tryd.func64, Tryd.ntmps64
    go_wp2
    go_ret
    exact ⟨⟨_, _, rfl⟩, (Below.refl _ _).alloc (Nat.le_refl _) _⟩
set_option maxRecDepth 100000 in
theorem index_none (a : Option Addr) (c f : Nat) (w : World) :
    Calls Tryd.prog 92 #[.slice a 0 c, .func (.func f) #[] #[]] w fun e w' => e = .returned (.int .i64 (-1)) ∧ w' = w := by
  go_enter Tryd.func92, Tryd.ntmps92
  go_wp2
  go_loopw [8] (fun i wr => wr = w ∧ i = .int .i64 0) (fun _ _ => 0)
  case atStart => exact ⟨rfl, rfl⟩
  case round =>
    obtain ⟨rfl, rfl⟩ := hrel
    go_wp2
    go_ret
    exact ⟨rfl, rfl⟩
set_option maxRecDepth 100000 in
theorem delete_none (a : Option Addr) (c f : Nat) (w : World) :
    Calls Tryd.prog 63 #[.slice a 0 c, .func (.func f) #[] #[]] w fun e w' => e = .returned (.slice a 0 c) ∧ w' = w := by
  go_enter Tryd.func63, Tryd.ntmps63
  go_wp2_with fail
  refine (index_none _ _ _ _).mono ?_
  rintro e w' ⟨rfl, rfl⟩
  go_wp2
  go_ret
  exact ⟨rfl, rfl⟩

theorem lens_map (l : List (List UInt8)) : (l.map S).map (·.data.toList) = l := by
  rw [List.map_map]
  exact List.map_id _
set_option maxRecDepth 100000 in
/-- strings.Join with a slash -/
theorem sJoin_any (l : List (List UInt8)) (v : Value) (hl : l.length ≤ 1000000) (hj : (Lib.join l [47]).length ≤ 100000000000000) (w : World) (hv : StrsV w v l) (hcap : ∀ a n c, v = .slice a n c → n ≤ c) :
    Calls Tryd.prog 62 #[v, .string ⟨#[47]⟩] w fun e w' => e = .returned (.string (S (Lib.join l [47]))) ∧ Below w.heap.size w w' := by
  obtain ⟨a, c, rfl, hv⟩ := hv
  by_cases h0 : l = []
  · subst h0
    refine (Go.Proofs.Tryd.strings_Join_none a c _ w).mono ?_
    rintro e w' ⟨rfl, rfl⟩
    exact ⟨rfl, Below.refl _ _⟩
  · have hp : 0 < l.length := List.length_pos_iff.2 h0
    obtain ⟨b, off, rfl, h1, h2⟩ := hv hp
    have h := Go.Proofs.Tryd.strings_Join b off c (l.map S) ⟨#[47]⟩ w (fun j x hx => by
      rw [List.getElem?_map] at hx
      obtain ⟨q, hq, rfl⟩ := Option.map_eq_some_iff.1 hx
      obtain ⟨hj, rfl⟩ := List.getElem?_eq_some_iff.1 hq
      exact h2 j hj) h1 (by rw [List.length_map]; omega) (by rw [List.length_map]; exact hcap _ _ _ rfl) (by rw [lens_map]; exact Nat.le_trans hj (by decide))
    rw [List.length_map, lens_map] at h
    exact h
set_option maxRecDepth 100000 in
set_option maxHeartbeats 1000000 in
theorem Join_any (l : List (List UInt8)) (v : Value) (hl : l.length ≤ 1000000) (hm : ∀ q ∈ l, q.length ≤ 1000000) (w : World) (hv : StrsV w v l) :
    Calls Tryd.prog 21 #[v] w fun e w' => e = .returned (.string (S (joinL l))) ∧ Below w.heap.size w w' := by
  have hj0 : (Lib.join (fullL l) [47]).length ≤ 100000000000000 := by
    have h3 := joinL_le 1000000 l hm
    have h4 : l.length * (1000000 + 1) ≤ 1000000 * (1000000 + 1) := Nat.mul_le_mul_right _ hl
    exact Nat.le_trans h3 (by omega)
  have HJ := Lib.hid hj0
  clear hj0
  obtain ⟨a, c, rfl, hv⟩ := hv
  by_cases h0 : l = []
  · subst h0
    clear hv
    go_enter Tryd.func21, Tryd.ntmps21
    go_wp2_with fail
    refine (clone_none a c _).mono ?_
    rintro e w1 ⟨⟨a', c', rfl⟩, hb⟩
    go_wp2_with fail
    refine (delete_none _ _ _ _).mono ?_
    rintro e w2 ⟨rfl, rfl⟩
    go_wp2_with fail
    refine (Go.Proofs.Tryd.strings_Join_none _ _ _ _).mono ?_
    rintro e w3 ⟨rfl, rfl⟩
    go_wp2_with fail
    go_ret
    exact ⟨rfl, hb⟩
  · have hp : 0 < l.length := List.length_pos_iff.2 h0
    obtain ⟨b, off, rfl, h1, h2⟩ := hv hp
    have hfl := full_le l
    have hcl := Go.Proofs.Tryd.slices_Clone_string b off l.length c (l.map S) w (by rw [List.length_map]; exact Nat.le_refl _) (by omega) (fun j hj => by
      rw [List.length_map] at hj
      rw [h2 j hj, List.getD_eq_getElem?_getD, List.getElem?_map, List.getElem?_eq_getElem hj]
      rfl)
    have e1 : ((l.map S).take l.length).map Value.string = l.map sv := by
      rw [List.take_of_length_le (by rw [List.length_map]; exact Nat.le_refl _), List.map_map]; rfl
    rw [e1] at hcl
    have HC := Lib.hid hcl
    clear hcl e1 h2 hv
    go_enter Tryd.func21, Tryd.ntmps21
    go_wp2_with fail
    refine HC.out.mono ?_
    rintro e w1 ⟨v', rfl, hO, hne, hb1⟩
    change OwnS w1 w.heap.size v' l at hO
    have hO2 := hO
    obtain ⟨g1, g2⟩ := hO2
    rcases g2 with ⟨rfl, _⟩ | ⟨g, cap, cur, rfl, hg, hh, hn, r⟩
    · exact absurd rfl hne
    · clear r g1
      go_wp2_with fail
      refine (delete_own w1 hO hl hn).mono ?_
      rintro e w2 ⟨rfl, hb2, hS⟩
      have hB2 : Below w.heap.size w w2 := hb1.trans hb2
      go_wp2_with fail
      refine (sJoin_any _ _ (by omega) HJ.out _ hS (by rintro a n c h; cases h; omega)).mono ?_
      rintro e w3 ⟨rfl, hb3⟩
      have hB3 : Below w.heap.size w w3 := hB2.trans (hb3.mono hB2.size)
      go_wp2_with fail
      go_ret
      exact ⟨rfl, hB3⟩
end Go.Proofs.YtpdknjpicaokkaaDoor
