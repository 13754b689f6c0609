/- A glob: Quote, and Plain of bytes. -/
import Derived.Test.YthcmoigdihdabaaGlobE
import Derived.Test.YthcmoigdihdabaaAppOne
namespace Go.Proofs.Ythcmoigdihdabaa
open Go.RowKit
attribute [local irreducible] wordP

def signB (b : UInt8) : Bool := b == 42 || b == 63 || b == 91 || b == 92
def quoteG (s : List UInt8) : List UInt8 := s.flatMap fun b => if signB b then [92, b] else [b]
theorem quoteG_snoc (s : List UInt8) (k : Nat) (h : k < s.length) : quoteG (s.take (k + 1)) = quoteG (s.take k) ++ (if signB s[k] = true then [92, s[k]] else [s[k]]) := by
  unfold quoteG
  rw [List.take_succ_eq_append_getElem h, List.flatMap_append, List.flatMap_singleton]
theorem quoteG_len (s : List UInt8) : (quoteG s).length ≤ 2 * s.length := by
  unfold quoteG
  induction s with
  | nil => simp
  | cons b s ih =>
    rw [List.flatMap_cons, List.length_append, List.length_cons]
    have : (if signB b = true then [92, b] else [b]).length ≤ 2 := by split <;> simp
    omega
set_option maxRecDepth 100000 in
set_option maxHeartbeats 2000000 in
theorem GQuote_any (s : List UInt8) (hs : s.length ≤ 100000) (w : World) :
    Calls Try.prog 25 #[.string (S s)] w fun e w' => e = .returned (.string (S (quoteG s))) ∧ Below w.heap.size w w' := by
  have hsI : (s.length : Int) ≤ 100000 := by omega
  go_enter Try.func25, Try.ntmps25
  go_wp2_with fail
  go_loopw [3, 7] (fun v3 v7 wr => ∃ k : Nat, v7 = .int .i64 k ∧ k ≤ s.length ∧ OwnB wr w.heap.size v3 (quoteG (s.take k)) ∧ Below w.heap.size w wr) (fun _ v7 _ => s.length - (intOf v7).toNat)
  case atStart => exact ⟨0, rfl, Nat.zero_le _, OwnB.nil _ _, Below.refl _ _⟩
  case round =>
    obtain ⟨k, rfl, hk, hown, hb⟩ := hrel
    have hsz := hb.size
    by_cases hlt : k < s.length
    · have hkI : (k : Int) < (s.length : Int) := by omega
      have hks : k < (S s).size := by rw [S_size]; exact hlt
      have hsn : quoteG (s.take (k + 1)) = quoteG (s.take k) ++ (if signB ((S s)[k]'hks) = true then [92, (S s)[k]'hks] else [(S s)[k]'hks]) := quoteG_snoc s k hlt
      have hql := quoteG_len (s.take k)
      rw [List.length_take] at hql
      have hqb : (quoteG (s.take k)).length ≤ 200000 := by omega
      generalize quoteG (s.take k) = q at *
      cases hsg : signB ((S s)[k]'hks)
      · rw [hsg, if_neg (by decide)] at hsn
        have Hsn := Lib.hid hsn
        unfold signB at hsg
        simp only [Bool.or_eq_false_iff, beq_eq_false_iff_ne] at hsg
        obtain ⟨⟨⟨h42, h63⟩, h91⟩, h92⟩ := hsg
        have e42 := byte_beq' ((S s)[k]'hks) 42 42 rfl h42
        have e63 := byte_beq' ((S s)[k]'hks) 63 63 rfl h63
        have e91 := byte_beq' ((S s)[k]'hks) 91 91 rfl h91
        have e92 := byte_beq' ((S s)[k]'hks) 92 92 rfl h92
        clear hsn h42 h63 h91 h92
        go_wp2_with (at_builtin; go_must (refine app_lit rfl _ _ rfl w.heap.size _ _ [(S s)[k]'hks] rfl hown 1 _ rfl rfl rfl (by omega) (by omega) ?_); intro v3 w3 hown3 hb3 hg3)
        go_roundw
        case rel => exact ⟨k + 1, by go_num, by omega, by rw [Hsn.out]; exact hown3, hb.trans hb3⟩
        case measure => simp [intOf]; omega
      · rw [hsg, if_pos rfl] at hsn
        have Hsn := Lib.hid hsn
        have h4 : ((S s)[k]'hks) = 42 ∨ ((S s)[k]'hks) = 63 ∨ ((S s)[k]'hks) = 91 ∨ ((S s)[k]'hks) = 92 := by
          unfold signB at hsg
          simp only [Bool.or_eq_true, beq_iff_eq] at hsg
          rcases hsg with ((h | h) | h) | h
          · exact Or.inl h
          · exact Or.inr (Or.inl h)
          · exact Or.inr (Or.inr (Or.inl h))
          · exact Or.inr (Or.inr (Or.inr h))
        clear hsn hsg
        have hvv : ∀ c : UInt8, ((S s)[k]'hks) = c → (((S s)[k]'hks).toNat : Int) = (c.toNat : Int) ∧ ((S s)[k]'hks).toNat = c.toNat := fun c h => by rw [h]; exact ⟨rfl, rfl⟩
        rcases h4 with h | h | h | h
        all_goals
          rw [h] at Hsn
          obtain ⟨hv, hvN⟩ := hvv _ h
          clear h hvv
          simp only [show (42 : UInt8).toNat = 42 from rfl, show (63 : UInt8).toNat = 63 from rfl, show (91 : UInt8).toNat = 91 from rfl, show (92 : UInt8).toNat = 92 from rfl] at hv hvN
          go_wp2_with (at_builtin; go_must (refine app_one rfl _ _ rfl w.heap.size _ _ rfl hown _ rfl (by decide) (by decide) (by first | omega | (simp; done) | (simp; omega)) (by omega) ?_); intro vn wn hown hbn hgn; have hb := hb.trans (hbn.mono (by omega)); have hsz := hb.size)
        all_goals go_roundw
        case rel => exact ⟨k + 1, by go_num, by omega, by rw [Hsn.out]; rw [List.append_assoc] at hown; exact hown, hb⟩
        case rel => exact ⟨k + 1, by go_num, by omega, by rw [Hsn.out]; rw [List.append_assoc] at hown; exact hown, hb⟩
        case rel => exact ⟨k + 1, by go_num, by omega, by rw [Hsn.out]; rw [List.append_assoc] at hown; exact hown, hb⟩
        case rel => exact ⟨k + 1, by go_num, by omega, by rw [Hsn.out]; rw [List.append_assoc] at hown; exact hown, hb⟩
        all_goals (simp [intOf]; omega)
    · have hkk : k = s.length := by omega
      subst hkk
      rw [List.take_length] at hown
      have hstr := run_string_own wr _ _ _ hown
      go_wp2
      go_ret
      exact ⟨rfl, hb⟩
end Go.Proofs.Ythcmoigdihdabaa
