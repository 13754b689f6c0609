import Derived.Test.YtphfcebacilbbaaDoorClassC
namespace Go.Proofs.YtphfcebacilbbaaDoor
open Go.RowKit
theorem bytesTo_same (p : Nat → Bool) (k d : Nat) (h : ∀ n, k ≤ n → n < k + d → p n = false) : bytesTo p (k + d) = bytesTo p k := by
  induction d with
  | zero => rfl
  | succ d ih =>
    rw [Nat.add_succ, bytesTo_no p (k + d) (h _ (by omega) (by omega))]
    exact ih fun n h1 h2 => h n h1 (by omega)
theorem bytesP_ext (p q : Nat → Bool) (h : ∀ n, n < 256 → p n = q n) : bytesP p = bytesP q := by
  unfold bytesP bytesTo
  congr 1
  apply List.filter_congr
  intro n hn
  exact h n (List.mem_range.1 hn)

set_option maxRecDepth 100000 in
set_option maxHeartbeats 1000000 in
theorem between_any (a b : Int) (w : World) (ha0 : 0 ≤ a) (ha : a ≤ 255) (hb0 : 0 ≤ b) (hb1 : b ≤ 255) :
    Calls Tryd.prog 50 #[.int .i64 a, .int .i64 b] w fun e w' => e = .returned (.string (S (bytesP (rangeP a b)))) ∧ Below w.heap.size w w' := by
  obtain ⟨a, rfl⟩ := Int.eq_ofNat_of_zero_le ha0
  obtain ⟨b, rfl⟩ := Int.eq_ofNat_of_zero_le hb0
  have h0 : bytesTo (rangeP a b) a = [] := by
    have := bytesTo_same (rangeP a b) 0 a (fun n _ h2 => by simp [rangeP]; omega)
    rw [Nat.zero_add] at this
    rw [this]; rfl
  have H0 := Lib.hid h0
  clear h0
  go_enter Tryd.func50, Tryd.ntmps50
  go_wp2
  go_loopw [5, 6] (fun v i wr => ∃ k : Nat, a ≤ k ∧ (k ≤ b + 1 ∨ k ≤ a) ∧ i = .int .i64 k ∧ v = .string (S (bytesTo (rangeP a b) k)) ∧ Below w.heap.size w wr) (fun _ i _ => b + 1 - (intOf i).toNat)
  case atStart => exact ⟨a, by omega, by omega, rfl, by rw [H0.out]; rfl, Below.refl _ _⟩
  case round =>
    obtain ⟨k, hk1, hk2, rfl, rfl, hb⟩ := hrel
    have hl := bytesTo_len (rangeP a b) k
    by_cases hlt : k ≤ b
    · have Hp := Lib.hid (bytesTo_yes (rangeP a b) k (by simp [rangeP]; omega))
      have hstr := str_lit wr #[.int .u8 (k : Int)] 1 [UInt8.ofNat k] (by rw [List.map_cons, bv_nat k (by omega)]; rfl) rfl (by decide)
      go_wp2
      go_roundw
      case rel => exact ⟨k + 1, by omega, by omega, by go_num, by rw [Hp.out, S_append], hb.alloc hb.size _⟩
      case measure => simp [intOf]; omega
    · have hsame : bytesTo (rangeP a b) k = bytesP (rangeP a b) := by
        have := bytesTo_same (rangeP a b) k (256 - k) (fun n h1 _ => by simp [rangeP]; omega)
        rw [show k + (256 - k) = 256 from by omega] at this
        exact this.symm
      have Hs := Lib.hid hsame
      clear hsame
      go_wp2
      go_ret
      exact ⟨by rw [← Hs.out]; rfl, hb⟩

def withoutL (l t : List UInt8) : List UInt8 := l.filter fun b => !inL b t
set_option maxRecDepth 100000 in
set_option maxHeartbeats 1000000 in
theorem without_any (s t : ByteArray) (w : World) (hs : s.size ≤ 1000000) (ht : t.size ≤ 1000000) :
    Calls Tryd.prog 51 #[.string s, .string t] w fun e w' => e = .returned (.string (S (withoutL s.data.toList t.data.toList))) ∧ Below w.heap.size w w' := by
  go_enter Tryd.func51, Tryd.ntmps51
  go_wp2
  go_loop [5, 6] (fun v i => ∃ k : Nat, k ≤ s.size ∧ i = .int .i64 k ∧ v = .string (S (withoutL (s.data.toList.take k) t.data.toList))) (fun _ i => s.size - (intOf i).toNat)
  case atStart => exact ⟨0, by omega, rfl, rfl⟩
  case round =>
    obtain ⟨k, hk, rfl, rfl⟩ := hrel
    have hl : (withoutL (s.data.toList.take k) t.data.toList).length ≤ k := Nat.le_trans (List.length_filter_le _ _) (List.length_take_le _ _)
    by_cases hlt : k < s.size
    · cases hp : inL s[k] t.data.toList
      · have Hp := Lib.hid (show withoutL (s.data.toList.take (k + 1)) t.data.toList = withoutL (s.data.toList.take k) t.data.toList ++ [s[k]] by rw [take_snoc s k hlt]; simp [withoutL, hp])
        go_wp2_with (go_at_call 67; refine (in_any _ _ _ ht).mono ?_; rintro e w1 ⟨rfl, rfl⟩)
        go_round
        case rel => exact ⟨k + 1, by omega, by go_num, by rw [Hp.out, ext1 s k hlt]⟩
        case measure => simp [intOf]; omega
      · have Hp := Lib.hid (show withoutL (s.data.toList.take (k + 1)) t.data.toList = withoutL (s.data.toList.take k) t.data.toList by rw [take_snoc s k hlt]; simp [withoutL, hp])
        go_wp2_with (go_at_call 67; refine (in_any _ _ _ ht).mono ?_; rintro e w1 ⟨rfl, rfl⟩)
        go_round
        case rel => exact ⟨k + 1, by omega, by go_num, by rw [Hp.out]⟩
        case measure => simp [intOf]; omega
    · go_wp2
      go_ret
      exact ⟨by rw [take_all s k (by omega)]; rfl, Below.refl _ _⟩
end Go.Proofs.YtphfcebacilbbaaDoor
