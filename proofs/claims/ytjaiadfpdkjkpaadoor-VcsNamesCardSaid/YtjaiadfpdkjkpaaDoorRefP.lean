/- The document's Parts (boulterref26.Parts) computes the components. -/
import Derived.Test.YtjaiadfpdkjkpaaDoorRef26
namespace Go.Proofs.YtjaiadfpdkjkpaaDoor
open Go.RowKit

theorem ownS_new (w : World) : OwnS (w.alloc (.cells #[] 9)) w.heap.size (.slice (some ⟨w.heap.size, 0, none⟩) 0 0) [] :=
  World.ownsRow_lit (base := w.heap.size) (e := 9) (size := 1) w #[] 0 (Nat.le_refl _) (by decide) (by decide)

set_option maxRecDepth 100000 in
set_option maxHeartbeats 4000000 in
theorem rParts_any (s : ByteArray) (hs : s.size ≤ 1000000) (w : World) :
    Calls Tryd.prog 37 #[.string s] w fun e w' => (∃ v, e = .returned v ∧ OwnS w' w.heap.size v (partsL s.data.toList)) ∧ Below w.heap.size w w' := by
  go_enter Tryd.func37, Tryd.ntmps37
  go_wp2_with fail
  go_loopw [3, 4] (fun v i' wr => ∃ (i : Nat) (done : List (List UInt8)), i' = .int .i64 i ∧ i ≤ s.size + 1 ∧ OwnS wr w.heap.size v done ∧ Below w.heap.size w wr ∧ done ++ partsL (s.data.toList.drop i) = partsL s.data.toList) (fun _ i' _ => s.size + 1 - (intOf i').toNat)
  case atStart => exact ⟨0, [], rfl, by omega, ownS_new w, (Below.refl _ _).alloc (Nat.le_refl _) _, rfl⟩
  case round =>
    obtain ⟨i, done, rfl, hi, hO, hB, he⟩ := hrel
    obtain ⟨av, cv, ev, _⟩ := hO.strs
    subst ev
    have hsz := hB.size
    have HE := Lib.hid he
    have hdn : done.length ≤ 1000001 := by
      have h1 := congrArg List.length he
      have h2 := parts_len s.data.toList
      rw [List.length_append] at h1
      rw [size_len] at h2
      omega
    clear he
    by_cases hlt : i < s.size
    · go_wp2_with fail
      go_loopw [5] (fun k' wr' => wr' = wr ∧ ∃ k : Nat, k' = .int .i64 k ∧ i ≤ k ∧ k ≤ s.size ∧ WordAt s i k) (fun k' _ => s.size - (intOf k').toNat)
      case atStart => exact ⟨rfl, i, rfl, Nat.le_refl _, by omega, WordAt.start s i⟩
      case round =>
        obtain ⟨rfl, k, rfl, hik, hk, hW⟩ := hrel
        by_cases hst : ∃ h : k < s.size, s[k] ≠ 47
        · obtain ⟨hlt2, hc⟩ := hst
          have hby := s[k].toNat_lt
          have hx := at_ne47 s k hlt2 hc
          have HW := Lib.hid (hW.more hik hlt2 hc)
          clear hc hW
          go_wp2_with fail
          go_roundw
          case rel => exact ⟨by first | rfl | trivial, k + 1, by go_num, by omega, by omega, HW.out⟩
          case measure => simp [intOf]; omega
        · have hstop := hW.stop hik hlt hk (fun h => Classical.byContradiction fun g => hst ⟨h, g⟩)
          have hor : s.size ≤ k ∨ ∃ h : k < s.size, ((s[k].toNat : Int) != 47) = false := by
            by_cases h : k < s.size
            · refine .inr ⟨h, ?_⟩
              have : s[k] = 47 := Classical.byContradiction fun g => hst ⟨h, g⟩
              rw [this]; rfl
            · exact .inl (by omega)
          have hx := ext_drop s i k
          generalize (s.data.toList.drop i).take (k - i) = q at *
          have HS := Lib.hid hstop
          clear hstop hst hW
          by_cases hik2 : i < k
          · have HN := Lib.hid (show (done ++ [q]) ++ partsL (s.data.toList.drop (k + 1)) = partsL s.data.toList by
              rw [← HE.out, HS.out, if_pos hik2]; simp)
            rcases hor with hge | ⟨hlt2, hx2⟩
            all_goals
              go_wp2_with (refine app_str rfl (.tmp 27) (.tmp 32) rfl w.heap.size (.slice av done.length cv) done q rfl hO rfl (by omega) hsz ?_; intro v' w' hO' hb' _)
              have hb2 := hB.trans hb'
              go_roundw
              case rel => exact ⟨k + 1, _, by go_num, by omega, hO', hb2, HN.out⟩
              case measure => simp [intOf]; omega
          · have HN := Lib.hid (show done ++ partsL (s.data.toList.drop (k + 1)) = partsL s.data.toList by
              rw [← HE.out, HS.out, if_neg hik2]; simp)
            rcases hor with hge | ⟨hlt2, hx2⟩
            · exfalso; omega
            · go_wp2_with fail
              go_roundw
              case rel => exact ⟨k + 1, _, by go_num, by omega, hO, hB, HN.out⟩
              case measure => simp [intOf]; omega
    · have hend : done = partsL s.data.toList := by
        rw [← HE.out, List.drop_of_length_le (by rw [size_len]; omega), parts_nil, List.append_nil]
      have HD := Lib.hid hend
      clear hend
      go_wp2_with fail
      go_ret
      exact ⟨⟨_, rfl, by rw [← HD.out]; exact hO⟩, hB⟩
end Go.Proofs.YtjaiadfpdkjkpaaDoor
