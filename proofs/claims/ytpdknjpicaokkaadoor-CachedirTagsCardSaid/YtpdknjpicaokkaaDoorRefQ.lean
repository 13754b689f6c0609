/- The document's Join and Same. -/
import Derived.Test.YtpdknjpicaokkaaDoorRefP
import Derived.Deep.RegionHeld3
namespace Go.Proofs.YtpdknjpicaokkaaDoor
open Go.RowKit

theorem S_ne_empty (l : List UInt8) : (S l).toList.isEmpty = l.isEmpty := by rw [S_toList]
theorem joinL_take (l : List (List UInt8)) (k : Nat) (h : k < l.length) : joinL (l.take (k + 1)) = if l[k].isEmpty then joinL (l.take k) else if (joinL (l.take k)).isEmpty then l[k] else joinL (l.take k) ++ 47 :: l[k] := by
  rw [List.take_succ_eq_append_getElem h, joinL_snoc]
set_option maxRecDepth 100000 in
set_option maxHeartbeats 4000000 in
theorem rJoin_any (l : List (List UInt8)) (v : Value) (hl : l.length ≤ 1000000) (hm : ∀ q ∈ l, q.length ≤ 1000000) (w : World) (hv : StrsV w v l) :
    Calls Tryd.prog 22 #[v] w fun e w' => e = .returned (.string (S (joinL l))) ∧ w' = w := by
  obtain ⟨a, c, rfl, hv⟩ := hv
  go_enter Tryd.func22, Tryd.ntmps22
  go_wp2_with fail
  go_loopw [3, 4] (fun s' i' wr => wr = w ∧ ∃ i : Nat, i ≤ l.length ∧ i' = .int .i64 i ∧ s' = .string (S (joinL (l.take i)))) (fun _ i' _ => l.length - (intOf i').toNat)
  case atStart => exact ⟨rfl, 0, Nat.zero_le _, rfl, rfl⟩
  case round =>
    obtain ⟨rfl, i, hi, rfl, rfl⟩ := hrel
    by_cases hlt : i < l.length
    · obtain ⟨b, off, rfl, h1, h2⟩ := hv (by omega)
      have hc := h2 i hlt
      have HJ := Lib.hid (joinL_take l i hlt)
      have hp9 : (joinL (l.take i)).length ≤ 1000001000000 := by
        have h3 := joinL_le 1000000 (l.take i) (fun q hq => hm q (List.mem_of_mem_take hq))
        rw [List.length_take, Nat.min_eq_left hi] at h3
        have h4 : i * (1000000 + 1) ≤ 1000000 * (1000000 + 1) := Nat.mul_le_mul_right _ (by omega)
        omega
      have hq9 := hm l[i] (List.getElem_mem hlt)
      generalize joinL (l.take i) = p at *
      generalize l[i] = q at *
      clear h2 hv
      by_cases hq : q.isEmpty = true
      · have hq0 : q = [] := by simpa using hq
        subst hq0
        have HJ2 := Lib.hid (show joinL (l.take (i + 1)) = p by rw [HJ.out, if_pos (by rfl)])
        go_wp2_with fail
        go_roundw
        case rel => exact ⟨by first | rfl | trivial, i + 1, by omega, by go_num, by rw [HJ2.out]⟩
        case measure => simp [intOf]; omega
      · have hq1 : q.isEmpty = false := by simpa using hq
        have hq2 : (S q).toList.isEmpty = false := by rw [S_ne_empty]; exact hq1
        by_cases hp : p.isEmpty = true
        · have hp0 : p = [] := by simpa using hp
          subst hp0
          have HJ2 := Lib.hid (show joinL (l.take (i + 1)) = q by rw [HJ.out, if_neg hq, if_pos (by rfl)])
          clear hq hp
          go_wp2_with fail
          go_roundw
          case rel => exact ⟨by first | rfl | trivial, i + 1, by omega, by go_num, by rw [HJ2.out]; first | (congr 1; done) | (congr 1; rw [S_append])⟩
          case measure => simp [intOf]; omega
        · have hp1 : p.isEmpty = false := by simpa using hp
          have hp2 : (S p).toList.isEmpty = false := by rw [S_ne_empty]; exact hp1
          have HJ2 := Lib.hid (show joinL (l.take (i + 1)) = p ++ 47 :: q by rw [HJ.out, if_neg hq, if_neg hp])
          clear hq hp
          go_wp2_with fail
          go_roundw
          case rel => exact ⟨by first | rfl | trivial, i + 1, by omega, by go_num, by rw [HJ2.out]; congr 1; rw [show (⟨#[47]⟩ : ByteArray) = S [47] from rfl, S_append, S_append]; try simp⟩
          case measure => simp [intOf]; omega
    · obtain rfl : i = l.length := by omega
      rw [List.take_length]
      go_wp2_with fail
      go_ret
      exact ⟨rfl, rfl⟩
end Go.Proofs.YtpdknjpicaokkaaDoor
