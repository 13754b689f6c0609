/- Plain laws of sets and texts. -/
import Derived.Test.YtphfcebacilbbaaDoorSameP
namespace Go.Proofs.YtphfcebacilbbaaDoor
open Go.RowKit

theorem without_bytes (p : Nat → Bool) (m : List UInt8) : withoutL (bytesP p) m = bytesP (fun n => p n && !(ofP m n)) := by
  unfold withoutL bytesP bytesTo
  rw [List.filter_map, List.filter_filter]
  congr 1
  apply List.filter_congr
  intro n hn
  have := ofP_in m n (List.mem_range.1 hn)
  simp only [Function.comp_apply, this]
  rw [Bool.and_comm]
theorem ofP_bytes (r : Nat → Bool) (n : Nat) (hn : n < 256) : ofP (bytesP r) n = r n := by
  rw [← ofP_in _ n hn, Bool.eq_iff_iff, ← mem_bytes r n hn]
  simp [inL, List.any_eq_true]
theorem g_and (p : Nat → Bool) (m : List UInt8) : (bytesP (andP p (ofP m)) == withoutL (bytesP p) (withoutL (bytesP p) m)) = true := by
  rw [without_bytes p m, without_bytes, beq_iff_eq]
  apply bytesP_ext
  intro n hn
  rw [ofP_bytes _ n hn]
  unfold andP
  cases p n <;> cases ofP m n <;> rfl
theorem g_not (l : List UInt8) : (bytesP (notP (ofP l)) == withoutL (bytesP (rangeP 0 255)) l) = true := by
  rw [without_bytes, beq_iff_eq]
  apply bytesP_ext
  intro n hn
  have : rangeP 0 255 n = true := by simp [rangeP]; omega
  rw [this, Bool.true_and]
  rfl
theorem g_or (l m : List UInt8) : orP (ofP l) (ofP m) = ofP (l ++ m) := by
  funext n
  simp [orP, ofP]
theorem data_app (s t : ByteArray) : (s ++ t).data.toList = s.data.toList ++ t.data.toList := by
  have := S_append s.data.toList t.data.toList
  exact congrArg (fun b : ByteArray => b.data.toList) this
theorem without_len (l m : List UInt8) : (withoutL l m).length ≤ l.length := List.length_filter_le _ _
end Go.Proofs.YtphfcebacilbbaaDoor
