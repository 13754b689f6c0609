/- strip.Clean. -/
import Derived.Test.YtpdknjpicaokkaaDoorStripF
import Derived.Sort.OwnSorted
namespace Go.Proofs.YtpdknjpicaokkaaDoor
open Go.RowKit Go.Sort Go.Shelf

def dotB (x : ByteArray) : Bool := x.toList == [46]
theorem dot_gives (x : ByteArray) (W : World) : FnGives Tryd.prog 71 #[] #[.string x] (.bool (dotB x)) W := by
  show Calls Tryd.prog 71 #[.string x] W _
  have HD := Lib.hid (show dotB x = (x.toList == [46]) from rfl)
  go_enter Tryd.func71, Tryd.ntmps71
  go_wp2
  go_ret
  exact ⟨by rw [HD.out]; rfl, 0, rfl⟩
def undot (l : List (List UInt8)) : List (List UInt8) := l.filter (fun q => decide (q ≠ [46]))
theorem dot_S (l : List (List UInt8)) : ((l.map S).toArray.toList.filter fun x => !dotB x) = (undot l).map S := by
  induction l with
  | nil => rfl
  | cons x l ih =>
    have e : dotB (S x) = decide (x = [46]) := by
      unfold dotB
      rw [S_toList]
      by_cases h : x = [46]
      · rw [h]; rfl
      · rw [decide_eq_false h, beq_eq_false_iff_ne]; exact h
    simp only [undot] at ih ⊢
    by_cases h : x = [46]
    · simp_all
    · simp_all
theorem undot_le (l : List (List UInt8)) : (undot l).length ≤ l.length := List.length_filter_le _ _
set_option maxRecDepth 100000 in
theorem delete_dot {base g cap : Nat} {l : List (List UInt8)} (w : World) (h : OwnS w base (.slice (some ⟨g, 0, none⟩) l.length cap) l) (hl : l.length ≤ 1000000) (hcap : l.length ≤ cap) :
    Calls Tryd.prog 63 #[.slice (some ⟨g, 0, none⟩) l.length cap, .func (.func 71) #[] #[]] w fun e w' => e = .returned (.slice (some ⟨g, 0, none⟩) (undot l).length cap) ∧ Below base w w' ∧ StrsV w' (.slice (some ⟨g, 0, none⟩) (undot l).length cap) (undot l) := by
  have hH := holds_own h
  have hd : (l.map S).toArray.size = l.length := by simp
  have eg : ∀ args w, (callFunc 71 args).run Tryd.prog w = .ok (.enter 71 args) w := enters_of Tryd.func71 (by kernel_rfl) rfl
  have hc := Go.Proofs.Tryd.slices_DeleteFunc Value.string (fun _ => rfl) dotB 71 #[] eg ByteArray.empty (fun w => by rfl) g 0 cap (l.map S).toArray w
    (fun W x _ => dot_gives x W) (fun n os dk x _ => dot_gives x _) hH (by omega) (by omega)
  rw [dot_S, hd] at hc
  have hg := (h.lt g rfl).1
  have hgs := (h.lt g rfl).2
  have hfl := undot_le l
  rw [List.length_map] at hc
  refine hc.mono ?_
  rintro e w' ⟨rfl, q, rfl⟩
  refine ⟨rfl, put_below _ _ hg, ⟨some ⟨g, 0, none⟩, cap, rfl, fun _ => ⟨g, 0, rfl, by simpa [putRow, mapBlock, Sort.ahead] using hgs, fun j hj => ?_⟩⟩⟩
  have hA : Holds Value.string (Sort.ahead w q) g 0 (l.map S).toArray := hH
  rw [cell?_putRow Value.string (Sort.ahead w q) g 0 (l.map S).toArray _ hA (by simp; omega) j (by simp; omega), getElem!_pos _ j (by simp; omega)]
  simp [hj]
end Go.Proofs.YtpdknjpicaokkaaDoor
