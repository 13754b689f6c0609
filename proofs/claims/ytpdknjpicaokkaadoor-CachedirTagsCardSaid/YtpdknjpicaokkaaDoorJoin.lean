/- strip.Join: the components that hold something, with a slash between two. -/
import Derived.Test.YtpdknjpicaokkaaDoorPartsL
import Derived.Test.YtpdknjpicaokkaaDoorShelf2
import Derived.Sort.OwnSorted
namespace Go.Proofs.YtpdknjpicaokkaaDoor
open Go.RowKit Go.Sort Go.Shelf

theorem empty_gives (x : ByteArray) (W : World) : FnGives Tryd.prog 65 #[] #[.string x] (.bool x.toList.isEmpty) W := by
  show Calls Tryd.prog 65 #[.string x] W _
  go_enter Tryd.func65, Tryd.ntmps65
  go_wp2
  go_ret
  exact ⟨rfl, 0, rfl⟩
theorem put_below {w : World} {g B : Nat} (d : Array ByteArray) (q : Nat) (h : B ≤ g) : Below B w (putRow Value.string (Sort.ahead w q) g 0 d) := by
  refine ⟨rfl, rfl, rfl, by simp [putRow, mapBlock, Sort.ahead], fun k hk => ?_⟩
  have : g ≠ k := by omega
  simp [putRow, mapBlock, Sort.ahead, Array.getElem?_modify, this]
theorem holds_own {w : World} {base g cap : Nat} {l : List (List UInt8)} (h : OwnS w base (.slice (some ⟨g, 0, none⟩) l.length cap) l) : Holds Value.string w g 0 (l.map S).toArray := by
  intro j hj
  have hj' : j < l.length := by simpa using hj
  obtain ⟨_, h2⟩ := id h
  rcases h2 with ⟨h2, _⟩ | ⟨g', cap', cur, hv, _, hh, _⟩
  · cases h2
  · cases hv
    refine ⟨?_, by simp [World.frozen?, hh]⟩
    have := World.ownsRow.cells h (g := g) rfl j (sv l[j]) (by rw [List.getElem?_map, List.getElem?_eq_getElem hj']; rfl)
    rw [Addr.add_lit] at this
    rw [this, getElem!_pos _ j hj]
    simp [sv]
theorem full_S (l : List (List UInt8)) : ((l.map S).toArray.toList.filter fun x => !x.toList.isEmpty) = (fullL l).map S := by
  induction l with
  | nil => rfl
  | cons x l ih =>
    have e : (S x).toList = x := by rw [ByteArray.toList_eq]; rfl
    simp only [fullL] at ih ⊢
    cases h : x.isEmpty <;> simp_all

set_option maxRecDepth 100000 in
/-- slices.DeleteFunc on the call's own row -/
theorem delete_own {base g cap : Nat} {l : List (List UInt8)} (w : World) (h : OwnS w base (.slice (some ⟨g, 0, none⟩) l.length cap) l) (hl : l.length ≤ 1000000) (hcap : l.length ≤ cap) :
    Calls Tryd.prog 63 #[.slice (some ⟨g, 0, none⟩) l.length cap, .func (.func 65) #[] #[]] w fun e w' => e = .returned (.slice (some ⟨g, 0, none⟩) (fullL l).length cap) ∧ Below base w w' ∧ StrsV w' (.slice (some ⟨g, 0, none⟩) (fullL l).length cap) (fullL l) := by
  have hH := holds_own h
  have hd : (l.map S).toArray.size = l.length := by simp
  have eg : ∀ args w, (callFunc 65 args).run Tryd.prog w = .ok (.enter 65 args) w := enters_of Tryd.func65 (by kernel_rfl) rfl
  have hc := Go.Proofs.Tryd.slices_DeleteFunc Value.string (fun _ => rfl) (fun x : ByteArray => x.toList.isEmpty) 65 #[] eg ByteArray.empty (fun w => by rfl) g 0 cap (l.map S).toArray w
    (fun W x _ => empty_gives x W) (fun n os dk x _ => empty_gives x _) hH (by omega) (by omega)
  rw [full_S, hd] at hc
  have hg := (h.lt g rfl).1
  have hgs := (h.lt g rfl).2
  have hfl := full_le l
  rw [List.length_map] at hc
  refine hc.mono ?_
  rintro e w' ⟨rfl, q, rfl⟩
  refine ⟨rfl, put_below _ _ hg, ⟨some ⟨g, 0, none⟩, cap, rfl, fun _ => ⟨g, 0, rfl, by simpa [putRow, mapBlock, Sort.ahead] using hgs, fun j hj => ?_⟩⟩⟩
  have hA : Holds Value.string (Sort.ahead w q) g 0 (l.map S).toArray := hH
  rw [cell?_putRow Value.string (Sort.ahead w q) g 0 (l.map S).toArray _ hA (by simp; omega) j (by simp; omega), getElem!_pos _ j (by simp; omega)]
  simp [hj]
end Go.Proofs.YtpdknjpicaokkaaDoor
