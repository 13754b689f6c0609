/- boulterref06.Same, boulterref06.Print; what the examples of the chapter ask. -/
import Derived.Test.YtjoalambgckchaaDoorEqPair
namespace Go.Proofs.YtjoalambgckchaaDoor
open Go.RowKit Go.Lib

theorem pairs_one (w : World) (k v : List UInt8) : PairsV (w.alloc (.cells #[.string (S k), .string (S v)] 25)) (.slice (some ⟨w.heap.size, 0, none⟩) 1 1) [(k, v)] := by
  refine ⟨some ⟨w.heap.size, 0, none⟩, 1, rfl, fun _ => ⟨w.heap.size, 0, rfl, by simp, fun j hj i u hu => ?_⟩⟩
  have hj0 : j = 0 := by simpa using hj
  subst hj0
  unfold World.cell?
  rw [heap_alloc_new]
  match i, hu with
  | 0, hu => exact hu
  | 1, hu => exact hu
set_option maxRecDepth 100000 in
set_option maxHeartbeats 1000000 in
theorem rSame06_any (l m : List PR) (v u : Value) (hl : l.length ≤ 1000000) (hm : m.length ≤ 1000000) (w : World) (hv : PairsV w v l) (hu : PairsV w u m) :
    Calls Tryd.prog 15 #[v, u] w fun e w' => e = .returned (.bool (decide (l = m))) ∧ Below w.heap.size w w' := by
  obtain ⟨a, c, rfl, hv⟩ := hv
  obtain ⟨a2, c2, rfl, hu⟩ := hu
  by_cases hlen : l.length = m.length
  · have hb : ((l.length : Int) != (m.length : Int)) = false := by rw [hlen]; simp
    have hlm : l.length ≤ m.length := by omega
    have HL := Lib.hid hlen
    clear hlen
    go_enter Tryd.func15, Tryd.ntmps15
    go_wp2
    go_loopw [5] (fun i wr => ∃ k : Nat, k ≤ l.length ∧ i = .int .i64 k ∧ (∀ j (h : j < l.length) (h2 : j < m.length), j < k → l[j] = m[j]) ∧ ∃ n, wr = w.drewN n) (fun i _ => l.length - (RowKit.intOf i).toNat)
    case atStart => exact ⟨0, by omega, rfl, fun j _ _ h => absurd h (Nat.not_lt_zero _), 0, rfl⟩
    case round =>
      obtain ⟨k, hk, rfl, he, n, rfl⟩ := hrel
      by_cases hlt : k < l.length
      · have hlt2 : k < m.length := by omega
        obtain ⟨b, off, rfl, h1, h2⟩ := hv (by omega)
        obtain ⟨b2, off2, rfl, h3, h4⟩ := hu (by omega)
        have hc0 : w.cell? ⟨b, off + k * 2, none⟩ = some (.string (S l[k].1)) := h2 k hlt 0 _ rfl
        have hc1 : w.cell? ⟨b, off + k * 2 + 1, none⟩ = some (.string (S l[k].2)) := h2 k hlt 1 _ rfl
        have hd0 : w.cell? ⟨b2, off2 + k * 2, none⟩ = some (.string (S m[k].1)) := h4 k hlt2 0 _ rfl
        have hd1 : w.cell? ⟨b2, off2 + k * 2 + 1, none⟩ = some (.string (S m[k].2)) := h4 k hlt2 1 _ rfl
        have HE := Lib.hid he
        have HQ := Lib.hid (eqP_iff l[k] m[k])
        have HM := Lib.hid (fun e : l[k] ≠ m[k] => show decide (l = m) = false from decide_eq_false fun g => e (by
          have : l[k]? = m[k]? := by rw [g]
          rw [List.getElem?_eq_getElem hlt, List.getElem?_eq_getElem hlt2] at this
          exact Option.some.inj this))
        have HX := Lib.hid (fun e : l[k] = m[k] => show ∀ j (h : j < l.length) (h2 : j < m.length), j < k + 1 → l[j] = m[j] from fun j g1 g2 g3 => by
          rcases Nat.lt_or_ge j k with x | x
          · exact he j g1 g2 x
          · have : j = k := by omega
            subst this; exact e)
        clear h2 h4 he hv hu HE
        cases hqe : eqP l[k] m[k]
        · have hne : l[k] ≠ m[k] := fun e => by rw [HQ.out.2 e] at hqe; cases hqe
          have HD := Lib.hid (HM.out hne)
          have hq := Lib.hid (show (!eqP (l[k].1, l[k].2) (m[k].1, m[k].2)) = true by show (!eqP l[k] m[k]) = true; rw [hqe]; rfl)
          clear HQ HM HX hqe hne
          generalize l[k].1 = x1 at *
          generalize l[k].2 = x2 at *
          generalize m[k].1 = x3 at *
          generalize m[k].2 = x4 at *
          go_wp2_with fail
          go_quiet (fail)
          have hq := hq.out
          rw [hq]
          go_wp2
          go_ret
          exact ⟨by rw [HD.out]; rfl, belowDrewN (belowDrewN (Below.refl _ _))⟩
        · have HD := Lib.hid (HX.out (HQ.out.1 hqe))
          have hq := Lib.hid (show (!eqP (l[k].1, l[k].2) (m[k].1, m[k].2)) = false by show (!eqP l[k] m[k]) = false; rw [hqe]; rfl)
          clear HQ HM HX hqe
          generalize l[k].1 = x1 at *
          generalize l[k].2 = x2 at *
          generalize m[k].1 = x3 at *
          generalize m[k].2 = x4 at *
          go_wp2_with fail
          go_quiet (fail)
          have hq := hq.out
          rw [hq]
          go_wp2
          go_roundw
          case rel => exact ⟨k + 1, by omega, by go_num, HD.out, _, rfl⟩
          case measure => simp [RowKit.intOf]; omega
      · have : k = l.length := by omega
        subst this
        have HD := Lib.hid (show decide (l = m) = true from decide_eq_true (List.ext_getElem HL.out fun j h1 h2 => he j h1 h2 h1))
        clear he
        go_wp2
        go_ret
        exact ⟨by rw [HD.out]; rfl, belowDrewN (Below.refl _ _)⟩
  · have hb : ((l.length : Int) != (m.length : Int)) = true := by rw [bne_iff_ne]; omega
    have HD := Lib.hid (show decide (l = m) = false from decide_eq_false fun e => hlen (by rw [e]))
    clear hlen
    go_enter Tryd.func15, Tryd.ntmps15
    go_wp2
    go_ret
    exact ⟨by rw [HD.out]; rfl, Below.refl _ _⟩
end Go.Proofs.YtjoalambgckchaaDoor
