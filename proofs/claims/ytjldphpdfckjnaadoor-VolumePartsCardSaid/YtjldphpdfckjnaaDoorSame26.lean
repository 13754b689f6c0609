/- Are two slices of strings the same (boulterref26.Same). -/
import Derived.Test.YtjldphpdfckjnaaDoorStrs
import Derived.Deep.RegionHeld3
namespace Go.Proofs.YtjldphpdfckjnaaDoor
open Go.RowKit

theorem drewN_add (w : World) (a b : Nat) : (w.drewN a).drewN b = w.drewN (a + b) := World.drewN_drewN ..
theorem getl (l : List (List UInt8)) (k : Nat) (h : k < l.length) (r : List (List UInt8)) (h2 : k < r.length) (h0 : l.take k = r.take k) (e : l[k] = r[k]) : l.take (k + 1) = r.take (k + 1) := by
  rw [List.take_succ_eq_append_getElem h, List.take_succ_eq_append_getElem h2, h0, e]
set_option maxRecDepth 100000 in
/-- are two slices of strings the same -/
theorem Same_any (l r : List (List UInt8)) (v u : Value) (hl : l.length ≤ 1000000000) (w : World) (hv : StrsV w v l) (hu : StrsV w u r) :
    Calls Tryd.prog 14 #[v, u] w fun e w' => e = .returned (.bool (decide (l = r))) ∧ ∃ m, w' = w.drewN m := by
  obtain ⟨a, c, rfl, hv⟩ := hv
  obtain ⟨a2, c2, rfl, hu⟩ := hu
  by_cases hlen : l.length = r.length
  · have hlen1 : l.length ≤ r.length := by omega
    have hlen2 : r.length ≤ l.length := by omega
    have HL := Lib.hid hlen
    have hbe : ((l.length : Int) != r.length) = false := by rw [hlen]; simp
    clear hlen
    go_enter Tryd.func14, Tryd.ntmps14
    go_wp2
    go_loopw [5] (fun i wr => ∃ k : Nat, k ≤ l.length ∧ i = .int .i64 k ∧ l.take k = r.take k ∧ ∃ m, wr = w.drewN m) (fun i _ => l.length - (intOf i).toNat)
    case atStart => exact ⟨0, by omega, rfl, rfl, 0, rfl⟩
    case round =>
      obtain ⟨k, hk, rfl, heq, hm⟩ := hrel
      have HE := Lib.hid heq
      by_cases hlt : k < l.length
      · have hlt2 : k < r.length := by omega
        obtain ⟨b, off, rfl, _, h2⟩ := hv (by omega)
        obtain ⟨b2, off2, rfl, _, h4⟩ := hu (by omega)
        have hc : wr.cell? ⟨b, off + k, none⟩ = some (.string (S l[k])) := by obtain ⟨m, rfl⟩ := hm; exact h2 k hlt
        have hc2 : wr.cell? ⟨b2, off2 + k, none⟩ = some (.string (S r[k])) := by obtain ⟨m, rfl⟩ := hm; exact h4 k hlt2
        have HM := Lib.hid hm
        clear h2 h4 hm heq
        by_cases he : l[k] = r[k]
        · have hb : (l[k] == r[k]) = true := beq_iff_eq.2 he
          have HN := Lib.hid (getl l k hlt r hlt2 HE.out he)
          clear he
          go_wp2
          go_quiet (fail)
          go_wp2
          go_roundw
          case rel => exact ⟨k + 1, by omega, by go_num, HN.out, by obtain ⟨m, rfl⟩ := HM.out; exact ⟨m + nq, drewN_add _ _ _⟩⟩
          case measure => simp [intOf]; omega
        · have hb : (l[k] == r[k]) = false := beq_eq_false_iff_ne.2 he
          have hne : decide (l = r) = false := decide_eq_false_iff_not.2 fun g => he (by subst g; rfl)
          have HN := Lib.hid hne
          clear he hne
          go_wp2
          go_quiet (fail)
          go_wp2
          go_ret
          exact ⟨by rw [HN.out]; rfl, by obtain ⟨m, rfl⟩ := HM.out; exact ⟨m + nq, drewN_add _ _ _⟩⟩
      · have : k = l.length := by omega
        subst this
        have hyes : decide (l = r) = true := decide_eq_true_iff.2 (by rw [List.take_length] at heq; rw [heq, HL.out, List.take_length])
        have HY := Lib.hid hyes
        obtain ⟨m, rfl⟩ := hm
        clear hyes heq
        go_wp2
        go_ret
        exact ⟨by rw [HY.out]; rfl, m, rfl⟩
  · have hbe : ((l.length : Int) != r.length) = true := by rw [bne_iff_ne]; omega
    have hne : decide (l = r) = false := decide_eq_false_iff_not.2 fun g => hlen (by rw [g])
    have HN := Lib.hid hne
    clear hlen hne
    go_enter Tryd.func14, Tryd.ntmps14
    go_wp2
    go_ret
    exact ⟨by rw [HN.out]; rfl, 0, rfl⟩
end Go.Proofs.YtjldphpdfckjnaaDoor
