/- The law ListingSigns: for every text the law's call returns true and changes nothing that was there. No condition. -/
import Derived.Test.YtebgchjffopicaaLrights
namespace Go.Proofs.Ytebgchjffopicaa
open Go.RowKit

theorem rights_none (s : List UInt8) (h : prF s = (0, 0, 2)) (m : Int) (k : UInt8) (h1 : 48 ≤ k.toNat) (h2 : k.toNat ≤ 55) : (rightsL m k == s) = false := by
  apply beq_eq_false_iff_ne.2
  intro e
  have := prF_rights m k
  rw [e, h, if_pos ⟨h1, h2⟩] at this
  have := congrArg (fun x => x.2.2) this
  simp at this

theorem rrights_args (x y : Int) (w : World) (k : UInt8) (hy : (k.toNat : Int) = y) :
    Calls Try.prog 16 #[.int .i64 x, .int .u8 y] w fun e w' => e = .returned (.string (S (rightsL x k))) ∧ Below w.heap.size w w' := by
  subst hy
  exact rrights_any _ _ _

set_option maxHeartbeats 2000000 in
theorem lawSigns (s : ByteArray) (w : World) :
    Calls Try.prog 5 #[.string s] w fun e w' => e = .returned (.bool true) ∧ Below w.heap.size w w' := by
  by_cases h40 : 40 < s.size
  · go_enter Try.func5, Try.ntmps5
    go_wp2_with (go_at_call 11; refine (awake36 _).mono ?_; rintro e w1 ⟨rfl, hb1⟩)
    go_ret
    exact ⟨rfl, hb1⟩
  rcases prF_cases s.data.toList with ⟨h0, h1, h2, h3⟩ | hbad
  · have hq : (rightsL (prF s.data.toList).1 (prF s.data.toList).2.1 == s.toList) = true := by rw [ByteArray.toList_eq, h3]; simp
    clear h3
    go_enter Try.func5, Try.ntmps5
    go_wp2_with fail
    refine (parseRights_any _ _).mono ?_
    rintro e w1 ⟨rfl, hb1⟩
    go_wp2_with fail
    refine (rrights_any _ _ _).mono ?_
    rintro e w2 ⟨rfl, hb2⟩
    go_wp2_with fail
    refine (awake36 _).mono ?_
    rintro e w3 ⟨rfl, hb3⟩
    go_wp2_with fail
    go_ret
    have z1 := hb1.size
    have z2 := hb2.size
    exact ⟨rfl, (hb1.trans (hb2.mono (by omega))).trans (hb3.mono (by omega))⟩
  · have Hn := Lib.hid (rights_none _ hbad)
    by_cases h10 : s.size = 10
    · have h10a : 10 ≤ s.size := by omega
      have h10b : ((s.size : Int) != 10) = false := by rw [h10]; rfl
      clear h10
      go_enter Try.func5, Try.ntmps5
      go_wp2_with fail
      refine (parseRights_any _ _).mono ?_
      rintro e w1 ⟨rfl, hb1⟩
      have z1 := hb1.size
      go_wp2_with fail
      go_loopw [6, 7] (fun v i wr => ∃ (t : Nat) (q : Int), 1 ≤ t ∧ t ≤ 10 ∧ i = .int .i64 t ∧ v = .int .i64 q ∧ wr = w1) (fun _ i _ => 10 - (intOf i).toNat)
      case atStart => exact ⟨1, 0, by omega, by omega, rfl, rfl, rfl⟩
      case round =>
        obtain ⟨t, q, ht1, ht, rfl, rfl, rfl⟩ := hrel
        by_cases hlt : t < 10
        · go_wp2
          all_goals
            go_roundw
            case rel => exact ⟨t + 1, _, by omega, by omega, by go_num, rfl, trivial⟩
            case measure => simp [intOf]; omega
        · go_wp2_with fail
          go_loopw [9] (fun v wr => ∃ (k : Nat), 48 ≤ k ∧ k ≤ 56 ∧ v = .int .u8 k ∧ Below w.heap.size w wr) (fun v _ => 56 - (intOf v).toNat)
          case atStart => exact ⟨48, by omega, by omega, rfl, hb1⟩
          case round =>
            obtain ⟨k, hk1, hk2, rfl, hb⟩ := hrel
            by_cases hkl : k < 56
            · have hby := byteI_toNat (k : Int) (by omega) (by omega)
              have Hf := Lib.hid (fun m => Hn.out m (byteI (k : Int)) (by omega) (by omega))
              go_wp2_with fail
              refine (rrights_args _ _ _ (byteI (k : Int)) hby).mono ?_
              rintro e w3 ⟨rfl, hb3⟩
              have hf : ∀ m, (rightsL m (byteI (k : Int)) == s.toList) = false := fun m => by rw [ByteArray.toList_eq]; exact Hf.out m
              go_wp2_with fail
              go_roundw
              case rel => exact ⟨k + 1, by omega, by omega, by go_num, hb.trans (hb3.mono hb.size)⟩
              case measure => simp [intOf]; omega
            · go_wp2_with (go_at_call 11; refine (awake36 _).mono ?_; rintro e w3 ⟨rfl, hb3⟩)
              go_ret
              exact ⟨rfl, hb.trans (hb3.mono hb.size)⟩
    · have h10b : ((s.size : Int) != 10) = true := bne_iff_ne.2 (by omega)
      go_enter Try.func5, Try.ntmps5
      go_wp2_with fail
      refine (parseRights_any _ _).mono ?_
      rintro e w1 ⟨rfl, hb1⟩
      go_wp2_with fail
      refine (awake36 _).mono ?_
      rintro e w3 ⟨rfl, hb3⟩
      go_wp2_with fail
      go_ret
      exact ⟨rfl, hb1.trans (hb3.mono hb1.size)⟩
end Go.Proofs.Ytebgchjffopicaa
