/- The law ListingRights: for every mode and kind the law's call returns true and changes nothing that was there. No condition. -/
import Derived.Test.YtebgchjffopicaaLrights2
import Derived.Test.YtebgchjffopicaaLquotes
namespace Go.Proofs.Ytebgchjffopicaa
open Go.RowKit

theorem and4095 (n : Int) : bits .and .i64 n 4095 = n % 4096 := by
  have h1 : (BitVec.ofInt 64 4095).toNat = 2 ^ 12 - 1 := by decide
  have key : (BitVec.ofInt 64 n &&& BitVec.ofInt 64 4095).toNat = (n % ((2 ^ 64 : Nat) : Int)).toNat % 2 ^ 12 := by
    rw [BitVec.toNat_and, BitVec.toNat_ofInt, h1, Nat.and_two_pow_sub_one_eq_mod]
  show IntKind.i64.wrap ((BitVec.ofInt 64 n &&& BitVec.ofInt 64 4095).toNat : Nat) = n % 4096
  rw [key, IntKind.wrap_i64]
  omega

set_option maxHeartbeats 1000000 in
theorem lawRights (m : Int) (k : UInt8) (w : World) :
    Calls Try.prog 4 #[.int .i64 m, .int .u8 k.toNat] w fun e w' => e = .returned (.bool true) ∧ Below w.heap.size w w' := by
  have hq : (rightsL m k == rightsL m k) = true := by simp
  have ha := and4095 m
  have hk := k.toNat_lt
  have hp := prF_rights m k
  by_cases h : 48 ≤ k.toNat ∧ k.toNat ≤ 55
  · rw [if_pos h] at hp
    obtain ⟨h1, h2⟩ := h
    go_enter Try.func4, Try.ntmps4
    go_wp2_with fail
    refine (rights_any _ _ _).mono ?_
    rintro e w1 ⟨rfl, hb1⟩
    go_wp2_with fail
    refine (rrights_any _ _ _).mono ?_
    rintro e w2 ⟨rfl, hb2⟩
    go_wp2_with fail
    refine (parseRights_any _ _).mono ?_
    rintro e w3 ⟨rfl, hb3⟩
    go_wp2_with fail
    refine (awake36 _).mono ?_
    rintro e w4 ⟨rfl, hb4⟩
    go_wp2_with fail
    go_ret
    have z1 := hb1.size
    have z2 := hb2.size
    have z3 := hb3.size
    exact ⟨rfl, ((hb1.trans (hb2.mono (by omega))).trans (hb3.mono (by omega))).trans (hb4.mono (by omega))⟩
  · rw [if_neg h] at hp
    have h3 : (k.toNat : Int) < 48 ∨ 55 < (k.toNat : Int) := by omega
    clear h
    rcases h3 with h3 | h3
    all_goals
      go_enter Try.func4, Try.ntmps4
      go_wp2_with fail
      refine (rights_any _ _ _).mono ?_
      rintro e w1 ⟨rfl, hb1⟩
      go_wp2_with fail
      refine (rrights_any _ _ _).mono ?_
      rintro e w2 ⟨rfl, hb2⟩
      go_wp2_with fail
      refine (parseRights_any _ _).mono ?_
      rintro e w3 ⟨rfl, hb3⟩
      go_wp2_with fail
      refine (awake36 _).mono ?_
      rintro e w4 ⟨rfl, hb4⟩
      go_wp2_with fail
      go_ret
      have z1 := hb1.size
      have z2 := hb2.size
      have z3 := hb3.size
      exact ⟨rfl, ((hb1.trans (hb2.mono (by omega))).trans (hb3.mono (by omega))).trans (hb4.mono (by omega))⟩
end Go.Proofs.Ytebgchjffopicaa
