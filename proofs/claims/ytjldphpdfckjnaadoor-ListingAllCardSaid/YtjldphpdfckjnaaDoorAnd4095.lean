/- The low twelve bits of a number. -/
import Derived.Test.YtjldphpdfckjnaaDoorKit
namespace Go.Proofs.YtjldphpdfckjnaaDoor
open Go.RowKit

theorem and4095 (n : Int) : bits .and .i64 n 4095 = n % 4096 := by
  have h1 : (BitVec.ofInt 64 4095).toNat = 2 ^ 12 - 1 := by decide
  have key : (BitVec.ofInt 64 n &&& BitVec.ofInt 64 4095).toNat = (n % ((2 ^ 64 : Nat) : Int)).toNat % 2 ^ 12 := by
    rw [BitVec.toNat_and, BitVec.toNat_ofInt, h1, Nat.and_two_pow_sub_one_eq_mod]
  show IntKind.i64.wrap ((BitVec.ofInt 64 n &&& BitVec.ofInt 64 4095).toNat : Nat) = n % 4096
  rw [key, IntKind.wrap_i64]
  omega
end Go.Proofs.YtjldphpdfckjnaaDoor
