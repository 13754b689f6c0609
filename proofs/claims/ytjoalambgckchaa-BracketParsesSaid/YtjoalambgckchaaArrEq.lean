import Derived.Test.YtjoalambgckchaaClassA
namespace Go.Proofs.Ytjoalambgckchaa
open Go.RowKit
theorem eq_u64 (d : Nat) (a b : Int) (w : World) : (Op.equalIn (d + 1) 23 (.int .u64 a) (.int .u64 b)).run Try.prog w = .ok (a == b) w := by
  simp [Op.equalIn, run_underlying Try.underlying23]
theorem eq_set_d (dd : Nat) (a b c d a' b' c' d' : Int) (w : World) :
    (Op.equalIn (dd + 2) 25 (.agg #[.int .u64 a, .int .u64 b, .int .u64 c, .int .u64 d]) (.agg #[.int .u64 a', .int .u64 b', .int .u64 c', .int .u64 d'])).run Try.prog w = .ok (a == a' && b == b' && c == c' && d == d') w := by
  rw [Op.equalIn]
  simp only [Sem.run_bind, run_underlying Try.underlying25, Result.andThen_ok]
  rw [show (sizeOf 23).run Try.prog w = .ok 1 w from by kernel_rfl]
  simp only [Result.andThen_ok, Nat.mul_one]
  have hp : ∀ (e f g h : Value) (i : Nat) (w : World), i < 4 → (part 23 #[e, f, g, h] i).run Try.prog w = .ok (#[e, f, g, h].getD i undef) w := by
    intro e f g h i w hi
    obtain rfl | rfl | rfl | rfl : i = 0 ∨ i = 1 ∨ i = 2 ∨ i = 3 := by omega
    all_goals kernel_rfl
  rw [Std.Legacy.Range.forIn_eq_forIn_range']
  simp only [Std.Legacy.Range.size]
  simp [List.range', hp, eq_u64, Sem.run_bind]
  by_cases h1 : a = a' <;> by_cases h2 : b = b' <;> by_cases h3 : c = c' <;> by_cases h4 : d = d' <;> simp [h1, h2, h3, h4]
@[go_sem] theorem eq_set (a b c d a' b' c' d' : Int) (w : World) :
    (Op.equalIn 10000 25 (.agg #[.int .u64 a, .int .u64 b, .int .u64 c, .int .u64 d]) (.agg #[.int .u64 a', .int .u64 b', .int .u64 c', .int .u64 d'])).run Try.prog w = .ok (a == a' && b == b' && c == c' && d == d') w := eq_set_d 9998 a b c d a' b' c' d' w
end Go.Proofs.Ytjoalambgckchaa
