/- Two pairs of texts, held against each other. -/
import Derived.Test.YtjoalambgckchaaDoorRecE
namespace Go.Proofs.YtjoalambgckchaaDoor
open Go.RowKit Go.Lib

theorem eq_pair (a b c d : ByteArray) (w : World) :
    (Op.equalIn 10000 25 (.agg #[.string a, .string b]) (.agg #[.string c, .string d])).run Tryd.prog w = .ok ((a.toList == c.toList) && (b.toList == d.toList)) w := by
  rw [run_equalIn_agg w 9999 25 _ _ (by kernel_rfl) (by kernel_rfl)]
  simp [go_sem, Op.eqFields]
  by_cases h1 : a.toList = c.toList <;> by_cases h2 : b.toList = d.toList <;> simp [h1, h2]
def eqP (a b : PR) : Bool := (a.1 == b.1) && (a.2 == b.2)
theorem eqP_iff (a b : PR) : eqP a b = true ↔ a = b := by
  unfold eqP
  rw [Bool.and_eq_true, beq_iff_eq, beq_iff_eq]
  exact ⟨fun h => Prod.ext h.1 h.2, fun h => by rw [h]; exact ⟨rfl, rfl⟩⟩
@[go_sem high] theorem neq_pair (a b c d : List UInt8) (w : World) :
    (binOp .neq 25 (.agg #[.string (S a), .string (S b)]) (.agg #[.string (S c), .string (S d)])).run Tryd.prog w = .ok (.bool (!eqP (a, b) (c, d))) w := by
  rw [run_neq_struct, eq_pair]
  simp [eqP]
@[go_sem high] theorem eql_pair (a b c d : List UInt8) (w : World) :
    (binOp .eql 25 (.agg #[.string (S a), .string (S b)]) (.agg #[.string (S c), .string (S d)])).run Tryd.prog w = .ok (.bool (eqP (a, b) (c, d))) w := by
  rw [run_eql_struct, eq_pair]
  simp [eqP]
end Go.Proofs.YtjoalambgckchaaDoor
