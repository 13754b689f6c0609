/- Maps with holes: a map's text, and what a text says, in plain words. -/
import Derived.Test.YtnemjfojlgjkfaaDoorShrQ
import Derived.Test.YtnemjfojlgjkfaaDoorNetP
import Derived.Test.YtnemjfojlgjkfaaDoorCutC
namespace Go.Proofs.YtnemjfojlgjkfaaDoor
open Go.RowKit Go.Lib

def lineI (x : Int) : List UInt8 := decDigits x.toNat ++ [10]
def txM (size : Int) (l : Pcs) : List UInt8 := lineI (l.length : Int) ++ lineI size ++ l.flatMap (fun p => lineI p.1 ++ lineI p.2)
/-- the line at a place as a number: it, the place behind it; an error's number -/
def numF (s : List UInt8) (k : Nat) : Nat × Nat × Nat :=
  if s.length ≤ k + (twC 10 (s.drop k)).length then (0, 0, 3)
  else if (twC 10 (s.drop k)).length < 1 ∨ 13 < (twC 10 (s.drop k)).length ∨ (1 < (twC 10 (s.drop k)).length ∧ (twC 10 (s.drop k)).head? = some 48) then (0, 0, 2)
  else if (twC 10 (s.drop k)).all dg = true then (decN (twC 10 (s.drop k)), k + (twC 10 (s.drop k)).length + 1, 0) else (0, 0, 2)
/-- so many pieces from a place on: they, the place behind them; an error's number -/
def pcsF (s : List UInt8) : Nat → Nat → Pcs → Pcs × Nat × Nat
  | 0, k, out => (out, k, 0)
  | n + 1, k, out =>
    if (numF s k).2.2 ≠ 0 then ([], 0, (numF s k).2.2)
    else if (numF s (numF s k).2.1).2.2 ≠ 0 then ([], 0, (numF s (numF s k).2.1).2.2)
    else pcsF s n (numF s (numF s k).2.1).2.1 (out ++ [(((numF s k).1 : Int), ((numF s (numF s k).2.1).1 : Int))])
/-- a text's map: size, pieces, the place behind it; an error's number -/
def parM (s : List UInt8) : Int × Pcs × Nat × Nat :=
  if (numF s 0).2.2 ≠ 0 then (0, [], 0, (numF s 0).2.2)
  else if 4096 < (numF s 0).1 then (0, [], 0, 8)
  else if (numF s (numF s 0).2.1).2.2 ≠ 0 then (0, [], 0, (numF s (numF s 0).2.1).2.2)
  else
    let r := pcsF s (numF s 0).1 (numF s (numF s 0).2.1).2.1 []
    if r.2.2 ≠ 0 then (0, [], 0, r.2.2)
    else if mapB (numF s (numF s 0).2.1).1 r.1 = true then ((numF s (numF s 0).2.1).1, r.1, r.2.1, 0) else (0, [], 0, 6)
end Go.Proofs.YtnemjfojlgjkfaaDoor
