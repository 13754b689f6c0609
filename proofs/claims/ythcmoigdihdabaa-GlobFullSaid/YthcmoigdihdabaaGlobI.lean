/- The law GlobFull, walked: plain part. -/
import Derived.Test.YthcmoigdihdabaaGlobH
namespace Go.Proofs.Ythcmoigdihdabaa
open Go.RowKit
attribute [local irreducible] wordP

/-- the text of so many tokens -/
def fullB (i : Nat) : UInt8 := if i % 3 = 0 then 63 else if i % 3 = 1 then 42 else 97
def fullT (i : Nat) : Tk := if i % 3 = 0 then .any else if i % 3 = 1 then .star else .byte 97
def fullL (n : Nat) : List UInt8 := (List.range n).map fullB
theorem fullL_len (n : Nat) : (fullL n).length = n := by simp [fullL]
theorem fullL_get (n i : Nat) (h : i < n) : (fullL n)[i]? = some (fullB i) := by
  unfold fullL
  rw [List.getElem?_map, List.getElem?_range h]
  rfl
theorem tok_full (n i : Nat) (h : i < n) : tokF (fullL n) i = some (fullT i, 1) := by
  unfold tokF
  rw [fullL_get n i h]
  unfold fullB fullT
  have : i % 3 < 3 := Nat.mod_lt _ (by decide)
  by_cases h0 : i % 3 = 0
  · simp [h0]
  · by_cases h1 : i % 3 = 1
    · simp [h1]
    · simp [h0, h1]
theorem parse_full (n : Nat) : ∀ (d f k : Nat) (out : List Tk), d = n - k → k ≤ n → out.length = k → k ≤ 1024 → d < f → ∃ l, (n ≤ 1024 → parseG (fullL n) f k out = some (l, 0, 0) ∧ l.length = n) ∧ (1024 < n → parseG (fullL n) f k out = some ([], 1024, 8)) := by
  intro d
  induction d with
  | zero =>
    intro f k out hd hk ho h10 hf
    obtain ⟨f, rfl⟩ : ∃ g, f = g + 1 := ⟨f - 1, by omega⟩
    refine ⟨out, fun _ => ⟨by rw [parseG, fullL_len, if_pos (by omega)], by omega⟩, fun h => by omega⟩
  | succ d ih =>
    intro f k out hd hk ho h10 hf
    obtain ⟨f, rfl⟩ : ∃ g, f = g + 1 := ⟨f - 1, by omega⟩
    by_cases hfull : k = 1024
    · refine ⟨[], fun h => by omega, fun _ => ?_⟩
      rw [parseG, fullL_len, if_neg (by omega), if_pos (by omega), hfull]
    · obtain ⟨l, h1, h2⟩ := ih f (k + 1) (out ++ [fullT k]) (by omega) (by omega) (by simp [ho]) (by omega) (by omega)
      have e : parseG (fullL n) (f + 1) k out = parseG (fullL n) f (k + 1) (out ++ [fullT k]) := by
        rw [parseG, fullL_len, if_neg (by omega), if_neg (by omega), tok_full n k (by omega)]
      rw [e]
      exact ⟨l, h1, h2⟩
theorem fullL_snoc (i : Nat) : fullL (i + 1) = fullL i ++ [fullB i] := by
  unfold fullL
  rw [List.range_succ, List.map_append]
  rfl
end Go.Proofs.Ythcmoigdihdabaa
