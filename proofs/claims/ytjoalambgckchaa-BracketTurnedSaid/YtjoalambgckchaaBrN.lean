/- The law BracketTurned, whole. -/
import Derived.Test.YtjoalambgckchaaBrJ
namespace Go.Proofs.Ytjoalambgckchaa
open Go.RowKit

theorem lawTurned (s : ByteArray) (gl : Bool) (w : World) (hmx : ∃ m, w.cell? ⟨0, 0, none⟩ = some (.int .i64 m)) :
    Calls Try.prog 4 #[.string s, .bool gl] w fun e w' => e = .returned (.bool true) ∧ Below w.heap.size w w' := by
  obtain ⟨m, hm⟩ := hmx
  by_cases h1 : 200 < s.size
  · exact turned_awake s gl m w hm (Or.inl h1)
  by_cases h2 : ∃ (h0 : 0 < s.size), (s[0]'h0).toNat = 94 ∨ (s[0]'h0).toNat = 33
  · exact turned_awake s gl m w hm (Or.inr ⟨by omega, h2⟩)
  · have hl : s.data.toList.length ≤ 200 := by rw [size_len]; omega
    refine turned_main s.data.toList gl m w hm hl ?_
    by_cases h3 : s.data.toList = []
    · exact Or.inl h3
    · right
      have h0 : 0 < s.size := by
        rw [← size_len]
        exact List.length_pos_iff.2 h3
      refine ⟨h0, ?_, ?_⟩
      · intro e; exact h2 ⟨h0, Or.inl e⟩
      · intro e; exact h2 ⟨h0, Or.inr e⟩
end Go.Proofs.Ytjoalambgckchaa
