/- The law ClassFolds: for every text and byte the law's call returns true and changes nothing that was there. No condition. -/
import Derived.Test.YtebgchjffopicaaLclass
import Derived.Test.YtebgchjffopicaaArrEq
import Derived.Deep.RegionHeld3
namespace Go.Proofs.Ytebgchjffopicaa
open Go.RowKit
attribute [local irreducible] wordP

theorem ofP_mem (l : List UInt8) (n : Nat) : ofP l n = true ↔ ∃ b ∈ l, b.toNat = n := by
  simp [ofP]
theorem fold_of (l : List UInt8) (n : Nat) : foldP (ofP l) n = ofP (foldL l) n := by
  rw [Bool.eq_iff_iff]
  simp only [foldP, Bool.or_eq_true, Bool.and_eq_true, decide_eq_true_eq, ofP_mem, foldL, List.mem_append, List.mem_map]
  constructor
  · rintro (⟨b, h1, h2⟩ | ⟨⟨g1, g2⟩, b, h1, h2⟩ | ⟨⟨g1, g2⟩, b, h1, h2⟩)
    · exact ⟨b, .inl h1, h2⟩
    · exact ⟨otherB b, .inr ⟨b, h1, rfl⟩, by rcases rother_facts b with ⟨_, _, h⟩ | ⟨_, _, h⟩ | ⟨h, _⟩ <;> omega⟩
    · exact ⟨otherB b, .inr ⟨b, h1, rfl⟩, by rcases rother_facts b with ⟨_, _, h⟩ | ⟨_, _, h⟩ | ⟨h, _⟩ <;> omega⟩
  · rintro ⟨b, h1 | ⟨c, h1, rfl⟩, h2⟩
    · exact .inl ⟨b, h1, h2⟩
    · rcases rother_facts c with ⟨q1, q2, h⟩ | ⟨q1, q2, h⟩ | ⟨_, h⟩
      · exact .inr (.inr ⟨⟨by omega, by omega⟩, c, h1, by omega⟩)
      · exact .inr (.inl ⟨⟨by omega, by omega⟩, c, h1, by omega⟩)
      · exact .inl ⟨c, h1, by rw [← h]; exact h2⟩
theorem fold_fold (p : Nat → Bool) : foldP (foldP p) = foldP p := by
  funext n
  rw [Bool.eq_iff_iff]
  simp only [foldP, Bool.or_eq_true, Bool.and_eq_true, decide_eq_true_eq]
  constructor
  · rintro ((h | h | h) | ⟨⟨g1, g2⟩, h | ⟨⟨h1, h2⟩, h⟩ | ⟨⟨h1, h2⟩, h⟩⟩ | ⟨⟨g1, g2⟩, h | ⟨⟨h1, h2⟩, h⟩ | ⟨⟨h1, h2⟩, h⟩⟩)
    · exact .inl h
    · exact .inr (.inl h)
    · exact .inr (.inr h)
    · exact .inr (.inl ⟨⟨g1, g2⟩, h⟩)
    · omega
    · rw [show n + 32 - 32 = n from by omega] at h; exact .inl h
    · exact .inr (.inr ⟨⟨g1, g2⟩, h⟩)
    · rw [show n - 32 + 32 = n from by omega] at h; exact .inl h
    · omega
  · intro h; exact .inl h

set_option maxRecDepth 100000 in
set_option maxHeartbeats 1000000 in
theorem lawFolds (s : ByteArray) (b : UInt8) (w : World) :
    Calls Try.prog 9 #[.string s, .int .u8 b.toNat] w fun e w' => e = .returned (.bool true) ∧ Below w.heap.size w w' := by
  have hx0 : Below w.heap.size w w := Below.refl _ _
  by_cases h300 : 300 < s.size
  · go_enter Try.func9, Try.ntmps9
    go_wp2_with fail
    refine (awake13 _).mono ?_
    rintro e w1 ⟨rfl, hb1⟩
    have hx1 : Below w.heap.size w w1 := hx0.trans ((show Below w.heap.size _ _ by first | exact Below.refl _ _ | (have := hx0.size; go_grown)).trans (hb1.mono (by have := hx0.size; first | omega | (simp; done) | (simp; omega))))
    go_wp2_with fail
    go_ret
    exact ⟨rfl, hx1⟩
  · have hq : (bytesP (foldP (ofP s.data.toList)) == bytesP (ofP (foldL s.data.toList))) = true := by rw [bytesP_ext _ _ fun n _ => fold_of s.data.toList n]; simp
    have hff := fold_fold (ofP s.data.toList)
    go_enter Try.func9, Try.ntmps9
    go_wp2_with fail
    refine (of_any _ _ (by omega)).mono ?_
    rintro e w1 ⟨rfl, hb1⟩
    have hx1 : Below w.heap.size w w1 := hx0.trans ((show Below w.heap.size _ _ by first | exact Below.refl _ _ | (have := hx0.size; go_grown)).trans (hb1.mono (by have := hx0.size; first | omega | (simp; done) | (simp; omega))))
    go_wp2_with fail
    rw [← SetV_def]
    refine (fold_any _ _).mono ?_
    rintro e w2 ⟨rfl, hb2⟩
    have hx2 : Below w.heap.size w w2 := hx1.trans ((show Below w.heap.size _ _ by first | exact Below.refl _ _ | (have := hx1.size; go_grown)).trans (hb2.mono (by have := hx1.size; first | omega | (simp; done) | (simp; omega))))
    go_wp2_with fail
    have hS := set_alloc w2 (foldP (ofP s.data.toList)) 35
    have hxx := hx2.trans ((show Below w.heap.size w2 _ by have := hx2.size; exact (Below.refl _ _).alloc this (.cells #[.int .u64 (wordP (foldP (ofP s.data.toList)) 0), .int .u64 (wordP (foldP (ofP s.data.toList)) 1), .int .u64 (wordP (foldP (ofP s.data.toList)) 2), .int .u64 (wordP (foldP (ofP s.data.toList)) 3)] 35)))
    have hlt : w2.heap.size < (w2.alloc (.cells #[.int .u64 (wordP (foldP (ofP s.data.toList)) 0), .int .u64 (wordP (foldP (ofP s.data.toList)) 1), .int .u64 (wordP (foldP (ofP s.data.toList)) 2), .int .u64 (wordP (foldP (ofP s.data.toList)) 3)] 35)).heap.size := by simp
    generalize (w2.alloc (.cells #[.int .u64 (wordP (foldP (ofP s.data.toList)) 0), .int .u64 (wordP (foldP (ofP s.data.toList)) 1), .int .u64 (wordP (foldP (ofP s.data.toList)) 2), .int .u64 (wordP (foldP (ofP s.data.toList)) 3)] 35)) = W at hS hxx hlt ⊢
    generalize w2.heap.size = g at hS hlt ⊢
    clear hx0 hx1 hx2 hb1 hb2
    have hx2 : Below W.heap.size W W := Below.refl _ _
    obtain ⟨a0, a1, a2, a3⟩ := hS.four
    go_region_held3 (fun w' => w'.cell? ⟨g, 0, none⟩ = some (.int .u64 (wordP (foldP (ofP s.data.toList)) 0)) ∧ w'.cell? ⟨g, 1, none⟩ = some (.int .u64 (wordP (foldP (ofP s.data.toList)) 1)) ∧ w'.cell? ⟨g, 2, none⟩ = some (.int .u64 (wordP (foldP (ofP s.data.toList)) 2)) ∧ w'.cell? ⟨g, 3, none⟩ = some (.int .u64 (wordP (foldP (ofP s.data.toList)) 3))) (go_keep) (first
      | (go_at_call 22; rw [← SetV_def]; refine (bytes_any _ _).mono ?_; rintro e w3 ⟨rfl, hb3⟩; have zx2 := hx2.size; have hx3 : Below W.heap.size W w3 := hx2.trans ((show Below W.heap.size _ _ by go_grown).trans (hb3.mono (by first | omega | (simp; done) | (simp; omega)))); obtain ⟨e30, e31, e32, e33⟩ := (hS.below hx3 hlt).four)
      | (go_at_call 35; refine (rfold_any _ _ (by omega)).mono ?_; rintro e w4 ⟨rfl, hb4⟩; have zx3 := hx3.size; have hx4 : Below W.heap.size W w4 := hx3.trans ((show Below W.heap.size _ _ by go_grown).trans (hb4.mono (by first | omega | (simp; done) | (simp; omega)))); obtain ⟨e40, e41, e42, e43⟩ := (hS.below hx4 hlt).four)
      | (go_at_call 34; rw [← SetV_def]; refine (fold_any _ _).mono ?_; rintro e w5 ⟨rfl, hb5⟩; have zx4 := hx4.size; have hx5 : Below W.heap.size W w5 := hx4.trans ((show Below W.heap.size _ _ by go_grown).trans (hb5.mono (by first | omega | (simp; done) | (simp; omega)))); obtain ⟨e50, e51, e52, e53⟩ := (hS.below hx5 hlt).four)
      | (go_at_call 36; refine (other_any _ _).mono ?_; rintro e w' ⟨rfl, rfl⟩)
      | (go_at_call 37; refine (rother_any _ _).mono ?_; rintro e w' ⟨rfl, rfl⟩)
      | (go_at_call 18; refine (awake13 _).mono ?_; rintro e w6 ⟨rfl, hb6⟩; have zx5 := hx5.size; have hx6 : Below W.heap.size W w6 := hx5.trans ((show Below W.heap.size _ _ by go_grown).trans (hb6.mono (by first | omega | (simp; done) | (simp; omega)))); obtain ⟨e60, e61, e62, e63⟩ := (hS.below hx6 hlt).four))
    go_wp2_with fail
    go_ret
    exact ⟨rfl, hxx.trans (hx6.mono hxx.size)⟩
end Go.Proofs.Ytebgchjffopicaa
