/- The law ClassSets: for every two texts and every byte the law's call returns true and changes nothing that was there. No condition. -/
import Derived.Test.YtebgchjffopicaaLsame
namespace Go.Proofs.Ytebgchjffopicaa
open Go.RowKit
attribute [local irreducible] wordP

theorem without_bytes (p : Nat → Bool) (m : List UInt8) : withoutL (bytesP p) m = bytesP (fun n => p n && !(ofP m n)) := by
  unfold withoutL bytesP bytesTo
  rw [List.filter_map, List.filter_filter]
  congr 1
  apply List.filter_congr
  intro n hn
  have := ofP_in m n (List.mem_range.1 hn)
  simp only [Function.comp_apply, this]
  rw [Bool.and_comm]
theorem ofP_bytes (r : Nat → Bool) (n : Nat) (hn : n < 256) : ofP (bytesP r) n = r n := by
  rw [← ofP_in _ n hn, Bool.eq_iff_iff, ← mem_bytes r n hn]
  simp [inL, List.any_eq_true]
theorem g_and (p : Nat → Bool) (m : List UInt8) : (bytesP (andP p (ofP m)) == withoutL (bytesP p) (withoutL (bytesP p) m)) = true := by
  rw [without_bytes p m, without_bytes, beq_iff_eq]
  apply bytesP_ext
  intro n hn
  rw [ofP_bytes _ n hn]
  unfold andP
  cases p n <;> cases ofP m n <;> rfl
theorem g_not (l : List UInt8) : (bytesP (notP (ofP l)) == withoutL (bytesP (rangeP 0 255)) l) = true := by
  rw [without_bytes, beq_iff_eq]
  apply bytesP_ext
  intro n hn
  have : rangeP 0 255 n = true := by simp [rangeP]; omega
  rw [this, Bool.true_and]
  rfl
theorem g_or (l m : List UInt8) : orP (ofP l) (ofP m) = ofP (l ++ m) := by
  funext n
  simp [orP, ofP]
theorem data_app (s t : ByteArray) : (s ++ t).data.toList = s.data.toList ++ t.data.toList := by
  have := S_append s.data.toList t.data.toList
  exact congrArg (fun b : ByteArray => b.data.toList) this
theorem without_len (l m : List UInt8) : (withoutL l m).length ≤ l.length := List.length_filter_le _ _

set_option maxRecDepth 100000 in
set_option maxHeartbeats 2000000 in
theorem lawSets (s t : ByteArray) (c : UInt8) (w : World) :
    Calls Try.prog 6 #[.string s, .string t, .int .u8 c.toNat] w fun e w' => e = .returned (.bool true) ∧ Below w.heap.size w w' := by
  have hx0 : Below w.heap.size w w := Below.refl _ _
  by_cases hl : s.size ≤ 300 ∧ t.size ≤ 300
  · obtain ⟨h1, h2⟩ := hl
    have hc := c.toNat_lt
    have e1 := g_and (ofP s.data.toList) t.data.toList
    have e2 := g_not s.data.toList
    have e3 := g_or s.data.toList t.data.toList
    have e4 := data_app s t
    have e5 : inL c s.data.toList = ofP s.data.toList c.toNat := by rw [← ofP_in _ _ hc]; simp
    have k1 := bl (ofP s.data.toList)
    have k2 := without_len (bytesP (ofP s.data.toList)) t.data.toList
    have k3 := bl (rangeP 0 255)
    go_enter Try.func6, Try.ntmps6
    go_wp2_with fail
    refine (of_any _ _ (by omega)).mono ?_
    rintro e w1 ⟨rfl, hb1⟩
    have hx1 : Below w.heap.size w w1 := hx0.trans ((show Below w.heap.size _ _ by first | exact Below.refl _ _ | (have := hx0.size; go_grown)).trans (hb1.mono (by have := hx0.size; first | omega | (simp; done) | (simp; omega))))
    go_wp2_with fail
    refine (of_any _ _ (by omega)).mono ?_
    rintro e w2 ⟨rfl, hb2⟩
    have hx2 : Below w.heap.size w w2 := hx1.trans ((show Below w.heap.size _ _ by first | exact Below.refl _ _ | (have := hx1.size; go_grown)).trans (hb2.mono (by have := hx1.size; first | omega | (simp; done) | (simp; omega))))
    go_wp2_with fail
    have hP := (set_alloc w2 (ofP s.data.toList) 35).alloc (by simp) (.cells #[.int .u64 (wordP (ofP t.data.toList) 0), .int .u64 (wordP (ofP t.data.toList) 1), .int .u64 (wordP (ofP t.data.toList) 2), .int .u64 (wordP (ofP t.data.toList) 3)] 35)
    have hQ := set_alloc (w2.alloc (.cells #[.int .u64 (wordP (ofP s.data.toList) 0), .int .u64 (wordP (ofP s.data.toList) 1), .int .u64 (wordP (ofP s.data.toList) 2), .int .u64 (wordP (ofP s.data.toList) 3)] 35)) (ofP t.data.toList) 35
    have hxx : Below w.heap.size w ((w2.alloc (.cells #[.int .u64 (wordP (ofP s.data.toList) 0), .int .u64 (wordP (ofP s.data.toList) 1), .int .u64 (wordP (ofP s.data.toList) 2), .int .u64 (wordP (ofP s.data.toList) 3)] 35)).alloc (.cells #[.int .u64 (wordP (ofP t.data.toList) 0), .int .u64 (wordP (ofP t.data.toList) 1), .int .u64 (wordP (ofP t.data.toList) 2), .int .u64 (wordP (ofP t.data.toList) 3)] 35)) := hx2.trans (by have := hx2.size; exact ((Below.refl _ _).alloc this _).alloc (by simp; omega) _)
    have hg0 : w2.heap.size < ((w2.alloc (.cells #[.int .u64 (wordP (ofP s.data.toList) 0), .int .u64 (wordP (ofP s.data.toList) 1), .int .u64 (wordP (ofP s.data.toList) 2), .int .u64 (wordP (ofP s.data.toList) 3)] 35)).alloc (.cells #[.int .u64 (wordP (ofP t.data.toList) 0), .int .u64 (wordP (ofP t.data.toList) 1), .int .u64 (wordP (ofP t.data.toList) 2), .int .u64 (wordP (ofP t.data.toList) 3)] 35)).heap.size := by simp; omega
    have hg1 : w2.heap.size + 1 < ((w2.alloc (.cells #[.int .u64 (wordP (ofP s.data.toList) 0), .int .u64 (wordP (ofP s.data.toList) 1), .int .u64 (wordP (ofP s.data.toList) 2), .int .u64 (wordP (ofP s.data.toList) 3)] 35)).alloc (.cells #[.int .u64 (wordP (ofP t.data.toList) 0), .int .u64 (wordP (ofP t.data.toList) 1), .int .u64 (wordP (ofP t.data.toList) 2), .int .u64 (wordP (ofP t.data.toList) 3)] 35)).heap.size := by simp
    rw [World.size_alloc] at hQ
    generalize (w2.alloc (.cells #[.int .u64 (wordP (ofP s.data.toList) 0), .int .u64 (wordP (ofP s.data.toList) 1), .int .u64 (wordP (ofP s.data.toList) 2), .int .u64 (wordP (ofP s.data.toList) 3)] 35)).alloc (.cells #[.int .u64 (wordP (ofP t.data.toList) 0), .int .u64 (wordP (ofP t.data.toList) 1), .int .u64 (wordP (ofP t.data.toList) 2), .int .u64 (wordP (ofP t.data.toList) 3)] 35) = W at hP hQ hxx hg0 hg1 ⊢
    generalize w2.heap.size = g at hP hQ hg0 hg1 ⊢
    clear hb1 hb2 hx0 hx1 hx2
    have hx2 : Below W.heap.size W W := Below.refl _ _
    refine (sorted_any _ _ (by omega)).mono ?_
    rintro e w3 ⟨rfl, hb3⟩
    have hx3 : Below W.heap.size W w3 := hx2.trans ((show Below W.heap.size _ _ by first | exact Below.refl _ _ | (have := hx2.size; go_grown)).trans (hb3.mono (by have := hx2.size; first | omega | (simp; done) | (simp; omega))))
    obtain ⟨p30, p31, p32, p33⟩ := (hP.below hx3 hg0).four
    obtain ⟨q30, q31, q32, q33⟩ := (hQ.below hx3 hg1).four
    go_wp2_with fail
    refine (sorted_any _ _ (by omega)).mono ?_
    rintro e w4 ⟨rfl, hb4⟩
    have hx4 : Below W.heap.size W w4 := hx3.trans ((show Below W.heap.size _ _ by first | exact Below.refl _ _ | (have := hx3.size; go_grown)).trans (hb4.mono (by have := hx3.size; first | omega | (simp; done) | (simp; omega))))
    obtain ⟨p40, p41, p42, p43⟩ := (hP.below hx4 hg0).four
    obtain ⟨q40, q41, q42, q43⟩ := (hQ.below hx4 hg1).four
    clear p30 p31 p32 p33 q30 q31 q32 q33
    go_wp2_with fail
    refine (without_any _ _ _ (by simp; omega) (by omega)).mono ?_
    rintro e w5 ⟨rfl, hb5⟩
    have hx5 : Below W.heap.size W w5 := hx4.trans ((show Below W.heap.size _ _ by first | exact Below.refl _ _ | (have := hx4.size; go_grown)).trans (hb5.mono (by have := hx4.size; first | omega | (simp; done) | (simp; omega))))
    obtain ⟨p50, p51, p52, p53⟩ := (hP.below hx5 hg0).four
    obtain ⟨q50, q51, q52, q53⟩ := (hQ.below hx5 hg1).four
    clear p40 p41 p42 p43 q40 q41 q42 q43
    go_wp2_with fail
    refine (without_any _ _ _ (by simp; omega) (by simp; omega)).mono ?_
    rintro e w6 ⟨rfl, hb6⟩
    have hx6 : Below W.heap.size W w6 := hx5.trans ((show Below W.heap.size _ _ by first | exact Below.refl _ _ | (have := hx5.size; go_grown)).trans (hb6.mono (by have := hx5.size; first | omega | (simp; done) | (simp; omega))))
    obtain ⟨p60, p61, p62, p63⟩ := (hP.below hx6 hg0).four
    obtain ⟨q60, q61, q62, q63⟩ := (hQ.below hx6 hg1).four
    clear p50 p51 p52 p53 q50 q51 q52 q53
    go_wp2_with fail
    rw [← SetV_def]
    refine (bytes_any _ _).mono ?_
    rintro e w7 ⟨rfl, hb7⟩
    have hx7 : Below W.heap.size W w7 := hx6.trans ((show Below W.heap.size _ _ by first | exact Below.refl _ _ | (have := hx6.size; go_grown)).trans (hb7.mono (by have := hx6.size; first | omega | (simp; done) | (simp; omega))))
    obtain ⟨p70, p71, p72, p73⟩ := (hP.below hx7 hg0).four
    obtain ⟨q70, q71, q72, q73⟩ := (hQ.below hx7 hg1).four
    clear p60 p61 p62 p63 q60 q61 q62 q63
    go_wp2_with fail
    refine (sorted_any _ _ (by omega)).mono ?_
    rintro e w8 ⟨rfl, hb8⟩
    have hx8 : Below W.heap.size W w8 := hx7.trans ((show Below W.heap.size _ _ by first | exact Below.refl _ _ | (have := hx7.size; go_grown)).trans (hb8.mono (by have := hx7.size; first | omega | (simp; done) | (simp; omega))))
    obtain ⟨p80, p81, p82, p83⟩ := (hP.below hx8 hg0).four
    obtain ⟨q80, q81, q82, q83⟩ := (hQ.below hx8 hg1).four
    clear p70 p71 p72 p73 q70 q71 q72 q73
    go_wp2_with fail
    rw [← SetV_def, ← SetV_def]
    refine (or_any _ _ _).mono ?_
    rintro e w9 ⟨rfl, hb9⟩
    have hx9 : Below W.heap.size W w9 := hx8.trans ((show Below W.heap.size _ _ by first | exact Below.refl _ _ | (have := hx8.size; go_grown)).trans (hb9.mono (by have := hx8.size; first | omega | (simp; done) | (simp; omega))))
    obtain ⟨p90, p91, p92, p93⟩ := (hP.below hx9 hg0).four
    obtain ⟨q90, q91, q92, q93⟩ := (hQ.below hx9 hg1).four
    clear p80 p81 p82 p83 q80 q81 q82 q83
    go_wp2_with fail
    rw [← SetV_def]
    refine (bytes_any _ _).mono ?_
    rintro e w10 ⟨rfl, hb10⟩
    have hx10 : Below W.heap.size W w10 := hx9.trans ((show Below W.heap.size _ _ by first | exact Below.refl _ _ | (have := hx9.size; go_grown)).trans (hb10.mono (by have := hx9.size; first | omega | (simp; done) | (simp; omega))))
    obtain ⟨p100, p101, p102, p103⟩ := (hP.below hx10 hg0).four
    obtain ⟨q100, q101, q102, q103⟩ := (hQ.below hx10 hg1).four
    clear p90 p91 p92 p93 q90 q91 q92 q93
    go_wp2_with fail
    refine (sorted_any _ _ (by simp; omega)).mono ?_
    rintro e w11 ⟨rfl, hb11⟩
    have hx11 : Below W.heap.size W w11 := hx10.trans ((show Below W.heap.size _ _ by first | exact Below.refl _ _ | (have := hx10.size; go_grown)).trans (hb11.mono (by have := hx10.size; first | omega | (simp; done) | (simp; omega))))
    obtain ⟨p110, p111, p112, p113⟩ := (hP.below hx11 hg0).four
    obtain ⟨q110, q111, q112, q113⟩ := (hQ.below hx11 hg1).four
    clear p100 p101 p102 p103 q100 q101 q102 q103
    go_wp2_with fail
    rw [← SetV_def, ← SetV_def]
    refine (and_any _ _ _).mono ?_
    rintro e w12 ⟨rfl, hb12⟩
    have hx12 : Below W.heap.size W w12 := hx11.trans ((show Below W.heap.size _ _ by first | exact Below.refl _ _ | (have := hx11.size; go_grown)).trans (hb12.mono (by have := hx11.size; first | omega | (simp; done) | (simp; omega))))
    obtain ⟨p120, p121, p122, p123⟩ := (hP.below hx12 hg0).four
    obtain ⟨q120, q121, q122, q123⟩ := (hQ.below hx12 hg1).four
    clear p110 p111 p112 p113 q110 q111 q112 q113
    go_wp2_with fail
    rw [← SetV_def]
    refine (bytes_any _ _).mono ?_
    rintro e w13 ⟨rfl, hb13⟩
    have hx13 : Below W.heap.size W w13 := hx12.trans ((show Below W.heap.size _ _ by first | exact Below.refl _ _ | (have := hx12.size; go_grown)).trans (hb13.mono (by have := hx12.size; first | omega | (simp; done) | (simp; omega))))
    obtain ⟨p130, p131, p132, p133⟩ := (hP.below hx13 hg0).four
    obtain ⟨q130, q131, q132, q133⟩ := (hQ.below hx13 hg1).four
    clear p120 p121 p122 p123 q120 q121 q122 q123
    go_wp2_with fail
    rw [← SetV_def]
    refine (not_any _ _).mono ?_
    rintro e w14 ⟨rfl, hb14⟩
    have hx14 : Below W.heap.size W w14 := hx13.trans ((show Below W.heap.size _ _ by first | exact Below.refl _ _ | (have := hx13.size; go_grown)).trans (hb14.mono (by have := hx13.size; first | omega | (simp; done) | (simp; omega))))
    obtain ⟨p140, p141, p142, p143⟩ := (hP.below hx14 hg0).four
    obtain ⟨q140, q141, q142, q143⟩ := (hQ.below hx14 hg1).four
    clear p130 p131 p132 p133 q130 q131 q132 q133
    go_wp2_with fail
    rw [← SetV_def]
    refine (bytes_any _ _).mono ?_
    rintro e w15 ⟨rfl, hb15⟩
    have hx15 : Below W.heap.size W w15 := hx14.trans ((show Below W.heap.size _ _ by first | exact Below.refl _ _ | (have := hx14.size; go_grown)).trans (hb15.mono (by have := hx14.size; first | omega | (simp; done) | (simp; omega))))
    obtain ⟨p150, p151, p152, p153⟩ := (hP.below hx15 hg0).four
    obtain ⟨q150, q151, q152, q153⟩ := (hQ.below hx15 hg1).four
    clear p140 p141 p142 p143 q140 q141 q142 q143
    go_wp2_with fail
    refine (bt_any 0 255 _ (by decide)).mono ?_
    rintro e w16 ⟨rfl, hb16⟩
    have hx16 : Below W.heap.size W w16 := hx15.trans ((show Below W.heap.size _ _ by first | exact Below.refl _ _ | (have := hx15.size; go_grown)).trans (hb16.mono (by have := hx15.size; first | omega | (simp; done) | (simp; omega))))
    obtain ⟨p160, p161, p162, p163⟩ := (hP.below hx16 hg0).four
    obtain ⟨q160, q161, q162, q163⟩ := (hQ.below hx16 hg1).four
    clear p150 p151 p152 p153 q150 q151 q152 q153
    go_wp2_with fail
    refine (without_any _ _ _ (by simp; omega) (by omega)).mono ?_
    rintro e w17 ⟨rfl, hb17⟩
    have hx17 : Below W.heap.size W w17 := hx16.trans ((show Below W.heap.size _ _ by first | exact Below.refl _ _ | (have := hx16.size; go_grown)).trans (hb17.mono (by have := hx16.size; first | omega | (simp; done) | (simp; omega))))
    obtain ⟨p170, p171, p172, p173⟩ := (hP.below hx17 hg0).four
    obtain ⟨q170, q171, q172, q173⟩ := (hQ.below hx17 hg1).four
    clear p160 p161 p162 p163 q160 q161 q162 q163
    go_wp2_with fail
    rw [← SetV_def]
    refine (has_any _ _ _).mono ?_
    rintro e w18 ⟨rfl, hb18⟩
    have hx18 : Below W.heap.size W w18 := hx17.trans ((show Below W.heap.size _ _ by first | exact Below.refl _ _ | (have := hx17.size; go_grown)).trans (hb18.mono (by have := hx17.size; first | omega | (simp; done) | (simp; omega))))
    obtain ⟨p180, p181, p182, p183⟩ := (hP.below hx18 hg0).four
    obtain ⟨q180, q181, q182, q183⟩ := (hQ.below hx18 hg1).four
    clear p170 p171 p172 p173 q170 q171 q172 q173
    go_wp2_with fail
    refine (in_any _ _ _ (by omega)).mono ?_
    rintro e w' ⟨rfl, rfl⟩
    go_wp2_with fail
    rw [← SetV_def]
    refine (len_any _ _).mono ?_
    rintro e w19 ⟨rfl, hb19⟩
    have hx19 : Below W.heap.size W w19 := hx18.trans ((show Below W.heap.size _ _ by first | exact Below.refl _ _ | (have := hx18.size; go_grown)).trans (hb19.mono (by have := hx18.size; first | omega | (simp; done) | (simp; omega))))
    obtain ⟨p190, p191, p192, p193⟩ := (hP.below hx19 hg0).four
    obtain ⟨q190, q191, q192, q193⟩ := (hQ.below hx19 hg1).four
    clear p180 p181 p182 p183 q180 q181 q182 q183
    go_wp2_with fail
    refine (sorted_any _ _ (by omega)).mono ?_
    rintro e w20 ⟨rfl, hb20⟩
    have hx20 : Below W.heap.size W w20 := hx19.trans ((show Below W.heap.size _ _ by first | exact Below.refl _ _ | (have := hx19.size; go_grown)).trans (hb20.mono (by have := hx19.size; first | omega | (simp; done) | (simp; omega))))
    obtain ⟨p200, p201, p202, p203⟩ := (hP.below hx20 hg0).four
    obtain ⟨q200, q201, q202, q203⟩ := (hQ.below hx20 hg1).four
    clear p190 p191 p192 p193 q190 q191 q192 q193
    go_wp2_with fail
    refine (awake13 _).mono ?_
    rintro e w21 ⟨rfl, hb21⟩
    have hx21 : Below W.heap.size W w21 := hx20.trans ((show Below W.heap.size _ _ by first | exact Below.refl _ _ | (have := hx20.size; go_grown)).trans (hb21.mono (by have := hx20.size; first | omega | (simp; done) | (simp; omega))))
    obtain ⟨p210, p211, p212, p213⟩ := (hP.below hx21 hg0).four
    obtain ⟨q210, q211, q212, q213⟩ := (hQ.below hx21 hg1).four
    clear p200 p201 p202 p203 q200 q201 q202 q203
    go_wp2_with fail
    go_ret
    exact ⟨rfl, hxx.trans (hx21.mono hxx.size)⟩
  · have hl2 : 300 < s.size ∨ 300 < t.size := by omega
    clear hl
    rcases hl2 with hl2 | hl2 <;> by_cases hl3 : 300 < s.size
    all_goals
      go_enter Try.func6, Try.ntmps6
      go_wp2_with (go_at_call 18; refine (awake13 _).mono ?_; rintro e w1 ⟨rfl, hb1⟩)
    all_goals (first | (exfalso; omega) | (go_ret; exact ⟨rfl, hb1⟩))
end Go.Proofs.Ytebgchjffopicaa
