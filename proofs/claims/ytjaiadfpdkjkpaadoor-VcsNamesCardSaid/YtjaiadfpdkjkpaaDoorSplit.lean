/- strings.SplitSeq at one byte: its iterator's contract; the pieces of a text. -/
import Derived.Test.YtjaiadfpdkjkpaaDoorRange
import Derived.Test.YtjaiadfpdkjkpaaDoorKit
import Derived.Test.YtjaiadfpdkjkpaaDoorShelf
import Derived.Lib.IndexLaws
import Derived.WalkKit
import Derived.OwnWalkIn
import Derived.TacticsInMore
import Derived.LoopNIn
import Derived.LoopIn
namespace Go.Proofs.YtjaiadfpdkjkpaaDoor
open Go.RowKit
attribute [local go_sem] Oper.semAt_some

/-- the pieces between a byte's places -/
def splitL (c : UInt8) : List UInt8 → List (List UInt8)
  | [] => [[]]
  | b :: l => if b = c then [] :: splitL c l else match splitL c l with
    | p :: ps => (b :: p) :: ps
    | [] => [[b]]
theorem split_none (c : UInt8) : ∀ l : List UInt8, (∀ k : Nat, l[k]? ≠ some c) → splitL c l = [l]
  | [], _ => rfl
  | b :: l, h => by
    have hb : b ≠ c := fun e => h 0 (by rw [e]; rfl)
    have ih := split_none c l (fun k => by have := h (k + 1); simpa using this)
    rw [splitL, if_neg hb, ih]
theorem split_some (c : UInt8) : ∀ (l : List UInt8) (o : Nat), l[o]? = some c → (∀ k : Nat, k < o → l[k]? ≠ some c) → splitL c l = l.take o :: splitL c (l.drop (o + 1))
  | [], o, h, _ => by simp at h
  | b :: l, 0, h, _ => by
    have : b = c := by simpa using h
    rw [splitL, if_pos this]; rfl
  | b :: l, o + 1, h, hk => by
    have hb : b ≠ c := fun e => hk 0 (by omega) (by rw [e]; rfl)
    have ih := split_some c l o (by simpa using h) (fun k hk' => by have := hk (k + 1) (by omega); simpa using this)
    rw [splitL, if_neg hb, ih]
    rfl

theorem index_one (s : List UInt8) (c : UInt8) (w : World) :
    Calls Tryd.prog 107 #[.string (S s), .string (S [c])] w fun e w' => e = .returned (.int .i64 (Lib.indexByte s c)) ∧ w' = w := by
  go_enter Tryd.func107, Tryd.ntmps107
  go_wp2_with fail
  refine (Go.Proofs.Tryd.stringslite_Index_one _ c _).mono ?_
  rintro e w1 ⟨rfl, hw⟩
  subst hw
  rw [S_data]
  go_wp2
  go_ret
  exact ⟨rfl, rfl⟩

/-- the iterator's own blocks: the rest of the text, the separator, how much of it is kept -/
def splitMine (b : Nat) (x : Nat) : Prop := x = b ∨ x = b + 1 ∨ x = b + 2
structure SplitAt (w : World) (b : Nat) (s : List UInt8) (c : UInt8) : Prop where
  rest : w.heap[b]? = some (.cells #[.string (S s)] 9 (0, 0))
  sep : w.heap[b + 1]? = some (.cells #[.string (S [c])] 9 (0, 0))
  save : w.heap[b + 2]? = some (.cells #[.int .i64 0] 3 (0, 0))
theorem cell_of {w : World} {b : Nat} {v : Value} {t : TypeId} (h : w.heap[b]? = some (.cells #[v] t (0, 0))) : w.cell? ⟨b, 0, none⟩ = some v := by simp [World.cell?, h]
theorem froz_of {w : World} {b : Nat} {v : Value} {t : TypeId} (h : w.heap[b]? = some (.cells #[v] t (0, 0))) : w.frozen? ⟨b, 0, none⟩ = false := by simp [World.frozen?, h]
theorem SplitAt.keep {w w' : World} {b : Nat} {s : List UInt8} {c : UInt8} (h : SplitAt w b s c) (k : KeepOwn (splitMine b) w w') : SplitAt w' b s c :=
  ⟨by rw [k.2 _ (.inl rfl)]; exact h.rest, by rw [k.2 _ (.inr (.inl rfl))]; exact h.sep, by rw [k.2 _ (.inr (.inr rfl))]; exact h.save⟩
theorem SplitAt.set {w : World} {b : Nat} {s : List UInt8} {c : UInt8} (h : SplitAt w b s c) (s' : List UInt8) : SplitAt (w.setCell ⟨b, 0, none⟩ (.string (S s'))) b s' c := by
  refine ⟨?_, ?_, ?_⟩
  · show (w.heap.modify b _)[b]? = _
    rw [Array.getElem?_modify, if_pos rfl, h.rest]; rfl
  · show (w.heap.modify b _)[b + 1]? = _
    rw [Array.getElem?_modify, if_neg (by omega)]; exact h.sep
  · show (w.heap.modify b _)[b + 2]? = _
    rw [Array.getElem?_modify, if_neg (by omega)]; exact h.save
theorem grown_set (w : World) (b : Nat) (v : Value) : w.grownBy (w.setCell ⟨b, 0, none⟩ v) (some b) :=
  ⟨rfl, rfl, rfl, by simp [World.setCell], fun i _ hn => by
    show (w.heap.modify b _)[i]? = _
    rw [Array.getElem?_modify, if_neg (fun e => hn (by rw [e]))]⟩
def restLen (b : Nat) (w : World) : Nat := match w.cell? ⟨b, 0, none⟩ with
  | some (.string t) => t.size
  | _ => 0
theorem restLen_eq {w : World} {b : Nat} {s : List UInt8} {c : UInt8} (h : SplitAt w b s c) : restLen b w = s.length := by
  unfold restLen
  rw [cell_of h.rest]
  exact S_size s

set_option maxRecDepth 100000 in
set_option maxHeartbeats 4000000 in
theorem split_gives (n : Nat) (hn : 1 ≤ n) (b : Nat) (s0 : List UInt8) (c : UInt8) (hs : s0.length ≤ 1000000) (w : World) (hw : SplitAt w b s0 c) :
    GivesAll Fence.wide n Tryd.prog 106 #[.pointer (some ⟨b + 1, 0, none⟩), .pointer (some ⟨b, 0, none⟩), .pointer (some ⟨b + 2, 0, none⟩)] (fun p : List UInt8 => #[.string (S p)]) (splitMine b) (splitL c s0) w := by
  intro l J W hWb hJ hY h0
  have hlt : b + 2 < w.heap.size := (Array.getElem?_eq_some_iff.1 hw.save).1
  have hW : SplitAt W b s0 c := ⟨by rw [hWb.block _ (by omega)]; exact hw.rest, by rw [hWb.block _ (by omega)]; exact hw.sep, by rw [hWb.block _ (by omega)]; exact hw.save⟩
  refine callsIn_of_wp Tryd.func106 rfl trivial ?_ rfl
  simp only [Tryd.ntmps106, List.size_toArray, List.length_cons, List.length_nil, Nat.reduceAdd, Nat.reduceSub, Array.replicate_succ, Array.replicate_zero, List.push_toArray, List.append_toArray, List.nil_append, List.cons_append]
  have c1 := cell_of hW.sep
  gi_wp2
  clear c1
  gi_loopw [7] (fun _ wr => ∃ (pre : List (List UInt8)) (s : List UInt8), splitL c s0 = pre ++ splitL c s ∧ s.length ≤ 1000000 ∧ SplitAt wr b s c ∧ J pre wr) (fun _ wr => restLen b wr)
  case atStart => exact ⟨[], s0, rfl, hs, hW, h0⟩
  case round =>
    obtain ⟨pre, s, hx, hsl, hS, hJs⟩ := hrel
    have c0 := cell_of hS.rest
    have c1 := cell_of hS.sep
    have c2 := cell_of hS.save
    have f0 := froz_of hS.rest
    by_cases hi : Lib.indexByte s c < 0
    · have hm1 : Lib.indexByte s c = -1 := by have := Lib.indexByte_ge s c; omega
      have hsp := split_none c s (Lib.indexByte_none hm1)
      rw [hsp] at hx
      have HM := Lib.hid hm1
      clear hi hm1
      obtain ⟨fn, tmps, assign, body, hy, hR⟩ := hY pre s [] wr hJs hx.symm
      gi_wp2_with (refine ⟨trivial, ?_⟩; gi_at_call 107; refine (callsIn_wide.2 (index_one s c _)).mono ?_; rintro e w1 ⟨rfl, hw1⟩; subst hw1; rw [HM.out])
      refine hR.mono ?_
      rintro e W' ⟨rfl, hJ', hk⟩
      gi_wp2
      go_end0
      exact ⟨⟨_, rfl⟩, by rw [hx]; exact hJ'⟩
    · obtain ⟨o, ho⟩ : ∃ o : Nat, Lib.indexByte s c = o := ⟨(Lib.indexByte s c).toNat, by omega⟩
      obtain ⟨hg, hk0⟩ := Lib.indexByte_some ho
      have hol : o < s.length := by
        rcases Nat.lt_or_ge o s.length with g | g
        · exact g
        · rw [List.getElem?_eq_none g] at hg; cases hg
      rw [split_some c s o hg hk0] at hx
      have HO := Lib.hid ho
      have e1 : (S s).extract 0 o = S (s.take o) := by rw [S_extract, List.drop_zero, Nat.sub_zero]
      have e2 : (S s).extract (o + 1) s.length = S (s.drop (o + 1)) := by rw [S_extract, List.take_of_length_le (by rw [List.length_drop]; exact Nat.le_refl _)]
      have hdl : (s.drop (o + 1)).length = s.length - (o + 1) := List.length_drop
      have HDL := Lib.hid hdl
      clear hi ho hg hk0 hdl
      obtain ⟨fn, tmps, assign, body, hy, hR⟩ := hY pre (s.take o) (splitL c (s.drop (o + 1))) wr hJs hx.symm
      gi_wp2_with (refine ⟨trivial, ?_⟩; gi_at_call 107; refine (callsIn_wide.2 (index_one s c _)).mono ?_; rintro e w1 ⟨rfl, hw1⟩; subst hw1; rw [HO.out])
      refine hR.mono ?_
      rintro e W' ⟨rfl, hJ', hk⟩
      have hS' := hS.keep hk
      clear c0 c1 c2 f0 hy hR
      have c0 := cell_of hS'.rest
      have c1 := cell_of hS'.sep
      have c2 := cell_of hS'.save
      have f0 := froz_of hS'.rest
      gi_wp2
      refine ⟨⟨pre ++ [s.take o], s.drop (o + 1), by rw [hx, List.append_assoc]; rfl, by have := HDL.out; omega, hS'.set _, hJ _ _ _ (some b) hJ' (grown_set _ _ _) (fun r e => by cases e; exact .inl rfl)⟩, ?_⟩
      rw [restLen_eq (hS'.set _), restLen_eq hS]
      have := HDL.out
      omega

/-- 'strings.SplitSeq(s, "c")': the iterator, over three new blocks -/
theorem seq_any (s : List UInt8) (c : UInt8) (w : World) :
    Calls Tryd.prog 64 #[.string (S s), .string (S [c])] w fun e w' => e = .returned (.func (.func 106) #[] #[.pointer (some ⟨w.heap.size + 1, 0, none⟩), .pointer (some ⟨w.heap.size, 0, none⟩), .pointer (some ⟨w.heap.size + 2, 0, none⟩)]) ∧
      w' = ((w.alloc (.cells #[.string (S s)] 9)).alloc (.cells #[.string (S [c])] 9)).alloc (.cells #[.int .i64 0] 3) := by
  go_enter Tryd.func64, Tryd.ntmps64
  go_wp2
  go_ret
  exact ⟨rfl, rfl⟩
theorem seq_at (s : List UInt8) (c : UInt8) (w : World) : SplitAt (((w.alloc (.cells #[.string (S s)] 9)).alloc (.cells #[.string (S [c])] 9)).alloc (.cells #[.int .i64 0] 3)) w.heap.size s c := by
  refine ⟨?_, ?_, ?_⟩
  · rw [Below.heap_alloc _ _ _ (by simp; omega), Below.heap_alloc _ _ _ (by simp)]
    exact heap_alloc_new _ _
  · rw [Below.heap_alloc _ _ _ (by simp)]
    have := heap_alloc_new (w.alloc (.cells #[.string (S s)] 9)) (.cells #[.string (S [c])] 9)
    simpa using this
  · have := heap_alloc_new ((w.alloc (.cells #[.string (S s)] 9)).alloc (.cells #[.string (S [c])] 9)) (.cells #[.int .i64 0] 3)
    simpa using this
end Go.Proofs.YtjaiadfpdkjkpaaDoor
