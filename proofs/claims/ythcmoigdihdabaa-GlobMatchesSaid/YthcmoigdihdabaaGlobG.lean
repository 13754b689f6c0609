/- Plain laws of a quoted text; Plain of bytes. -/
import Derived.Test.YthcmoigdihdabaaGlobF
namespace Go.Proofs.Ythcmoigdihdabaa
open Go.RowKit
attribute [local irreducible] wordP

theorem parse_quote (Q : List UInt8) : ∀ (t : List UInt8) (f k : Nat) (out : List Tk), Q.drop k = quoteG t → k ≤ Q.length → out.length + t.length ≤ 1024 → t.length < f → parseG Q f k out = some (out ++ t.map Tk.byte, 0, 0)
  | [], 0, _, _, _, _, _, h => absurd h (by simp)
  | [], f + 1, k, out, h, hk, _, _ => by
    have : Q.length ≤ k := by
      have h2 : (Q.drop k).length = 0 := by rw [h]; rfl
      rw [List.length_drop] at h2
      omega
    rw [parseG, if_pos this]
    simp
  | b :: t, 0, _, _, _, _, _, h => absurd h (by simp)
  | b :: t, f + 1, k, out, h, hk, hl, hf => by
    have ih := parse_quote Q t f
    simp only [List.length_cons] at hl hf
    have hq : quoteG (b :: t) = (if signB b then [92, b] else [b]) ++ quoteG t := by unfold quoteG; rw [List.flatMap_cons]
    rw [hq] at h
    have get : ∀ j, Q[k + j]? = ((if signB b then [92, b] else [b]) ++ quoteG t)[j]? := fun j => by rw [← h, List.getElem?_drop]
    cases hs : signB b
    · rw [hs] at h get
      have h0 : Q[k]? = some b := get 0
      have hkl := (List.getElem?_eq_some_iff.1 h0).1
      unfold signB at hs
      simp only [Bool.or_eq_false_iff, beq_eq_false_iff_ne] at hs
      obtain ⟨⟨⟨h42, h63⟩, h91⟩, h92⟩ := hs
      have ht : tokF Q k = some (.byte b, 1) := by
        unfold tokF
        rw [h0]
        simp only [if_neg h42, if_neg h63, if_neg h91, if_neg h92]
      have hd : Q.drop (k + 1) = quoteG t := by
        rw [← List.drop_drop, h]; rfl
      rw [parseG, if_neg (by omega), if_neg (by omega), ht]
      show parseG Q f (k + 1) (out ++ [.byte b]) = _
      rw [ih (k + 1) (out ++ [Tk.byte b]) hd (by omega) (by simp; omega) (by omega)]
      simp
    · rw [hs] at h get
      have h0 : Q[k]? = some 92 := get 0
      have h1 : Q[k + 1]? = some b := get 1
      have hkl := (List.getElem?_eq_some_iff.1 h1).1
      have ht : tokF Q k = some (.byte b, 2) := by
        unfold tokF
        rw [h0]
        simp [h1]
      have hd : Q.drop (k + 2) = quoteG t := by
        rw [← List.drop_drop, h]; rfl
      rw [parseG, if_neg (by omega), if_neg (by omega), ht]
      show parseG Q f (k + 2) (out ++ [.byte b]) = _
      rw [ih (k + 2) (out ++ [Tk.byte b]) hd (by omega) (by simp; omega) (by omega)]
      simp
theorem match_bytes (fr : UInt8 → Bool) (slash : Bool) : ∀ (s o : List UInt8), matchG fr ((s.map Tk.byte).map (Tk.gt false slash)) o = (s == o)
  | [], [] => by rw [List.map_nil, List.map_nil, none_iff]; rfl
  | [], _ :: _ => by rw [List.map_nil, List.map_nil, none_iff]; rfl
  | b :: s, [] => by
    show matchG fr (.one (oneG false slash (.byte b)) :: _) [] = _
    rw [one_nil]; rfl
  | b :: s, c :: o => by
    show matchG fr (.one (oneG false slash (.byte b)) :: (s.map Tk.byte).map (Tk.gt false slash)) (c :: o) = _
    rw [one_cons, match_bytes fr slash s o]
    have e : oneG false slash (.byte b) c = (c == b) := by simp [oneG]
    rw [e, List.cons_beq_cons]
    congr 1
    rw [Bool.eq_iff_iff]
    simp only [beq_iff_eq]
    exact eq_comm
set_option maxRecDepth 100000 in
set_option maxHeartbeats 2000000 in
theorem GPlain_any (s : List UInt8) (hs : s.length ≤ 100000) (v : Value) (w : World) (hl : RowsV Tk.cells 6 w v (s.map Tk.byte)) :
    Calls Try.prog 26 #[v] w fun e w' => e = .returned (.tuple #[.string (S s), .bool true]) ∧ Below w.heap.size w w' := by
  obtain ⟨a, c, rfl, hrow⟩ := hl
  rw [List.length_map]
  have hsI : (s.length : Int) ≤ 100000 := by omega
  go_enter Try.func26, Try.ntmps26
  go_wp2_with fail
  go_loopw [4, 9] (fun v4 v9 wr => ∃ k : Nat, v9 = .int .i64 k ∧ k ≤ s.length ∧ OwnB wr w.heap.size v4 (s.take k) ∧ Below w.heap.size w wr) (fun _ v9 _ => s.length - (intOf v9).toNat)
  case atStart => exact ⟨0, rfl, Nat.zero_le _, OwnB.nil _ _, Below.refl _ _⟩
  case round =>
    obtain ⟨k, rfl, hk, hown, hb⟩ := hrel
    have hsz := hb.size
    by_cases hlt : k < s.length
    · have hkI : (k : Int) < (s.length : Int) := by omega
      obtain ⟨b, off, rfl, hbw, hcell⟩ := hrow (by rw [List.length_map]; omega)
      have tc : ∀ j u, (Tk.byte s[k]).cells[j]? = some u → wr.cell? ⟨b, off + k * 6 + j, none⟩ = some u := fun j u h => (hb.cell (p := ⟨b, off + k * 6 + j, none⟩) hbw).trans (hcell k (by rw [List.length_map]; exact hlt) j u (by rw [List.getElem_map]; exact h))
      have hsn : s.take (k + 1) = s.take k ++ [s[k]] := List.take_succ_eq_append_getElem hlt
      have Hsn := Lib.hid hsn
      have hql : (s.take k).length ≤ 100000 := by rw [List.length_take]; omega
      clear hcell hrow hsn
      generalize s[k] = x at *
      generalize s.take k = q at *
      have t0 : wr.cell? ⟨b, off + k * 6, none⟩ = some (.int .i64 1) := tc 0 _ rfl
      have t1 : wr.cell? ⟨b, off + k * 6 + 1, none⟩ = some (.int .u8 x.toNat) := tc 1 _ rfl
      have t2 : wr.cell? ⟨b, off + k * 6 + 2, none⟩ = some (.int .u64 (wordP noneP 0)) := tc 2 _ rfl
      have t3 : wr.cell? ⟨b, off + k * 6 + 3, none⟩ = some (.int .u64 (wordP noneP 1)) := tc 3 _ rfl
      have t4 : wr.cell? ⟨b, off + k * 6 + 4, none⟩ = some (.int .u64 (wordP noneP 2)) := tc 4 _ rfl
      have t5 : wr.cell? ⟨b, off + k * 6 + 5, none⟩ = some (.int .u64 (wordP noneP 3)) := tc 5 _ rfl
      clear tc
      have hown2 := hown.alloc (.cells #[.int .i64 1, .int .u8 x.toNat, .int .u64 (wordP noneP 0), .int .u64 (wordP noneP 1), .int .u64 (wordP noneP 2), .int .u64 (wordP noneP 3)] 95)
      have hb2 : Below w.heap.size w (wr.alloc (.cells #[.int .i64 1, .int .u8 x.toNat, .int .u64 (wordP noneP 0), .int .u64 (wordP noneP 1), .int .u64 (wordP noneP 2), .int .u64 (wordP noneP 3)] 95)) := hb.alloc hsz _
      have hsz2 := hb2.size
      have c0 : (wr.alloc (.cells #[.int .i64 1, .int .u8 x.toNat, .int .u64 (wordP noneP 0), .int .u64 (wordP noneP 1), .int .u64 (wordP noneP 2), .int .u64 (wordP noneP 3)] 95)).cell? ⟨wr.heap.size, 0, none⟩ = some (.int .i64 1) := by simp
      have c1 : (wr.alloc (.cells #[.int .i64 1, .int .u8 x.toNat, .int .u64 (wordP noneP 0), .int .u64 (wordP noneP 1), .int .u64 (wordP noneP 2), .int .u64 (wordP noneP 3)] 95)).cell? ⟨wr.heap.size, 1, none⟩ = some (.int .u8 x.toNat) := by simp
      go_upto_region 5 with fail
      generalize wr.alloc (.cells #[.int .i64 1, .int .u8 x.toNat, .int .u64 (wordP noneP 0), .int .u64 (wordP noneP 1), .int .u64 (wordP noneP 2), .int .u64 (wordP noneP 3)] 95) = w5 at *
      go_wp2_with (at_builtin; go_must (refine app_lit rfl _ _ rfl w.heap.size _ _ [x] rfl hown2 1 _ rfl rfl rfl (by omega) hsz2 ?_); intro v3 w3 hown3 hb3 hg3)
      go_roundw
      case rel => exact ⟨k + 1, by go_num, by omega, by rw [Hsn.out]; exact hown3, hb2.trans hb3⟩
      case measure => simp [intOf]; omega
    · have hkk : k = s.length := by omega
      subst hkk
      rw [List.take_length] at hown
      have hstr := run_string_own wr _ _ _ hown
      go_wp2
      go_ret2
      exact ⟨rfl, hb⟩
end Go.Proofs.Ythcmoigdihdabaa
