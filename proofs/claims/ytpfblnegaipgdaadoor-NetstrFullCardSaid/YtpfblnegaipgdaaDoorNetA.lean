import Derived.Test.YtpfblnegaipgdaaDoorNetP
import Derived.Test.YtpfblnegaipgdaaDoorStrs
import Derived.Test.YtpfblnegaipgdaaDoorShelf
import Derived.Deep.RegionHeld3
namespace Go.Proofs.YtpfblnegaipgdaaDoor
open Go.RowKit Go.Lib

abbrev TB (B : Nat) (w : World) : Prop := Lib.TabBelow Tryd.prog B w "internal/strconv.uint64pow10" .u64 Lib.pow10Tab
theorem chain {w u v : World} (h : Below w.heap.size w u) (k : Below u.heap.size u v) : Below w.heap.size w v := h.trans (k.mono h.size)
theorem ret_int {a b : Int} (h : a = b) : Ending.returned (.int .i64 a) = .returned (.int .i64 b) := by rw [h]

theorem itoa_any (n : Nat) (hn : n ≤ 1000000000) (w : World) {B : Nat} (hT : TB B w) :
    Calls Tryd.prog 50 #[.int .i64 n] w fun e w' => e = .returned (.string (S (decDigits n))) ∧ Below w.heap.size w w' := by
  refine (Go.Proofs.Tryd.strconv_Itoa n (by omega) (by omega) w hT.here).mono ?_
  rintro e w' ⟨h, k, os, rfl⟩
  refine ⟨?_, below_grow _ _ (Nat.le_refl _) _ _⟩
  rw [h]
  unfold itoa
  rw [if_neg (by omega), Int.toNat_natCast]
  rfl

theorem size_any (s : List UInt8) (hs : s.length ≤ 1000000) (w : World) {B : Nat} (hT : TB B w) :
    Calls Tryd.prog 37 #[.string (S s)] w fun e w' => e = .returned (.int .i64 (textL s).length) ∧ Below w.heap.size w w' := by
  have hl := digs_len 6 s.length (by omega)
  have ht := text_len s
  have HT := Lib.hid ht
  clear ht
  go_enter Tryd.func37, Tryd.ntmps37
  go_wp2_with fail
  refine (itoa_any s.length (by omega) _ hT).mono ?_
  rintro e w1 ⟨rfl, hb⟩
  go_wp2_with fail
  go_ret
  refine ⟨?_, hb⟩
  rw [HT.out]
  exact ret_int (by push_cast; omega)

theorem texts_take_succ (l : List (List UInt8)) (k : Nat) (h : k < l.length) : textsL (l.take (k + 1)) = textsL (l.take k) ++ textL l[k] := by
  rw [List.take_succ_eq_append_getElem h, texts_snoc]
theorem texts_take_le (l : List (List UInt8)) (k : Nat) : (textsL (l.take k)).length ≤ (textsL l).length := by
  have : textsL l = textsL (l.take k) ++ textsL (l.drop k) := by
    unfold textsL
    rw [← List.flatten_append, ← List.map_append, List.take_append_drop]
  rw [this, List.length_append]
  omega

set_option maxRecDepth 100000 in
theorem Size_any (l : List (List UInt8)) (v : Value) (hl : l.length ≤ 1000000) (hs : (textsL l).length ≤ 1000000000) (hm : ∀ s ∈ l, s.length ≤ 1000000) (w : World) {B : Nat} (hT : TB B w) (hB : B ≤ w.heap.size) (hv : StrsV w v l) :
    Calls Tryd.prog 15 #[v] w fun e w' => e = .returned (.int .i64 (1 + (textsL l).length : Nat)) ∧ Below w.heap.size w w' := by
  obtain ⟨a, c, rfl, hv⟩ := hv
  go_enter Tryd.func15, Tryd.ntmps15
  go_wp2
  go_loopw [3, 8] (fun n i wr => ∃ k : Nat, k ≤ l.length ∧ i = .int .i64 k ∧ n = .int .i64 (1 + (textsL (l.take k)).length : Nat) ∧ Below w.heap.size w wr) (fun _ i _ => l.length - (intOf i).toNat)
  case atStart => exact ⟨0, by omega, rfl, rfl, Below.refl _ _⟩
  case round =>
    obtain ⟨k, hk, rfl, rfl, hb⟩ := hrel
    have hle := texts_take_le l k
    by_cases hlt : k < l.length
    · obtain ⟨b, off, rfl, h1, h2⟩ := hv (by omega)
      have hc : wr.cell? ⟨b, off + k, none⟩ = some (.string (S l[k])) := by rw [hb.cell (by exact h1)]; exact h2 k hlt
      have HS := Lib.hid (texts_take_succ l k hlt)
      have hsz := hm l[k] (List.getElem_mem hlt)
      have hle2 := texts_take_le l (k + 1)
      have hlen2 : (textL l[k]).length ≤ 2000000 := by
        have := text_len l[k]
        have := digs_len 6 l[k].length (by omega)
        omega
      clear h2
      go_wp2_with fail
      refine (size_any l[k] hsz _ (hT.on (hb.mono hB))).mono ?_
      rintro e w1 ⟨rfl, hb1⟩
      go_wp2_with fail
      go_roundw
      case rel => exact ⟨k + 1, by omega, by go_num, by rw [HS.out, List.length_append]; go_num, chain hb hb1⟩
      case measure => simp [intOf]; omega
    · have : k = l.length := by omega
      subst this
      rw [List.take_length]
      go_wp2
      go_ret
      exact ⟨rfl, hb⟩
end Go.Proofs.YtpfblnegaipgdaaDoor
