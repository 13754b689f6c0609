/- Heads of members: a field's text, a field's place, a mark's form; the program's and the document's. Heads of members: where fields stand. -/
import Derived.Test.YtjldphpdfckjnaaDoorHdQ
import Derived.Test.YtjldphpdfckjnaaDoorSumD
import Derived.Test.YtjldphpdfckjnaaDoorCutC
import Derived.Deep.WholeRow
namespace Go.Proofs.YtjldphpdfckjnaaDoor
open Go.RowKit

theorem readT_tw (l : List UInt8) : readT l = twC 0 l := rfl
set_option maxRecDepth 100000 in
theorem tRead_any (s : List UInt8) (w : World) (hs : s.length ≤ 9223372036854775807) :
    Calls Tryd.prog 57 #[.string (S s)] w fun e w' => e = .returned (.string (S (readT s))) ∧ Below w.heap.size w w' := by
  have HC := Lib.hid (cut_c 0 s hs w)
  go_enter Tryd.func57, Tryd.ntmps57
  go_wp2_with fail
  refine HC.out.mono ?_
  rintro e w1 ⟨rfl, n, rfl⟩
  have hx1 : Below w.heap.size w (w.drewN n) := belowDrewN (Below.refl _ _)
  have HT : Hid (readT s = twC 0 s) := Lib.hid rfl
  have HV : cutCV 0 s = .tuple #[.string (S (twC 0 s)), .string (S ((dwC 0 s).drop 1)), .bool (!(dwC 0 s).isEmpty)] := rfl
  rw [HV]
  clear HC HV
  generalize w.drewN n = w1 at *
  generalize twC 0 s = a at *
  generalize (dwC 0 s).drop 1 = b at *
  generalize (!(dwC 0 s).isEmpty) = z at *
  go_wp2_with fail
  go_ret
  exact ⟨by rw [HT.out]; rfl, hx1⟩
theorem takeWhile_take (p : UInt8 → Bool) : ∀ (l : List UInt8) (k : Nat), (∀ i (_ : i < k) (h2 : i < l.length), p l[i] = true) → (k = l.length ∨ ∃ h : k < l.length, p l[k] = false) → l.takeWhile p = l.take k
  | [], k, _, _ => by simp
  | b :: l, 0, _, h => by
    rcases h with h | ⟨h, h2⟩
    · simp at h
    · rw [List.takeWhile_cons, show p b = false from h2]; rfl
  | b :: l, k + 1, h1, h => by
    have hb : p b = true := h1 0 (by omega) (by simp)
    rw [List.takeWhile_cons, if_pos hb, List.take_succ_cons, takeWhile_take p l k (fun i g g2 => h1 (i + 1) (by omega) (by simp; omega)) (by
      rcases h with h | ⟨h, h2⟩
      · left; simpa using h
      · right; exact ⟨by simpa using h, h2⟩)]
set_option maxRecDepth 100000 in
theorem rRead2_any (s : List UInt8) (w : World) (hs : s.length ≤ 9223372036854775807) :
    Calls Tryd.prog 67 #[.string (S s)] w fun e w' => e = .returned (.string (S (readT s))) ∧ w = w' := by
  go_enter Tryd.func67, Tryd.ntmps67
  go_wp2_with fail
  go_loopw [3] (fun v3 wr => ∃ k : Nat, v3 = .int .i64 k ∧ k ≤ s.length ∧ Hid (∀ i (h : i < k) (h2 : i < s.length), (s[i] != 0) = true) ∧ w = wr) (fun v3 _ => s.length - (intOf v3).toNat)
  case atStart => exact ⟨0, rfl, Nat.zero_le _, Lib.hid (fun i h => absurd h (Nat.not_lt_zero _)), rfl⟩
  case round =>
    obtain ⟨k, rfl, hk, HA, rfl⟩ := hrel
    by_cases hlt : k < s.length
    · have hkI : (k : Int) < (s.length : Int) := by omega
      have hks : k < (S s).size := by rw [S_size]; exact hlt
      by_cases hc : (S s)[k]'hks = 0
      · have hx : ((((S s)[k]'hks).toNat : Int) != 0) = false := by rw [hc]; rfl
        have HE : Hid (readT s = s.take k) := Lib.hid (takeWhile_take _ _ _ HA.out (.inr ⟨hlt, by rw [show s[k] = 0 from hc]; rfl⟩))
        have e1 := take_S s k
        clear hc
        generalize s.take k = T at *
        go_wp2_with fail
        go_ret
        exact ⟨by rw [HE.out]; rfl, rfl⟩
      · have hx : ((((S s)[k]'hks).toNat : Int) != 0) = true := byte_bne _ 0 0 rfl hc
        have HN : Hid (∀ i (h : i < k + 1) (h2 : i < s.length), (s[i] != 0) = true) := Lib.hid (fun i h h2 => by
          by_cases e : i = k
          · subst e
            exact bne_iff_ne.2 hc
          · exact HA.out i (by omega) h2)
        clear hc
        go_wp2_with fail
        go_roundw
        case rel => exact ⟨k + 1, by go_num, by omega, HN, trivial⟩
        case measure => simp [intOf] <;> omega
    · have hkk : k = s.length := by omega
      subst hkk
      have HE : Hid (readT s = s.take s.length) := Lib.hid (takeWhile_take _ _ _ HA.out (.inl rfl))
      have e1 := take_S s s.length
      generalize s.take s.length = T at *
      go_wp2_with fail
      go_ret
      exact ⟨by rw [HE.out]; rfl, rfl⟩

end Go.Proofs.YtjldphpdfckjnaaDoor
namespace Go.Proofs.YtjldphpdfckjnaaDoor
open Go.RowKit

def placesL : List (Nat × Nat) := [(0, 100), (100, 8), (108, 8), (116, 8), (124, 12), (136, 12), (157, 100), (265, 32), (297, 32), (329, 8), (337, 8), (345, 155)]
def placesA : Array Value := #[.int .i64 0, .int .i64 100, .int .i64 100, .int .i64 8, .int .i64 108, .int .i64 8, .int .i64 116, .int .i64 8, .int .i64 124, .int .i64 12, .int .i64 136, .int .i64 12,
  .int .i64 157, .int .i64 100, .int .i64 265, .int .i64 32, .int .i64 297, .int .i64 32, .int .i64 329, .int .i64 8, .int .i64 337, .int .i64 8, .int .i64 345, .int .i64 155]
theorem info12 : (Tryd.prog.info? 140).map (fun i => (i.zero, i.size)) = some (some (.agg #[.int .i64 0, .int .i64 0, .int .i64 0, .int .i64 0, .int .i64 0, .int .i64 0, .int .i64 0, .int .i64 0, .int .i64 0, .int .i64 0, .int .i64 0, .int .i64 0, .int .i64 0, .int .i64 0, .int .i64 0, .int .i64 0, .int .i64 0, .int .i64 0, .int .i64 0, .int .i64 0, .int .i64 0, .int .i64 0, .int .i64 0, .int .i64 0]), 24) := by kernel_rfl
theorem app_storeAll {ops : Array Oper} {rest : List Oper} {o : Oper} {a : Act} {Q : Exit → Act → World → Prop} {w : World} (hgd : o.guard = none) (p x : Operand) (T : TypeId) (ho : o.op = .store T p x)
    (c c' : Array Value) (hp : a.eval p = .pointer (some ⟨w.heap.size, 0, none⟩)) (hx : a.eval x = .agg c') (hi : (Tryd.prog.info? T).map (·.size) = some c'.size) (hc : c.size = c'.size) (h1 : c'.all (·.oneCell') = true)
    (h : wpList Tryd.prog ops Q rest (a.put o.dst undef) (w.alloc (.cells c' T))) : wpList Tryd.prog ops Q (o :: rest) a (w.alloc (.cells c T)) := by
  refine wpList_plain hgd fun K hK => ?_
  have hr := run_storeAt_new (P := Tryd.prog) w T c c' hi hc h1
  unfold Oper.wp execOp
  simp only [ho, hp, hx, hr, Sem.run_bind, Sem.run_pure, Result.andThen_ok]
  exact hK _ _ h
theorem results_cell {P : Program} {fn : Func} {t : Tmp} {T : TypeId} (h : fn.results = #[.cell t T]) (tmps : Array Value) (w : World) (c : Array Value) (hp : tmps.getD t undef = .pointer (some ⟨w.heap.size, 0, none⟩))
    (n : Nat) (e : TypeId) (hu : P.underlying T = some (.array n e)) (hi : (P.info? T).map (·.size) = some c.size) : (results fn tmps).run P (w.alloc (.cells c T)) = .ok (.agg c) (w.alloc (.cells c T)) := by
  have hl := run_loadVar_new (P := P) w T c n e hu hi
  have hp2 : tmps[t]?.getD undef = .pointer (some ⟨w.heap.size, 0, none⟩) := by simpa using hp
  simp [results, h, hp2, asAddr, hl]
theorem placesA_one : placesA.all (·.oneCell') = true := by simp [placesA, Value.oneCell']
set_option maxRecDepth 100000 in
set_option maxHeartbeats 4000000 in
theorem places_any (w : World) : Calls Tryd.prog 94 #[] w fun e w' => e = .returned (.agg placesA) ∧ Below w.heap.size w w' := by
  obtain ⟨hz, hs⟩ := zero_of_info info12
  have hPA : (Tryd.prog.info? 140).map (·.size) = some placesA.size := hs
  go_enter Tryd.func94, Tryd.ntmps94
  go_wp2_with (refine app_storeAll rfl _ _ _ rfl #[.int .i64 0, .int .i64 0, .int .i64 0, .int .i64 0, .int .i64 0, .int .i64 0, .int .i64 0, .int .i64 0, .int .i64 0, .int .i64 0, .int .i64 0, .int .i64 0, .int .i64 0, .int .i64 0, .int .i64 0, .int .i64 0, .int .i64 0, .int .i64 0, .int .i64 0, .int .i64 0, .int .i64 0, .int .i64 0, .int .i64 0, .int .i64 0] placesA rfl rfl hPA rfl placesA_one ?_)
  refine bodyPost_ret (results_cell rfl _ _ placesA rfl 12 139 Tryd.underlying140 hPA) rfl ⟨rfl, ?_⟩
  exact (Below.refl _ _).alloc (Nat.le_refl _) _
theorem idxP (r : Nat) (hr : r < 12) (w : World) : (Instr.index 140 (.agg placesA) (.int .i64 r)).run Tryd.prog w = .ok (.agg #[.int .i64 (placesL.getD r (0, 0)).1, .int .i64 (placesL.getD r (0, 0)).2]) w := by
  have h : r = 0 ∨ r = 1 ∨ r = 2 ∨ r = 3 ∨ r = 4 ∨ r = 5 ∨ r = 6 ∨ r = 7 ∨ r = 8 ∨ r = 9 ∨ r = 10 ∨ r = 11 := by omega
  rcases h with rfl | rfl | rfl | rfl | rfl | rfl | rfl | rfl | rfl | rfl | rfl | rfl <;> (show Sem.run _ _ _ = _; kernel_rfl)
theorem places_in (r : Nat) : (placesL.getD r (0, 0)).1 + (placesL.getD r (0, 0)).2 ≤ 512 := by
  by_cases hr : r < 12
  · have h : r = 0 ∨ r = 1 ∨ r = 2 ∨ r = 3 ∨ r = 4 ∨ r = 5 ∨ r = 6 ∨ r = 7 ∨ r = 8 ∨ r = 9 ∨ r = 10 ∨ r = 11 := by omega
    rcases h with rfl | rfl | rfl | rfl | rfl | rfl | rfl | rfl | rfl | rfl | rfl | rfl <;> decide
  · rw [List.getD_eq_getElem?_getD, List.getElem?_eq_none (by show 12 ≤ r; omega)]
    decide
/-- a field of a block, by its row -/
def cutN (s : List UInt8) (r : Nat) : List UInt8 := fldL s (placesL.getD r (0, 0)).1 (placesL.getD r (0, 0)).2
set_option maxRecDepth 100000 in
set_option maxHeartbeats 2000000 in
theorem hcut_any (s : List UInt8) (r : Nat) (w : World) (hs : s.length = 512) (hr : r < 12) :
    Calls Tryd.prog 58 #[.string (S s), .int .i64 r] w fun e w' => e = .returned (.string (S (cutN s r))) ∧ Below w.heap.size w w' := by
  have HI := Lib.hid (idxP r hr)
  have hin := places_in r
  have HC : Hid (cutN s r = fldL s (placesL.getD r (0, 0)).1 (placesL.getD r (0, 0)).2) := Lib.hid rfl
  generalize (placesL.getD r (0, 0)).1 = a at *
  generalize (placesL.getD r (0, 0)).2 = n at *
  have hext := fld_ext s a (a + n)
  rw [show a + n - a = n by omega] at hext
  have haI : (a : Int) + (n : Int) ≤ (s.length : Int) := by omega
  have hwp : IntKind.i64.wrap ((a : Int) + (n : Int)) = (a : Int) + (n : Int) := wrap_lit_i64 _ (by omega) (by omega)
  have HP := Lib.hid (places_any w)
  generalize placesA = PA at *
  generalize fldL s a n = F at *
  clear hin hs
  go_enter Tryd.func58, Tryd.ntmps58
  go_wp2_with fail
  refine HP.out.mono ?_
  rintro e w1 ⟨rfl, hx1⟩
  have hi := HI.out w1
  clear HP HI
  have hx2 : Below w.heap.size w (w1.alloc (.cells #[.int .i64 a, .int .i64 n] 139)) := hx1.alloc hx1.size _
  go_wp2_with fail
  go_ret
  exact ⟨by rw [HC.out, ← hext]; rfl, hx2⟩
end Go.Proofs.YtjldphpdfckjnaaDoor
