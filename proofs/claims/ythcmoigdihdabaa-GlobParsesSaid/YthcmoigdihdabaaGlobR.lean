/- The law GlobParses, walked. -/
import Derived.Test.YthcmoigdihdabaaGlobN
import Derived.Test.YthcmoigdihdabaaGlobM
import Derived.Test.YthcmoigdihdabaaGlobH
import Derived.Test.YthcmoigdihdabaaStepR
import Derived.Test.YthcmoigdihdabaaClassC
namespace Go.Proofs.Ythcmoigdihdabaa
open Go.RowKit
attribute [local irreducible] wordP

theorem eq_rtok (k b : Int) (s : ByteArray) (w : World) :
    (Op.equalIn 10000 56 (.agg #[.int .i64 k, .int .u8 b, .string s]) (.agg #[.int .i64 k, .int .u8 b, .string s])).run Try.prog w = .ok true w := by
  rw [run_equalIn_agg w 9999 56 _ _ (by kernel_rfl) (by kernel_rfl)]
  simp [go_sem, Op.eqFields]
@[go_sem high] theorem neq_rtok (k b : Int) (s : ByteArray) (w : World) :
    (binOp .neq 56 (.agg #[.int .i64 k, .int .u8 b, .string s]) (.agg #[.int .i64 k, .int .u8 b, .string s])).run Try.prog w = .ok (.bool false) w := by
  rw [run_neq_struct, eq_rtok]
  rfl
set_option maxRecDepth 100000 in
theorem bytes_txt (t : Tk) : bytesP t.p = t.txt := by
  have h : bytesP noneP = [] := by decide +kernel
  cases t <;> first | exact h | rfl
theorem step_app_rtok {ops : Array Oper} {o : Oper} {a : Act} {K : Act → World → Prop} {Q : Exit → Act → World → Prop} {E : Prop} {w0 : World} (hgd : o.guard = none) (s x : Operand)
    (ho : o.op = .call { callee := .builtin .append, args := #[s, x], argTypes := #[45, 45] })
    (base : Nat) (v : Value) (l : List Tk) (n : Tk) (hs : a.eval s = v) (hown : OwnU w0 base v l) (g : Nat)
    (hx : a.eval x = .slice (some ⟨g, 0, none⟩) 1 1) (hc : ∀ j u, n.rcells[j]? = some u → w0.cell? ⟨g, j, none⟩ = some u)
    (hbound : l.length ≤ 1000000000) (hbase : base ≤ w0.heap.size)
    (h : ∀ v' w', OwnU w' base v' (l ++ [n]) → Below base w0 w' → Grew w0 w' v v' → K (a.put o.dst v') w') :
    if Region.wanted o (yielded ops a.tmps) = true then o.wp Try.prog a w0 K Q else E :=
  step_app_row Tk.rcells 45 56 3 32 _ Tk.rcells_len Tk.rone Try.underlying45 info_rtok rfl (by decide) (by decide) hgd s x ho base v l n hs hown g hx hc hbound hbase h
/-- the tokens as the document has them -/
def TokPost (l : List Tk) (w : World) (e : Ending) (w' : World) : Prop := ∃ v, e = .returned v ∧ OwnU w' w.heap.size v l ∧ Below w.heap.size w w'
set_option maxRecDepth 100000 in
set_option maxHeartbeats 4000000 in
theorem Tokens_any (l : List Tk) (v : Value) (w : World) (hl : RowsV Tk.cells 6 w v l) (hln : l.length ≤ 2000) :
    Calls Try.prog 24 #[v] w (TokPost l w) := by
  obtain ⟨a, c, rfl, hrow⟩ := hl
  have hlI : (l.length : Int) ≤ 2000 := by omega
  have hx00 : Below w.heap.size w (w.alloc (.cells #[] 56)) := (Below.refl _ _).alloc (Nat.le_refl _) _
  have HX : Hid (OwnU (w.alloc (.cells #[] 56)) w.heap.size (.slice (some ⟨w.heap.size, 0, none⟩) 0 0) []) := Lib.hid (World.ownsRow_lit w #[] 0 (Nat.le_refl _) (by decide) rfl)
  have HB := Lib.hid (fun p W => bytes_any p W)
  go_enter Try.func24, Try.ntmps24
  go_wp2_with fail
  go_loopw [3, 9] (fun v3 v9 wr => ∃ k : Nat, v9 = .int .i64 k ∧ k ≤ l.length ∧ OwnU wr w.heap.size v3 (l.take k) ∧ Below w.heap.size w wr) (fun _ v9 _ => l.length - (intOf v9).toNat)
  case atStart => exact ⟨0, rfl, Nat.zero_le _, HX.out, hx00⟩
  case round =>
    obtain ⟨k, rfl, hk, hown, hb⟩ := hrel
    clear HX hx00
    have hsz := hb.size
    obtain ⟨aq, cq, rfl⟩ := hown.shape
    by_cases hlt : k < l.length
    · have hkI : (k : Int) < (l.length : Int) := by omega
      obtain ⟨b, off, rfl, hbw, hcell⟩ := hrow (by omega)
      have tc : ∀ j u, (l[k]).cells[j]? = some u → wr.cell? ⟨b, off + k * 6 + j, none⟩ = some u := fun j u h => (hb.cell (p := ⟨b, off + k * 6 + j, none⟩) hbw).trans (hcell k hlt j u h)
      have Hsn : Hid (l.take (k + 1) = l.take k ++ [l[k]]) := Lib.hid (List.take_succ_eq_append_getElem hlt)
      have hql : (l.take k).length ≤ 1000000000 := by rw [List.length_take]; omega
      clear hcell hrow
      generalize l[k] = t at *
      generalize l.take k = q at *
      have t0 : wr.cell? ⟨b, off + k * 6, none⟩ = some (.int .i64 t.kind) := tc 0 _ rfl
      have t1 : wr.cell? ⟨b, off + k * 6 + 1, none⟩ = some (.int .u8 t.b.toNat) := tc 1 _ rfl
      have t2 : wr.cell? ⟨b, off + k * 6 + 2, none⟩ = some (.int .u64 (wordP t.p 0)) := tc 2 _ rfl
      have t3 : wr.cell? ⟨b, off + k * 6 + 3, none⟩ = some (.int .u64 (wordP t.p 1)) := tc 3 _ rfl
      have t4 : wr.cell? ⟨b, off + k * 6 + 4, none⟩ = some (.int .u64 (wordP t.p 2)) := tc 4 _ rfl
      have t5 : wr.cell? ⟨b, off + k * 6 + 5, none⟩ = some (.int .u64 (wordP t.p 3)) := tc 5 _ rfl
      clear tc
      have hown2 := hown.alloc (.cells #[.int .i64 t.kind, .int .u8 t.b.toNat, .int .u64 (wordP t.p 0), .int .u64 (wordP t.p 1), .int .u64 (wordP t.p 2), .int .u64 (wordP t.p 3)] 95)
      have hb2 : Below w.heap.size w (wr.alloc (.cells #[.int .i64 t.kind, .int .u8 t.b.toNat, .int .u64 (wordP t.p 0), .int .u64 (wordP t.p 1), .int .u64 (wordP t.p 2), .int .u64 (wordP t.p 3)] 95)) := hb.alloc hsz _
      have hsz2 := hb2.size
      have hgz : wr.heap.size < (wr.alloc (.cells #[.int .i64 t.kind, .int .u8 t.b.toNat, .int .u64 (wordP t.p 0), .int .u64 (wordP t.p 1), .int .u64 (wordP t.p 2), .int .u64 (wordP t.p 3)] 95)).heap.size := by simp
      have hc : ∀ j u, t.cells[j]? = some u → (wr.alloc (.cells #[.int .i64 t.kind, .int .u8 t.b.toNat, .int .u64 (wordP t.p 0), .int .u64 (wordP t.p 1), .int .u64 (wordP t.p 2), .int .u64 (wordP t.p 3)] 95)).cell? ⟨wr.heap.size, j, none⟩ = some u := cells_row _ _ _ _ rfl
      go_upto_region 5 with fail
      generalize wr.alloc (.cells #[.int .i64 t.kind, .int .u8 t.b.toNat, .int .u64 (wordP t.p 0), .int .u64 (wordP t.p 1), .int .u64 (wordP t.p 2), .int .u64 (wordP t.p 3)] 95) = w5 at *
      have HK : Hid (∀ w3, Below w5.heap.size w5 w3 → w3.cell? ⟨wr.heap.size, 0, none⟩ = some (.int .i64 t.kind) ∧ w3.cell? ⟨wr.heap.size, 1, none⟩ = some (.int .u8 t.b.toNat) ∧ w3.cell? ⟨wr.heap.size, 2, none⟩ = some (.int .u64 (wordP t.p 0)) ∧ w3.cell? ⟨wr.heap.size, 3, none⟩ = some (.int .u64 (wordP t.p 1)) ∧ w3.cell? ⟨wr.heap.size, 4, none⟩ = some (.int .u64 (wordP t.p 2)) ∧ w3.cell? ⟨wr.heap.size, 5, none⟩ = some (.int .u64 (wordP t.p 3))) := Lib.hid (fun w3 h3 => ⟨(h3.cell (p := ⟨wr.heap.size, 0, none⟩) hgz).trans (hc 0 _ rfl), (h3.cell (p := ⟨wr.heap.size, 1, none⟩) hgz).trans (hc 1 _ rfl), (h3.cell (p := ⟨wr.heap.size, 2, none⟩) hgz).trans (hc 2 _ rfl), (h3.cell (p := ⟨wr.heap.size, 3, none⟩) hgz).trans (hc 3 _ rfl), (h3.cell (p := ⟨wr.heap.size, 4, none⟩) hgz).trans (hc 4 _ rfl), (h3.cell (p := ⟨wr.heap.size, 5, none⟩) hgz).trans (hc 5 _ rfl)⟩)
      have HB1 : Hid (∀ W, Calls Try.prog 53 #[SetV t.p] W fun e w' => e = .returned (.string (S t.txt)) ∧ Below W.heap.size W w') := Lib.hid (fun W => by
        have h := HB.out t.p W
        rw [bytes_txt] at h
        exact h)
      have hbw0 : Below w5.heap.size w5 w5.drew := (Below.refl _ _).drew
      have hne : (Value.slice aq q.length cq).ownBlock ≠ some wr.heap.size := by
        intro e
        have := (World.ownsRow.lt hown _ e).2
        omega
      have HG : Hid (∀ (W W' : World) (v' : Value), Grew W W' (Value.slice aq q.length cq) v' → (W.cell? ⟨wr.heap.size, 0, none⟩ = some (.int .i64 t.kind) ∧ W.cell? ⟨wr.heap.size, 1, none⟩ = some (.int .u8 t.b.toNat) ∧ W.cell? ⟨wr.heap.size, 2, none⟩ = some (.int .u64 (wordP t.p 0)) ∧ W.cell? ⟨wr.heap.size, 3, none⟩ = some (.int .u64 (wordP t.p 1)) ∧ W.cell? ⟨wr.heap.size, 4, none⟩ = some (.int .u64 (wordP t.p 2)) ∧ W.cell? ⟨wr.heap.size, 5, none⟩ = some (.int .u64 (wordP t.p 3))) → W'.cell? ⟨wr.heap.size, 0, none⟩ = some (.int .i64 t.kind) ∧ W'.cell? ⟨wr.heap.size, 1, none⟩ = some (.int .u8 t.b.toNat) ∧ W'.cell? ⟨wr.heap.size, 2, none⟩ = some (.int .u64 (wordP t.p 0)) ∧ W'.cell? ⟨wr.heap.size, 3, none⟩ = some (.int .u64 (wordP t.p 1)) ∧ W'.cell? ⟨wr.heap.size, 4, none⟩ = some (.int .u64 (wordP t.p 2)) ∧ W'.cell? ⟨wr.heap.size, 5, none⟩ = some (.int .u64 (wordP t.p 3))) := Lib.hid (fun W W' v' hg h => ⟨hg.grown.cell h.1 (fun e => hne e.symm), hg.grown.cell h.2.1 (fun e => hne e.symm), hg.grown.cell h.2.2.1 (fun e => hne e.symm), hg.grown.cell h.2.2.2.1 (fun e => hne e.symm), hg.grown.cell h.2.2.2.2.1 (fun e => hne e.symm), hg.grown.cell h.2.2.2.2.2 (fun e => hne e.symm)⟩)
      go_region_held3 (fun w' => w'.cell? ⟨wr.heap.size, 0, none⟩ = some (.int .i64 t.kind) ∧ w'.cell? ⟨wr.heap.size, 1, none⟩ = some (.int .u8 t.b.toNat) ∧ w'.cell? ⟨wr.heap.size, 2, none⟩ = some (.int .u64 (wordP t.p 0)) ∧ w'.cell? ⟨wr.heap.size, 3, none⟩ = some (.int .u64 (wordP t.p 1)) ∧ w'.cell? ⟨wr.heap.size, 4, none⟩ = some (.int .u64 (wordP t.p 2)) ∧ w'.cell? ⟨wr.heap.size, 5, none⟩ = some (.int .u64 (wordP t.p 3))) (first | exact HG.out _ _ _ hg4 (HK.out _ (hbw1.alloc hbw1.size _)) | exact HK.out _ hbw1 | exact HK.out _ (hbw1.alloc hbw1.size _) | exact HK.out _ hbw0) (first
        | (go_at_call 53; rw [← SetV_def]; refine (HB1.out _).mono ?_; rintro e w3 ⟨rfl, hb3⟩; have hbw1 : Below w5.heap.size w5 w3 := hbw0.trans (hb3.mono (Nat.le_refl _)); have hown1 := hown2.below hbw1 (Nat.le_refl _))
        | (refine step_app_rtok rfl (.tmp 13) (.tmp 22) rfl w.heap.size _ q t rfl (hown1.alloc _) _ rfl (cells_row _ _ _ _ rfl) hql (by simp; have := hbw1.size; omega) ?_; intro v4 w4 hown4 hb4 hg4))
      go_wp2_with fail
      go_roundw
      case rel => exact ⟨k + 1, by go_num, by omega, by rw [Hsn.out]; exact hown4, (hb2.trans ((hbw1.alloc hbw1.size _).mono hsz2)).trans hb4⟩
      case measure => simp [intOf]; omega
    · have hkk : k = l.length := by omega
      subst hkk
      simp only [List.take_length] at hown ⊢
      go_wp2_with fail
      go_ret
      exact ⟨_, rfl, hown, hb⟩
end Go.Proofs.Ythcmoigdihdabaa
