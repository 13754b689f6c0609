import Derived.Test.YtpfblnegaipgdaaDoorNetB
namespace Go.Proofs.YtpfblnegaipgdaaDoor
open Go.RowKit Go.Lib

theorem rText_any (s : List UInt8) (hs : s.length ≤ 1000000) (w : World) :
    Calls Tryd.prog 12 #[.string (S s)] w fun e w' => e = .returned (.string (S (textL s))) ∧ ∃ m, w' = w.drewN m := by
  have hl := digs_len 6 s.length (by omega)
  have e1 : S (decDigits s.length) ++ (⟨#[58]⟩ : ByteArray) ++ S s ++ ⟨#[44]⟩ = S (textL s) := by
    unfold textL
    rw [← S_append, ← S_append, ← S_append]; rfl
  have E1 := Lib.hid e1
  clear e1
  go_enter Tryd.func12, Tryd.ntmps12
  go_wp2_with fail
  refine (rdig_any 6 s.length (by omega) (by omega) _).mono ?_
  rintro e w1 ⟨rfl, m, rfl⟩
  go_wp2_with fail
  go_ret
  exact ⟨by rw [← E1.out]; rfl, m, rfl⟩

theorem drewN_add (w : World) (a b : Nat) : (w.drewN a).drewN b = w.drewN (a + b) := World.drewN_drewN ..
def rputV (l : List (List UInt8)) : Value := if putB l = true then .tuple #[.string (S (textsL l ++ [10])), .int .i64 0] else .tuple #[.string (S []), .int .i64 12]

set_option maxRecDepth 100000 in
set_option maxHeartbeats 1000000 in
theorem rPut_any (l : List (List UInt8)) (v : Value) (hl : l.length ≤ 1000000) (hm : ∀ s ∈ l, s.length ≤ 100000) (w : World) (hv : StrsV w v l) :
    Calls Tryd.prog 14 #[v] w fun e w' => e = .returned (putV l) ∧ ∃ m, w' = w.drewN m := by
  obtain ⟨a, c, rfl, hv⟩ := hv
  go_enter Tryd.func14, Tryd.ntmps14
  go_wp2
  go_loopw [4, 5] (fun s i wr => ∃ k : Nat, k ≤ l.length ∧ i = .int .i64 k ∧ s = .string (S (textsL (l.take k))) ∧ (textsL (l.take k)).length ≤ 8192 ∧ ∃ m, wr = w.drewN m) (fun _ i _ => l.length - (intOf i).toNat)
  case atStart => exact ⟨0, by omega, rfl, rfl, by simp [textsL], 0, rfl⟩
  case round =>
    obtain ⟨k, hk, rfl, rfl, hle, m, rfl⟩ := hrel
    by_cases hlt : k < l.length
    · obtain ⟨b, off, rfl, h1, h2⟩ := hv (by omega)
      have hc : w.cell? ⟨b, off + k, none⟩ = some (.string (S l[k])) := h2 k hlt
      have hnx := texts_take_succ l k hlt
      have hnl : (textsL (l.take (k + 1))).length = (textsL (l.take k)).length + (textL l[k]).length := by rw [hnx, List.length_append]
      have HN := Lib.hid hnl
      have HS := Lib.hid (show S (textsL (l.take k)) ++ S (textL l[k]) = S (textsL (l.take (k + 1))) by rw [hnx, S_append])
      have hsz := hm l[k] (List.getElem_mem hlt)
      have hlen2 : (textL l[k]).length ≤ 2000000 := by
        have := text_len l[k]
        have := digs_len 6 l[k].length (by omega)
        omega
      clear h2 hnx hnl
      by_cases ht : (textsL (l.take k)).length + (textL l[k]).length ≤ 8192
      · go_wp2_with fail
        refine (rText_any l[k] (by omega) _).mono ?_
        rintro e w1 ⟨rfl, m1, rfl⟩
        go_wp2_with fail
        go_roundw
        case rel => exact ⟨k + 1, by omega, by go_num, by rw [← HS.out], by rw [HN.out]; exact ht, m + m1, rfl⟩
        case measure => simp [intOf]; omega
      · have hno : putV l = .tuple #[.string (S []), .int .i64 12] := by
          unfold putV putB
          have := texts_take_le l (k + 1)
          rw [HN.out] at this
          rw [if_neg (by simp; omega)]
        have HNo := Lib.hid hno
        clear hno
        go_wp2_with fail
        refine (rText_any l[k] (by omega) _).mono ?_
        rintro e w1 ⟨rfl, m1, rfl⟩
        go_wp2_with fail
        go_ret2
        exact ⟨by rw [HNo.out]; rfl, m + m1, rfl⟩
    · have : k = l.length := by omega
      subst this
      rw [List.take_length] at *
      have hyes : putV l = .tuple #[.string (S (textsL l ++ [10])), .int .i64 0] := by
        unfold putV putB
        rw [if_pos (by simp; omega)]
      have hcat : S (textsL l) ++ (⟨#[10]⟩ : ByteArray) = S (textsL l ++ [10]) := by rw [← S_append]; rfl
      have HC := Lib.hid hcat
      have HY := Lib.hid hyes
      clear hyes hcat
      go_wp2
      go_ret2
      exact ⟨by rw [HY.out, ← HC.out]; rfl, m, rfl⟩

theorem getl (l : List (List UInt8)) (k : Nat) (h : k < l.length) (r : List (List UInt8)) (h2 : k < r.length) (h0 : l.take k = r.take k) (e : l[k] = r[k]) : l.take (k + 1) = r.take (k + 1) := by
  rw [List.take_succ_eq_append_getElem h, List.take_succ_eq_append_getElem h2, h0, e]
set_option maxRecDepth 100000 in
/-- are two slices of strings the same -/
theorem Same_any (l r : List (List UInt8)) (v u : Value) (hl : l.length ≤ 1000000000) (w : World) (hv : StrsV w v l) (hu : StrsV w u r) :
    Calls Tryd.prog 17 #[v, u] w fun e w' => e = .returned (.bool (decide (l = r))) ∧ ∃ m, w' = w.drewN m := by
  obtain ⟨a, c, rfl, hv⟩ := hv
  obtain ⟨a2, c2, rfl, hu⟩ := hu
  by_cases hlen : l.length = r.length
  · have hlen1 : l.length ≤ r.length := by omega
    have hlen2 : r.length ≤ l.length := by omega
    have HL := Lib.hid hlen
    have hbe : ((l.length : Int) != r.length) = false := by rw [hlen]; simp
    clear hlen
    go_enter Tryd.func17, Tryd.ntmps17
    go_wp2
    go_loopw [5] (fun i wr => ∃ k : Nat, k ≤ l.length ∧ i = .int .i64 k ∧ l.take k = r.take k ∧ ∃ m, wr = w.drewN m) (fun i _ => l.length - (intOf i).toNat)
    case atStart => exact ⟨0, by omega, rfl, rfl, 0, rfl⟩
    case round =>
      obtain ⟨k, hk, rfl, heq, hm⟩ := hrel
      have HE := Lib.hid heq
      by_cases hlt : k < l.length
      · have hlt2 : k < r.length := by omega
        obtain ⟨b, off, rfl, _, h2⟩ := hv (by omega)
        obtain ⟨b2, off2, rfl, _, h4⟩ := hu (by omega)
        have hc : wr.cell? ⟨b, off + k, none⟩ = some (.string (S l[k])) := by obtain ⟨m, rfl⟩ := hm; exact h2 k hlt
        have hc2 : wr.cell? ⟨b2, off2 + k, none⟩ = some (.string (S r[k])) := by obtain ⟨m, rfl⟩ := hm; exact h4 k hlt2
        have HM := Lib.hid hm
        clear h2 h4 hm heq
        by_cases he : l[k] = r[k]
        · have hb : (l[k] == r[k]) = true := beq_iff_eq.2 he
          have HN := Lib.hid (getl l k hlt r hlt2 HE.out he)
          clear he
          go_wp2
          go_quiet (fail)
          go_wp2
          go_roundw
          case rel => exact ⟨k + 1, by omega, by go_num, HN.out, by obtain ⟨m, rfl⟩ := HM.out; exact ⟨m + nq, drewN_add _ _ _⟩⟩
          case measure => simp [intOf]; omega
        · have hb : (l[k] == r[k]) = false := beq_eq_false_iff_ne.2 he
          have hne : decide (l = r) = false := decide_eq_false_iff_not.2 fun g => he (by subst g; rfl)
          have HN := Lib.hid hne
          clear he hne
          go_wp2
          go_quiet (fail)
          go_wp2
          go_ret
          exact ⟨by rw [HN.out]; rfl, by obtain ⟨m, rfl⟩ := HM.out; exact ⟨m + nq, drewN_add _ _ _⟩⟩
      · have : k = l.length := by omega
        subst this
        have hyes : decide (l = r) = true := decide_eq_true_iff.2 (by rw [List.take_length] at heq; rw [heq, HL.out, List.take_length])
        have HY := Lib.hid hyes
        obtain ⟨m, rfl⟩ := hm
        clear hyes heq
        go_wp2
        go_ret
        exact ⟨by rw [HY.out]; rfl, m, rfl⟩
  · have hbe : ((l.length : Int) != r.length) = true := by rw [bne_iff_ne]; omega
    have hne : decide (l = r) = false := decide_eq_false_iff_not.2 fun g => hlen (by rw [g])
    have HN := Lib.hid hne
    clear hlen hne
    go_enter Tryd.func17, Tryd.ntmps17
    go_wp2
    go_ret
    exact ⟨by rw [HN.out]; rfl, 0, rfl⟩
end Go.Proofs.YtpfblnegaipgdaaDoor
