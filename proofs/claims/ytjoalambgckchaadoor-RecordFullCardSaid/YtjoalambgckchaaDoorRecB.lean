/- Slices of records; record.Print. -/
import Derived.Test.YtjoalambgckchaaDoorRecA
namespace Go.Proofs.YtjoalambgckchaaDoor
open Go.RowKit Go.Lib

def pf (p : PR) : List Value := [.string (S p.1), .string (S p.2)]
theorem pf_len (p : PR) : (pf p).length = 2 := rfl
theorem pf_one (p : PR) : ∀ u ∈ pf p, u.oneCell' = true := by
  intro u hu
  rcases List.mem_cons.1 hu with rfl | h
  · rfl
  · rw [List.mem_singleton.1 h]; rfl
theorem info_pair : (Tryd.prog.info? 25).map (fun i => (i.zero, i.size, i.bytes)) = some (some (.agg #[.string ⟨#[]⟩, .string ⟨#[]⟩]), 2, 32) := by kernel_rfl
abbrev PairsV (w : World) (v : Value) (l : List PR) : Prop := RowsV pf 2 w v l
abbrev OwnP (w : World) (base : Nat) (v : Value) (l : List PR) : Prop := OwnR pf 25 2 w base v l
/-- 'append(v, p)' on a slice of pairs of the call's own -/
theorem app_pair {ops : Array Oper} {rest : List Oper} {o : Oper} {a : Act} {Q : Exit → Act → World → Prop} {w0 : World} (hgd : o.guard = none) (s x : Operand)
    (ho : o.op = .call { callee := .builtin .append, args := #[s, x], argTypes := #[22, 22] })
    (base : Nat) (v : Value) (l : List PR) (n : PR) (hs : a.eval s = v) (hown : OwnP w0 base v l)
    (hx : a.eval x = .slice (some ⟨w0.heap.size, 0, none⟩) 1 1)
    (hbound : l.length ≤ 1000000000) (hbase : base ≤ w0.heap.size)
    (h : ∀ v' w', OwnP w' base v' (l ++ [n]) → Below base w0 w' → Grew w0 w' v v' → wpList Tryd.prog ops Q rest (a.put o.dst v') w') :
    wpList Tryd.prog ops Q (o :: rest) a (w0.alloc (.cells #[.string (S n.1), .string (S n.2)] 25)) :=
  app_row pf 22 25 2 32 _ pf_len pf_one Tryd.underlying22 info_pair rfl (by decide) (by decide) hgd s x ho base v l n _ rfl hs hown hx hbound hbase h

/-- a pair lies at a block -/
def PairAt (w : World) (g : Nat) (k v : List UInt8) : Prop := w.heap[g]? = some (.cells #[.string (S k), .string (S v)] 25 (0, 0))
theorem PairAt.new (w : World) (k v : List UInt8) : PairAt (w.alloc (.cells #[.string (S k), .string (S v)] 25)) w.heap.size k v := heap_alloc_new _ _
theorem PairAt.c0 {w : World} {g : Nat} {k v : List UInt8} (h : PairAt w g k v) : w.cell? ⟨g, 0, none⟩ = some (.string (S k)) := by unfold World.cell?; rw [h]; rfl
theorem PairAt.c1 {w : World} {g : Nat} {k v : List UInt8} (h : PairAt w g k v) : w.cell? ⟨g, 1, none⟩ = some (.string (S v)) := by unfold World.cell?; rw [h]; rfl
theorem PairAt.lt {w : World} {g : Nat} {k v : List UInt8} (h : PairAt w g k v) : g < w.heap.size := by
  rcases Nat.lt_or_ge g w.heap.size with x | x
  · exact x
  · unfold PairAt at h; rw [Array.getElem?_eq_none x] at h; cases h
theorem PairAt.below {w w' : World} {g B : Nat} {k v : List UInt8} (h : PairAt w g k v) (hb : Below B w w') (hB : g < B) : PairAt w' g k v := by
  unfold PairAt; rw [hb.block g hB]; exact h
theorem PairAt.kept {w w' : World} {g : Nat} {k v : List UInt8} (h : PairAt w g k v) (hk : Lib.OthersKept 5 none w w') : PairAt w' g k v :=
  hk g _ h (by simp) (by intro c fz e; injection e with _ e2 _; revert e2; decide)
theorem tot_take (l : List PR) (k : Nat) (h : k < l.length) : totP (l.take (k + 1)) = totP (l.take k) + sizeP l[k] := by
  rw [List.take_succ_eq_append_getElem h, tot_snoc]
theorem recs_take (l : List PR) (k : Nat) (h : k < l.length) : recsL (l.take (k + 1)) = recsL (l.take k) ++ recL l[k] := by
  rw [List.take_succ_eq_append_getElem h, recs_snoc]
theorem tot_take_le (l : List PR) (k : Nat) : totP (l.take k) ≤ totP l := by
  have : totP l = totP (l.take k) + totP (l.drop k) := by
    unfold totP
    rw [← List.sum_append, ← List.map_append, List.take_append_drop]
  omega
theorem all_take (l : List PR) (k : Nat) (h : k < l.length) (ha : (l.take k).all rightP = true) (hr : rightP l[k] = true) : (l.take (k + 1)).all rightP = true := by
  rw [List.take_succ_eq_append_getElem h, List.all_append, ha]; simp [hr]
theorem not_all (l : List PR) (k : Nat) (h : k < l.length) (hr : rightP l[k] = false) : l.all rightP = false := by
  cases e : l.all rightP
  · rfl
  · have := List.all_eq_true.1 e _ (List.getElem_mem h)
    rw [hr] at this; cases this
set_option maxRecDepth 100000 in
set_option maxHeartbeats 4000000 in
theorem Print06_any (l : List PR) (v : Value) (hm : ∀ p ∈ l, p.1.length + p.2.length ≤ 100000) (hl : l.length ≤ 1000000) (w : World) (hT : TB w.heap.size w) (hv : PairsV w v l) :
    Calls Tryd.prog 12 #[v] w fun e w' => e = .returned (.tuple #[.string (S (printF l).1), .int .i64 ((printF l).2 : Nat)]) ∧ Below w.heap.size w w' := by
  obtain ⟨a, c, rfl, hv⟩ := hv
  by_cases hbig : 256 < l.length
  · have HP := Lib.hid (show printF l = ([], 8) by unfold printF; rw [if_pos hbig])
    go_enter Tryd.func12, Tryd.ntmps12
    go_wp2
    go_ret2
    exact ⟨by rw [HP.out]; rfl, Below.refl _ _⟩
  · go_enter Tryd.func12, Tryd.ntmps12
    go_wp2
    go_loopw [4, 15] (fun n i wr => ∃ k : Nat, k ≤ l.length ∧ i = .int .i64 k ∧ n = .int .i64 (min (totP (l.take k)) 65537 : Nat) ∧ (l.take k).all rightP = true ∧ Below w.heap.size w wr) (fun _ i _ => l.length - (RowKit.intOf i).toNat)
    case atStart => exact ⟨0, by omega, rfl, rfl, rfl, Below.refl _ _⟩
    case round =>
      obtain ⟨k, hk, rfl, rfl, hall, hb⟩ := hrel
      by_cases hlt : k < l.length
      · obtain ⟨b, off, rfl, h1, h2⟩ := hv (by omega)
        have hc0 : wr.cell? ⟨b, off + k * 2, none⟩ = some (.string (S l[k].1)) := by rw [hb.cell (by exact h1)]; exact h2 k hlt 0 _ rfl
        have hc1 : wr.cell? ⟨b, off + k * 2 + 1, none⟩ = some (.string (S l[k].2)) := by rw [hb.cell (by exact h1)]; exact h2 k hlt 1 _ rfl
        have hsz := hm l[k] (List.getElem_mem hlt)
        have HT := Lib.hid (tot_take l k hlt)
        have HA := Lib.hid (all_take l k hlt hall)
        have HN := Lib.hid (not_all l k hlt)
        clear h2
        have hpp : sizeP l[k] = sizeP (l[k].1, l[k].2) := rfl
        have hrr : rightP l[k] = rightP (l[k].1, l[k].2) := rfl
        have hbs := (bigP l[k].1 l[k].2 (by omega)).2.2.1
        rw [hpp] at HT
        rw [hrr] at HA HN
        generalize l[k].1 = kk at *
        generalize l[k].2 = vv at *
        have hB1 := hb.alloc (by have := hb.size; omega) (.cells #[.string (S kk), .string (S vv)] 25)
        clear hpp hrr hall
        have hmn : min (totP (l.take k)) 65537 ≤ 65537 := Nat.min_le_right _ _
        have HM := Lib.hid (show min (min (totP (l.take k)) 65537 + sizeP (kk, vv)) 65537 = min (totP (l.take (k + 1))) 65537 by rw [HT.out]; omega)
        generalize min (totP (l.take k)) 65537 = mm at *
        go_wp2_with fail
        refine (Right06_any kk vv _).mono ?_
        rintro e w1 ⟨rfl, hb1⟩
        have hB2 := hB1.trans (hb1.mono hB1.size)
        cases hr : rightP (kk, vv)
        · have HP := Lib.hid (show printF l = ([], 2) by unfold printF; rw [if_neg hbig, if_pos (HN.out hr)])
          go_wp2
          go_ret2
          exact ⟨by rw [HP.out]; rfl, hB2⟩
        · have hR := Lib.hid (HA.out hr)
          have hP := ((PairAt.new wr kk vv).below hb1 (by simp))
          have hd0 := hP.c0
          have hd1 := hP.c1
          go_wp2_with fail
          refine (rSize0_any kk vv (by omega) _ (hT.on hB2) hB2.size).mono ?_
          rintro e w2 ⟨rfl, hb2⟩
          have hB3 := chain hB2 hb2
          have hmi : min ((mm : Int) + (sizeP (kk, vv) : Nat)) 65537 = (min (totP (l.take (k + 1))) 65537 : Nat) := by rw [← HM.out]; omega
          go_wp2_with fail
          go_roundw
          case rel => exact ⟨k + 1, by omega, by go_num, rfl, hR.out, hB3⟩
          case measure => simp [RowKit.intOf]; omega
      · have : k = l.length := by omega
        subst this
        rw [List.take_length] at *
        by_cases htot : 65536 < totP l
        · have HP := Lib.hid (show printF l = ([], 12) by unfold printF; rw [if_neg hbig, if_neg (by rw [hall]; decide), if_pos htot])
          have hmin : min (totP l) 65537 = 65537 := by omega
          rw [hmin]
          go_wp2
          go_ret2
          exact ⟨by rw [HP.out]; rfl, hb⟩
        · have HP := Lib.hid (show printF l = (recsL l, 0) by unfold printF; rw [if_neg hbig, if_neg (by rw [hall]; decide), if_neg htot])
          have hmin : min (totP l) 65537 = totP l := by omega
          rw [hmin]
          clear hmin hall hbig
          obtain ⟨wo, hwo⟩ : ∃ wo : World, wo = wr := ⟨_, rfl⟩
          subst hwo
          go_wp2
          go_loopw [7, 32] (fun v i wr => ∃ k : Nat, k ≤ l.length ∧ i = .int .i64 k ∧ OwnB wr w.heap.size v (recsL (l.take k)) ∧ Below w.heap.size w wr) (fun _ i _ => l.length - (RowKit.intOf i).toNat)
          case atStart => exact ⟨0, by omega, rfl, OwnB.nil _ _, hb⟩
          case round =>
            clear hb hk
            obtain ⟨k, hk, rfl, hO, hb⟩ := hrel
            have htl := tot_take_le l k
            have hrl : (recsL (l.take k)).length = totP (l.take k) := recs_len _ (fun p hp => by have := hm p (List.mem_of_mem_take hp); unfold bareP; omega)
            by_cases hlt : k < l.length
            · obtain ⟨b, off, rfl, h1, h2⟩ := hv (by omega)
              have hc0 : wr.cell? ⟨b, off + k * 2, none⟩ = some (.string (S l[k].1)) := by rw [hb.cell (by exact h1)]; exact h2 k hlt 0 _ rfl
              have hc1 : wr.cell? ⟨b, off + k * 2 + 1, none⟩ = some (.string (S l[k].2)) := by rw [hb.cell (by exact h1)]; exact h2 k hlt 1 _ rfl
              have hsz := hm l[k] (List.getElem_mem hlt)
              have hR := recs_take l k hlt
              clear h2
              have hpp : recL l[k] = decDigits (sizeP (l[k].1, l[k].2)) ++ (32 :: (l[k].1 ++ (61 :: (l[k].2 ++ [10])))) := rfl
              rw [hpp, ← List.append_assoc] at hR
              have HR := Lib.hid hR
              have hbs := (bigP l[k].1 l[k].2 (by omega)).2.2.1
              clear hpp hR
              generalize l[k].1 = kk at *
              generalize l[k].2 = vv at *
              have hcat : (⟨#[32]⟩ : ByteArray) ++ S kk ++ ⟨#[61]⟩ ++ S vv ++ ⟨#[10]⟩ = S (32 :: (kk ++ (61 :: (vv ++ [10])))) := by
                show _ = S ([32] ++ (kk ++ ([61] ++ (vv ++ [10]))))
                rw [← List.append_assoc, ← List.append_assoc, ← List.append_assoc, ← S_append, ← S_append, ← S_append, ← S_append]; rfl
              have hcl : (32 :: (kk ++ (61 :: (vv ++ [10])))).length ≤ 100003 := by simp; omega
              have hB1 := hb.alloc (by have := hb.size; omega) (.cells #[.string (S kk), .string (S vv)] 25)
              have hdl := digs_len 5 (sizeP (kk, vv)) (by omega)
              have hO0 := hO.alloc (.cells #[.string (S kk), .string (S vv)] 25)
              go_wp2_with fail
              refine (rSize0_any kk vv (by omega) _ (hT.on hB1) hB1.size).mono ?_
              rintro e w1 ⟨rfl, hb1⟩
              have hB2 := chain hB1 hb1
              have hO1 := hO0.below hb1 (Nat.le_refl _)
              have hP := ((PairAt.new wr kk vv).below hb1 (by simp))
              have hgb : w.heap.size ≤ wr.heap.size := hb.size
              clear hO0 hb1 hB1
              have hs1 := hB2.size
              generalize hg : wr.heap.size = g at *
              go_wp2_with fail
              refine (Go.Proofs.Tryd.strconv_AppendInt_10 w.heap.size (recsL (l.take k)).length (sizeP (kk, vv)) (by omega) (by omega) _ ((recsL (l.take k)).map bv) _ hO1 hs1 (by omega) (hT.on hB2)).mono ?_
              rintro e w2 ⟨v1, rfl, hO2, hb2, hgr⟩
              replace hO2 : OwnB w2 w.heap.size v1 (recsL (l.take k) ++ decDigits (sizeP (kk, vv))) := by
                unfold OwnB
                have hi : itoa ((sizeP (kk, vv) : Nat) : Int) = decDigits (sizeP (kk, vv)) := by unfold itoa; rw [if_neg (by omega), Int.toNat_natCast]
                rw [hi] at hO2
                rw [List.map_append, List.length_append]
                exact hO2
              have hP2 := hP.kept hgr
              have hd0 := hP2.c0
              have hd1 := hP2.c1
              have hB3 := hB2.trans hb2
              have hs2 := hB3.size
              have hgl : (recsL (l.take k) ++ decDigits (sizeP (kk, vv))).length ≤ 70000 := by rw [List.length_append]; omega
              have HG := Lib.hid hgl
              have HC := Lib.hid hcl
              clear hgl hcl hgr hb2 hO1
              go_wp2_with (refine app_text rfl (.tmp 40) (.tmp 48) rfl w.heap.size v1 _ (32 :: (kk ++ (61 :: (vv ++ [10])))) rfl hO2 rfl (by have := HG.out; have := HC.out; omega) hs2 ?_; intro v2 w3 hO3 hb3)
              go_roundw
              case rel => exact ⟨k + 1, by omega, by go_num, by rw [HR.out]; exact hO3, hB3.trans hb3⟩
              case measure => simp [RowKit.intOf]; omega
            · have : k = l.length := by omega
              subst this
              rw [List.take_length] at hO
              have hcv := run_string_own _ _ _ _ hO
              go_wp2
              go_ret2
              exact ⟨by rw [HP.out]; rfl, hb⟩
end Go.Proofs.YtjoalambgckchaaDoor
