/- Heads of members: header.texts and header.values, walked: the maps that they make. -/
import Derived.Test.YtjldphpdfckjnaaDoorHdG
import Derived.Test.YtjldphpdfckjnaaDoorKMap
namespace Go.Proofs.YtjldphpdfckjnaaDoor
open Go.RowKit Go.Maps

theorem app_put {e t : TypeId} (ht : Tryd.prog.underlying t = some (.map 3 e)) (w : World) {ops : Array Oper} {rest : List Oper} {o : Oper} {a : Act} {Q : Exit → Act → World → Prop}
    (hg : o.guard = none) (m x v : Operand) (hop : o.op = Op.insert t m x v) (b n : Nat) (M : Int → Option Lit) (hm : a.eval m = .map (some b)) (hown : KMap e w b n M) (hn : n < 1000)
    (k : Int) (hk : (Lit.int .i64 k).wf = true) (val : Value) (hx : a.eval x = .int .i64 k) (hv : a.eval v = val) (l : Lit) (hval : plainElem (H := Unit) Tryd.prog e val = some (.lit l, []))
    (B : Nat) (wb : World) (hB : Below B wb w) (hb : B ≤ b)
    (hK : ∀ w', KMap e w' b (n + 1) (fun y => if y = k then some l else M y) → Below B wb w' → (∀ j, j < w.heap.size → j ≠ b → w'.heap[j]? = w.heap[j]?) → w.heap.size ≤ w'.heap.size → wpList Tryd.prog ops Q rest (a.put o.dst undef) w') :
    wpList Tryd.prog ops Q (o :: rest) a w := by
  refine wpList_plain hg fun K' hK' => ?_
  have hlt := hown.lt
  obtain ⟨w', hrun, r1, r2⟩ := hown.put ht (by omega) k hk val l hval
  unfold Oper.wp
  simp [execOp, hop, hm, hx, hv, hrun, Result.andThen]
  exact hK' _ _ (hK w' r1 (hB.trans (grown_below r2 (by omega) hb)) (fun j hj hne => r2.block j hj (fun e => hne (by injection e))) r2.size)
def textM (h : HeadL) : Int → Option Lit := fun y => if y = 8 then some (.string h.gname) else if y = 7 then some (.string h.uname) else if y = 6 then some (.string h.link) else if y = 11 then some (.string (partP h)) else if y = 0 then some (.string (partB h)) else none
def numM (h : HeadL) : Int → Option Lit := fun y => if y = 10 then some (.int .i64 h.minor) else if y = 9 then some (.int .i64 h.major) else if y = 5 then some (.int .i64 h.time) else if y = 4 then some (.int .i64 h.size) else if y = 3 then some (.int .i64 h.gid) else if y = 2 then some (.int .i64 h.uid) else if y = 1 then some (.int .i64 h.mode) else none
def shortH (h : HeadL) (n : Nat) : Prop := h.name.length ≤ n ∧ h.link.length ≤ n ∧ h.uname.length ≤ n ∧ h.gname.length ≤ n
def wfI (v : Int) : Prop := (Lit.int .i64 v).wf = true
def wfH (h : HeadL) : Prop := wfI h.mode ∧ wfI h.uid ∧ wfI h.gid ∧ wfI h.size ∧ wfI h.time ∧ wfI h.major ∧ wfI h.minor
theorem part_le (h : HeadL) : (partP h).length ≤ h.name.length ∧ (partB h).length ≤ h.name.length := by
  unfold partP partB partF
  split
  · exact ⟨Nat.zero_le _, Nat.le_refl _⟩
  · split
    · exact ⟨Nat.zero_le _, Nat.zero_le _⟩
    · rw [size_len, size_len, ByteArray.size_extract, ByteArray.size_extract, S_size]
      omega
theorem partV_H (h : HeadL) : partV (partF (S h.name)) = .tuple #[.string (S (partP h)), .string (S (partB h)), .bool (partO h)] := rfl
set_option maxRecDepth 100000 in
set_option maxHeartbeats 4000000 in
theorem texts_any (h : HeadL) (w : World) (hs : shortH h 1000000) :
    Calls Tryd.prog 104 #[HV h] w fun e w' => ∃ b, e = .returned (.tuple #[.map (some b), .bool (partO h)]) ∧ KMap 9 w' b 5 (textM h) ∧ w.heap.size ≤ b ∧ Below w.heap.size w w' := by
  obtain ⟨n1, n2, n3, n4⟩ := hs
  have hpl := part_le h
  have HP := Lib.hid (fun w => part_any (S h.name) w (by rw [S_size]; exact n1))
  rw [partV_H] at HP
  have E1 := Lib.hid (elem_S (partB h) (by omega))
  have E2 := Lib.hid (elem_S (partP h) (by omega))
  have E3 := Lib.hid (elem_S h.link (by omega))
  have E4 := Lib.hid (elem_S h.uname (by omega))
  have E5 := Lib.hid (elem_S h.gname (by omega))
  have HT : Hid (textM h = fun y => if y = 8 then some (.string h.gname) else if y = 7 then some (.string h.uname) else if y = 6 then some (.string h.link) else if y = 11 then some (.string (partP h)) else if y = 0 then some (.string (partB h)) else none) := Lib.hid rfl
  generalize partP h = p at *
  generalize partB h = q at *
  generalize partO h = ok at *
  have HH0 : Hid (HAt (w.alloc (.cells (HC h).toArray 68)) w.heap.size h) := Lib.hid (AtB.new w _ (HC h))
  have HX0 : Hid (Below w.heap.size w (w.alloc (.cells (HC h).toArray 68))) := Lib.hid ((Below.refl _ _).alloc (Nat.le_refl _) _)
  have hmm := @run_makeMap Tryd.prog
  rw [HV_eq]
  clear hpl n1 n2 n3 n4
  go_enter Tryd.func104, Tryd.ntmps104
  go_wp2_with (refine hl_get rfl 9 _ rfl (noagg_str _) _ 0 rfl h HH0.out (.string (S h.name)) rfl ?_)
  refine (HP.out _).mono ?_
  rintro e w1 ⟨rfl, hb1⟩
  have HH1 := Lib.hid (HH0.out.under hb1 HH0.out.lt)
  have HX1 := Lib.hid (HX0.out.trans (hb1.mono HX0.out.size))
  have HM1 : Hid (KMap 9 (w1.alloc (.map #[] 0)) w1.heap.size 0 (fun _ => none)) := Lib.hid (KMap.made _ w1)
  have HH2 : Hid (HAt (w1.alloc (.map #[] 0)) w.heap.size h) := Lib.hid (AtB.alloc HH1.out _)
  have HX2 : Hid (Below w.heap.size w (w1.alloc (.map #[] 0))) := Lib.hid (HX1.out.alloc HX1.out.size _)
  have hgm : w.heap.size < w1.heap.size := HH1.out.lt
  clear HP HH0 HX0 hb1 HH1 HX1
  go_wp2_with (first | (refine app_put Tryd.underlying151 _ rfl _ _ _ rfl w1.heap.size 0 (fun _ => none) rfl HM1.out (by decide) 0 rfl (.string (S q)) rfl rfl (.string q) E1.out w.heap.size w HX2.out (by omega) ?_; intro v0 hm hb hk hz; have HM0a := Lib.hid hm; have HX0a := Lib.hid hb; have HH0a := Lib.hid (HH2.out.same (hk _ HH2.out.lt (by omega))); clear hm hb hk hz HM1 HX2 HH2) | (refine app_put Tryd.underlying151 _ rfl _ _ _ rfl w1.heap.size 1 (fun y => if y = 0 then some (.string q) else (fun _ => none) y) rfl HM0a.out (by decide) 11 rfl (.string (S p)) rfl rfl (.string p) E2.out w.heap.size w HX0a.out (by omega) ?_; intro v1 hm hb hk hz; have HM1a := Lib.hid hm; have HX1a := Lib.hid hb; have HH1a := Lib.hid (HH0a.out.same (hk _ HH0a.out.lt (by omega))); clear hm hb hk hz HM0a HX0a HH0a) | (refine hl_get rfl 9 _ rfl (noagg_str _) w.heap.size 1 rfl h HH1a.out (.string (S h.link)) rfl ?_) | (refine app_put Tryd.underlying151 _ rfl _ _ _ rfl w1.heap.size 2 (fun y => if y = 11 then some (.string p) else (fun y => if y = 0 then some (.string q) else (fun _ => none) y) y) rfl HM1a.out (by decide) 6 rfl (.string (S h.link)) rfl rfl (.string h.link) E3.out w.heap.size w HX1a.out (by omega) ?_; intro v2 hm hb hk hz; have HM2a := Lib.hid hm; have HX2a := Lib.hid hb; have HH2a := Lib.hid (HH1a.out.same (hk _ HH1a.out.lt (by omega))); clear hm hb hk hz HM1a HX1a HH1a) | (refine hl_get rfl 9 _ rfl (noagg_str _) w.heap.size 8 rfl h HH2a.out (.string (S h.uname)) rfl ?_) | (refine app_put Tryd.underlying151 _ rfl _ _ _ rfl w1.heap.size 3 (fun y => if y = 6 then some (.string h.link) else (fun y => if y = 11 then some (.string p) else (fun y => if y = 0 then some (.string q) else (fun _ => none) y) y) y) rfl HM2a.out (by decide) 7 rfl (.string (S h.uname)) rfl rfl (.string h.uname) E4.out w.heap.size w HX2a.out (by omega) ?_; intro v3 hm hb hk hz; have HM3a := Lib.hid hm; have HX3a := Lib.hid hb; have HH3a := Lib.hid (HH2a.out.same (hk _ HH2a.out.lt (by omega))); clear hm hb hk hz HM2a HX2a HH2a) | (refine hl_get rfl 9 _ rfl (noagg_str _) w.heap.size 9 rfl h HH3a.out (.string (S h.gname)) rfl ?_) | (refine app_put Tryd.underlying151 _ rfl _ _ _ rfl w1.heap.size 4 (fun y => if y = 7 then some (.string h.uname) else (fun y => if y = 6 then some (.string h.link) else (fun y => if y = 11 then some (.string p) else (fun y => if y = 0 then some (.string q) else (fun _ => none) y) y) y) y) rfl HM3a.out (by decide) 8 rfl (.string (S h.gname)) rfl rfl (.string h.gname) E5.out w.heap.size w HX3a.out (by omega) ?_; intro v4 hm hb hk hz; have HM4a := Lib.hid hm; have HX4a := Lib.hid hb; have HH4a := Lib.hid (HH3a.out.same (hk _ HH3a.out.lt (by omega))); clear hm hb hk hz HM3a HX3a HH3a))
  go_ret2
  exact ⟨w1.heap.size, rfl, by rw [HT.out]; exact HM4a.out, by omega, HX4a.out⟩
set_option maxRecDepth 100000 in
set_option maxHeartbeats 4000000 in
theorem values_any (h : HeadL) (w : World) (hs : wfH h) :
    Calls Tryd.prog 105 #[HV h] w fun e w' => ∃ b, e = .returned (.map (some b)) ∧ KMap 3 w' b 7 (numM h) ∧ w.heap.size ≤ b ∧ Below w.heap.size w w' := by
  obtain ⟨n1, n2, n3, n4, n5, n6, n7⟩ := hs
  have E1 := Lib.hid (elem_I h.mode n1)
  have E2 := Lib.hid (elem_I h.uid n2)
  have E3 := Lib.hid (elem_I h.gid n3)
  have E4 := Lib.hid (elem_I h.size n4)
  have E5 := Lib.hid (elem_I h.time n5)
  have E6 := Lib.hid (elem_I h.major n6)
  have E7 := Lib.hid (elem_I h.minor n7)
  have HT : Hid (numM h = fun y => if y = 10 then some (.int .i64 h.minor) else if y = 9 then some (.int .i64 h.major) else if y = 5 then some (.int .i64 h.time) else if y = 4 then some (.int .i64 h.size) else if y = 3 then some (.int .i64 h.gid) else if y = 2 then some (.int .i64 h.uid) else if y = 1 then some (.int .i64 h.mode) else none) := Lib.hid rfl
  obtain ⟨w1, hw1⟩ : ∃ w1, w1 = w.alloc (.cells (HC h).toArray 68) := ⟨_, rfl⟩
  have HH1 : Hid (HAt w1 w.heap.size h) := Lib.hid (by rw [hw1]; exact AtB.new w _ (HC h))
  have HX1 : Hid (Below w.heap.size w w1) := Lib.hid (by rw [hw1]; exact (Below.refl _ _).alloc (Nat.le_refl _) _)
  have HW := Lib.hid hw1
  have HM1 : Hid (KMap 3 (w1.alloc (.map #[] 0)) w1.heap.size 0 (fun _ => none)) := Lib.hid (KMap.made _ w1)
  have HH2 : Hid (HAt (w1.alloc (.map #[] 0)) w.heap.size h) := Lib.hid (AtB.alloc HH1.out _)
  have HX2 : Hid (Below w.heap.size w (w1.alloc (.map #[] 0))) := Lib.hid (HX1.out.alloc HX1.out.size _)
  have hgm : w.heap.size < w1.heap.size := HH1.out.lt
  have hmm := @run_makeMap Tryd.prog
  rw [HV_eq]
  clear n1 n2 n3 n4 n5 n6 n7 hw1 HH1 HX1
  go_enter Tryd.func105, Tryd.ntmps105
  go_upto_region 1 with fail
  rw [← HW.out]
  clear HW
  go_wp2_with (first | (refine hl_get rfl 3 _ rfl (noagg_int _) w.heap.size 3 rfl h HH2.out (.int .i64 h.mode) rfl ?_) | (refine app_put Tryd.underlying154 _ rfl _ _ _ rfl w1.heap.size 0 (fun _ => none) rfl HM1.out (by decide) 1 rfl (.int .i64 h.mode) rfl rfl (.int .i64 h.mode) E1.out w.heap.size w HX2.out (by omega) ?_; intro v0 hm hb hk hz; have HM0a := Lib.hid hm; have HX0a := Lib.hid hb; have HH0a := Lib.hid (HH2.out.same (hk _ HH2.out.lt (by omega))); clear hm hb hk hz HM1 HX2 HH2) | (refine hl_get rfl 3 _ rfl (noagg_int _) w.heap.size 4 rfl h HH0a.out (.int .i64 h.uid) rfl ?_) | (refine app_put Tryd.underlying154 _ rfl _ _ _ rfl w1.heap.size 1 (fun y => if y = 1 then some (.int .i64 h.mode) else (fun _ => none) y) rfl HM0a.out (by decide) 2 rfl (.int .i64 h.uid) rfl rfl (.int .i64 h.uid) E2.out w.heap.size w HX0a.out (by omega) ?_; intro v1 hm hb hk hz; have HM1a := Lib.hid hm; have HX1a := Lib.hid hb; have HH1a := Lib.hid (HH0a.out.same (hk _ HH0a.out.lt (by omega))); clear hm hb hk hz HM0a HX0a HH0a) | (refine hl_get rfl 3 _ rfl (noagg_int _) w.heap.size 5 rfl h HH1a.out (.int .i64 h.gid) rfl ?_) | (refine app_put Tryd.underlying154 _ rfl _ _ _ rfl w1.heap.size 2 (fun y => if y = 2 then some (.int .i64 h.uid) else (fun y => if y = 1 then some (.int .i64 h.mode) else (fun _ => none) y) y) rfl HM1a.out (by decide) 3 rfl (.int .i64 h.gid) rfl rfl (.int .i64 h.gid) E3.out w.heap.size w HX1a.out (by omega) ?_; intro v2 hm hb hk hz; have HM2a := Lib.hid hm; have HX2a := Lib.hid hb; have HH2a := Lib.hid (HH1a.out.same (hk _ HH1a.out.lt (by omega))); clear hm hb hk hz HM1a HX1a HH1a) | (refine hl_get rfl 3 _ rfl (noagg_int _) w.heap.size 6 rfl h HH2a.out (.int .i64 h.size) rfl ?_) | (refine app_put Tryd.underlying154 _ rfl _ _ _ rfl w1.heap.size 3 (fun y => if y = 3 then some (.int .i64 h.gid) else (fun y => if y = 2 then some (.int .i64 h.uid) else (fun y => if y = 1 then some (.int .i64 h.mode) else (fun _ => none) y) y) y) rfl HM2a.out (by decide) 4 rfl (.int .i64 h.size) rfl rfl (.int .i64 h.size) E4.out w.heap.size w HX2a.out (by omega) ?_; intro v3 hm hb hk hz; have HM3a := Lib.hid hm; have HX3a := Lib.hid hb; have HH3a := Lib.hid (HH2a.out.same (hk _ HH2a.out.lt (by omega))); clear hm hb hk hz HM2a HX2a HH2a) | (refine hl_get rfl 3 _ rfl (noagg_int _) w.heap.size 7 rfl h HH3a.out (.int .i64 h.time) rfl ?_) | (refine app_put Tryd.underlying154 _ rfl _ _ _ rfl w1.heap.size 4 (fun y => if y = 4 then some (.int .i64 h.size) else (fun y => if y = 3 then some (.int .i64 h.gid) else (fun y => if y = 2 then some (.int .i64 h.uid) else (fun y => if y = 1 then some (.int .i64 h.mode) else (fun _ => none) y) y) y) y) rfl HM3a.out (by decide) 5 rfl (.int .i64 h.time) rfl rfl (.int .i64 h.time) E5.out w.heap.size w HX3a.out (by omega) ?_; intro v4 hm hb hk hz; have HM4a := Lib.hid hm; have HX4a := Lib.hid hb; have HH4a := Lib.hid (HH3a.out.same (hk _ HH3a.out.lt (by omega))); clear hm hb hk hz HM3a HX3a HH3a) | (refine hl_get rfl 3 _ rfl (noagg_int _) w.heap.size 10 rfl h HH4a.out (.int .i64 h.major) rfl ?_) | (refine app_put Tryd.underlying154 _ rfl _ _ _ rfl w1.heap.size 5 (fun y => if y = 5 then some (.int .i64 h.time) else (fun y => if y = 4 then some (.int .i64 h.size) else (fun y => if y = 3 then some (.int .i64 h.gid) else (fun y => if y = 2 then some (.int .i64 h.uid) else (fun y => if y = 1 then some (.int .i64 h.mode) else (fun _ => none) y) y) y) y) y) rfl HM4a.out (by decide) 9 rfl (.int .i64 h.major) rfl rfl (.int .i64 h.major) E6.out w.heap.size w HX4a.out (by omega) ?_; intro v5 hm hb hk hz; have HM5a := Lib.hid hm; have HX5a := Lib.hid hb; have HH5a := Lib.hid (HH4a.out.same (hk _ HH4a.out.lt (by omega))); clear hm hb hk hz HM4a HX4a HH4a) | (refine hl_get rfl 3 _ rfl (noagg_int _) w.heap.size 11 rfl h HH5a.out (.int .i64 h.minor) rfl ?_) | (refine app_put Tryd.underlying154 _ rfl _ _ _ rfl w1.heap.size 6 (fun y => if y = 9 then some (.int .i64 h.major) else (fun y => if y = 5 then some (.int .i64 h.time) else (fun y => if y = 4 then some (.int .i64 h.size) else (fun y => if y = 3 then some (.int .i64 h.gid) else (fun y => if y = 2 then some (.int .i64 h.uid) else (fun y => if y = 1 then some (.int .i64 h.mode) else (fun _ => none) y) y) y) y) y) y) rfl HM5a.out (by decide) 10 rfl (.int .i64 h.minor) rfl rfl (.int .i64 h.minor) E7.out w.heap.size w HX5a.out (by omega) ?_; intro v6 hm hb hk hz; have HM6a := Lib.hid hm; have HX6a := Lib.hid hb; have HH6a := Lib.hid (HH5a.out.same (hk _ HH5a.out.lt (by omega))); clear hm hb hk hz HM5a HX5a HH5a))
  go_ret
  exact ⟨w1.heap.size, rfl, by rw [HT.out]; exact HM6a.out, by omega, HX6a.out⟩
end Go.Proofs.YtjldphpdfckjnaaDoor
