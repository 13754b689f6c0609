/- listing.owner, listing.arrow, listing.clock. -/
import Derived.Test.YtjldphpdfckjnaaDoorTm
import Derived.Test.YtjldphpdfckjnaaDoorLineP
import Derived.Test.YtjldphpdfckjnaaDoorAtB
import Derived.Test.YtjldphpdfckjnaaDoorCat
import Derived.Test.YtjldphpdfckjnaaDoorWhenK
import Derived.Deep.RegionHeld3
namespace Go.Proofs.YtjldphpdfckjnaaDoor
open Go.RowKit Go.Lib

set_option maxRecDepth 100000 in
theorem owner_any (name : List UInt8) (id : Int) (hl : name.length ≤ 1000000) (hi : I64 id) (w : World) (hT : TM w) :
    Calls Tryd.prog 44 #[.string (S name), .int .i64 id] w fun e w' => e = .returned (.string (S (ownerL name id))) ∧ Below w.heap.size w w' := by
  have HI := Lib.hid (itoaI_any id hi w hT)
  have HQ := Lib.hid (quote_any (S name) false w (by rw [S_size]; exact hl))
  clear hT hi
  by_cases hn : name = []
  · have h0 : name.isEmpty = true := by rw [hn]; rfl
    have H := Lib.hid (show itoa id = ownerL name id by unfold ownerL; rw [if_pos hn])
    clear hn
    go_enter Tryd.func44, Tryd.ntmps44
    go_wp2_with fail
    refine HI.out.mono ?_
    rintro e w1 ⟨rfl, hb1⟩
    go_wp2_with fail
    go_ret
    exact ⟨by rw [← H.out]; rfl, hb1⟩
  · have h0 : name.isEmpty = false := by simpa using hn
    have H := Lib.hid (show quoteF false name = ownerL name id by unfold ownerL; rw [if_neg hn])
    clear hn
    go_enter Tryd.func44, Tryd.ntmps44
    go_wp2_with fail
    refine HQ.out.mono ?_
    rintro e w1 ⟨rfl, hb1⟩
    go_wp2_with fail
    go_ret
    exact ⟨by rw [← H.out]; rfl, hb1⟩
set_option maxRecDepth 100000 in
theorem arrow_any (k : UInt8) (w : World) :
    Calls Tryd.prog 46 #[.int .u8 k.toNat] w fun e w' => e = .returned (.string (S (arrowL k))) ∧ w = w' := by
  by_cases h1 : k = 50
  · have t1 : ((k.toNat : Int) == 50) = true := byte_beq _ 50 _ rfl h1
    have H := Lib.hid (show arrowL k = [32, 45, 62, 32] by unfold arrowL; rw [if_pos h1])
    clear h1
    go_enter Tryd.func46, Tryd.ntmps46
    go_wp2_with fail
    go_ret
    exact ⟨by rw [H.out]; rfl, rfl⟩
  have t1 : ((k.toNat : Int) == 50) = false := byte_beq' _ 50 _ rfl h1
  by_cases h2 : k = 49
  · have t2 : ((k.toNat : Int) == 49) = true := byte_beq _ 49 _ rfl h2
    have H := Lib.hid (show arrowL k = [32, 61, 61, 32] by unfold arrowL; rw [if_neg h1, if_pos h2])
    clear h1 h2
    go_enter Tryd.func46, Tryd.ntmps46
    go_wp2_with fail
    go_ret
    exact ⟨by rw [H.out]; rfl, rfl⟩
  have t2 : ((k.toNat : Int) == 49) = false := byte_beq' _ 49 _ rfl h2
  have H := Lib.hid (show arrowL k = [] by unfold arrowL; rw [if_neg h1, if_neg h2])
  clear h1 h2
  go_enter Tryd.func46, Tryd.ntmps46
  go_wp2_with fail
  go_ret
  exact ⟨by rw [H.out]; rfl, rfl⟩
open Classical in
/-- the word of a time, as a function -/
noncomputable def clkL (s n : Int) : List UInt8 := if h : ∃ l, ClkP s n l then Classical.choose h else []
theorem clk_eq {s n : Int} {l : List UInt8} (h : ClkP s n l) : ClkP s n (clkL s n) ∧ clkL s n = l := by
  have hx : ∃ l, ClkP s n l := ⟨l, h⟩
  have e : clkL s n = Classical.choose hx := by unfold clkL; rw [dif_pos hx]
  have hc := Classical.choose_spec hx
  rw [← e] at hc
  exact ⟨hc, hc.uniq h⟩
def ClkE (s n : Int) (e : Ending) : Prop := ClkP s n (clkL s n) ∧ e = .returned (.string (S (clkL s n)))
theorem ClkE.mk {s n : Int} {l : List UInt8} {e : Ending} (h : ClkP s n l) (he : e = .returned (.string (S l))) : ClkE s n e := by
  obtain ⟨h1, h2⟩ := clk_eq h
  exact ⟨h1, by rw [h2]; exact he⟩
theorem dayB_no1 (s n : Int) (h : rightB s n = false) : dayB s n = false := by unfold dayB; rw [h]; rfl
theorem dayB_no2 (s n : Int) (h : s / 86400 < -719162 ∨ 2932896 < s / 86400) : dayB s n = false := by
  unfold dayB
  rcases h with h | h
  · have : decide (-719162 ≤ s / 86400) = false := decide_eq_false (by omega)
    rw [this]; simp
  · have : decide (s / 86400 ≤ 2932896) = false := decide_eq_false (by omega)
    rw [this]; simp
theorem dayB_yes (s n : Int) (h : rightB s n = true) (h1 : -719162 ≤ s / 86400) (h2 : s / 86400 ≤ 2932896) : dayB s n = true := by
  unfold dayB
  rw [h, decide_eq_true h1, decide_eq_true h2]; rfl
theorem at_cat (s n : List UInt8) : (⟨#[64]⟩ : ByteArray) ++ S s ++ (⟨#[46]⟩ : ByteArray) ++ S n = S (64 :: (s ++ 46 :: n)) := by
  rw [show (⟨#[64]⟩ : ByteArray) = S [64] from rfl, show (⟨#[46]⟩ : ByteArray) = S [46] from rfl, S_append, S_append, S_append]
  congr 1
  simp
theorem clk_keep {g B : Nat} {s n : Int} {w W : World} (h : AtB W g 52 [.int .i64 s, .int .i64 n] ∧ Below B w W) :
    W.cell? ⟨g, 0, none⟩ = some (.int .i64 s) ∧ W.cell? ⟨g, 1, none⟩ = some (.int .i64 n) ∧ AtB W g 52 [.int .i64 s, .int .i64 n] ∧ Below B w W :=
  ⟨h.1.cell 0, h.1.cell 1, h⟩
theorem at_next {g B : Nat} {T : TypeId} {C : List Value} {w W W' : World} (h : AtB W g T C ∧ Below B w W) (hb : Below W.heap.size W W') (hB : B ≤ w.heap.size) : AtB W' g T C ∧ Below B w W' :=
  ⟨h.1.below hb, h.2.trans (hb.mono (by have := h.2.size; omega))⟩
set_option maxRecDepth 100000 in
set_option maxHeartbeats 2000000 in
/-- where the time isn't written as a day -/
theorem clock_err (s n : Int) (er : Int) (hne : ((er : Int) != 0) = true) (hs : I64 s) (hn : I64 n) (hd : dayB s n = false) (w : World) (hT : TM w)
    (hw : ∀ W : World, Calls Tryd.prog 84 #[.agg #[.int .i64 s, .int .i64 n]] W fun e w' => e = .returned (.tuple #[.string (S []), .int .i64 er]) ∧ Below W.heap.size W w') :
    Calls Tryd.prog 45 #[.agg #[.int .i64 s, .int .i64 n]] w fun e w' => ClkE s n e ∧ Below w.heap.size w w' := by
  have hB1 := (Below.refl w.heap.size w).alloc (Nat.le_refl _) (.cells #[.int .i64 s, .int .i64 n] 52)
  have HA := Lib.hid (AtB.new w 52 [.int .i64 s, .int .i64 n])
  have HW := Lib.hid hw
  have HS := Lib.hid (fun W (h : Below w.heap.size w W) => itoaI_any s hs W (hT.on h))
  have HN := Lib.hid (fun W (h : Below w.heap.size w W) => itoaI_any n hn W (hT.on h))
  have l1 := itoa_len s hs.1 hs.2
  have l2 := itoa_len n hn.1 hn.2
  have HP : ClkP s n (64 :: (itoa s ++ 46 :: itoa n)) := Or.inr ⟨hd, rfl⟩
  clear hw hs hn hd hT
  generalize itoa s = x at *
  generalize itoa n = y at *
  obtain ⟨z1, hz1⟩ : ∃ z, z = 64 :: x := ⟨_, rfl⟩
  obtain ⟨z2, hz2⟩ : ∃ z, z = z1 ++ [46] := ⟨_, rfl⟩
  obtain ⟨z3, hz3⟩ : ∃ z, z = z2 ++ y := ⟨_, rfl⟩
  have k1 := k1_cat 64 x z1 hz1 (by omega)
  have m1 : z1.length ≤ 21 := by rw [hz1, List.length_cons]; omega
  have k2 := cat_k1 z1 46 z2 hz2 (by omega)
  have m2 : z2.length ≤ 22 := by rw [hz2, List.length_append, List.length_singleton]; omega
  have k3 := cat_s z2 y z3 hz3 (by omega)
  have HP : Hid (ClkP s n z3) := by
    have e : z3 = 64 :: (x ++ 46 :: y) := by rw [hz3, hz2, hz1]; simp
    unfold Hid; rw [e]; exact HP
  clear hz1 hz2 hz3
  go_enter Tryd.func45, Tryd.ntmps45
  go_wp2_with fail
  refine (HW.out _).mono ?_
  rintro e w1 ⟨rfl, hb1⟩
  have hB2 := chain hB1 hb1
  have hA1 := HA.out.below hb1
  have hBs : w.heap.size ≤ w.heap.size := Nat.le_refl _
  have HX : Hid (AtB w1.drew w.heap.size 52 [.int .i64 s, .int .i64 n] ∧ Below w.heap.size w w1.drew) := Lib.hid ⟨hA1.drew, hB2.drew⟩
  clear HA hb1 hB1 HW hA1 hB2
  go_wp2_with fail
  have x0 := HX.out
  clear HX
  go_region_held3 (fun W => W.cell? ⟨w.heap.size, 0, none⟩ = some (.int .i64 s) ∧ W.cell? ⟨w.heap.size, 1, none⟩ = some (.int .i64 n) ∧ AtB W w.heap.size 52 [.int .i64 s, .int .i64 n] ∧ Below w.heap.size w W) (exact clk_keep (by assumption)) (first
    | (go_at_call 43; refine (HS.out _ (by first | exact (And.right (by assumption)) | exact x0.2)).mono ?_; rintro e w2 ⟨rfl, hb2⟩; have x0 := at_next x0 hb2 hBs)
    | (go_at_call 43; refine (HN.out _ (by first | exact (And.right (by assumption)) | exact x0.2)).mono ?_; rintro e w2 ⟨rfl, hb2⟩; have x0 := at_next x0 hb2 hBs))
  go_wp2_with fail
  go_ret
  exact ⟨ClkE.mk HP.out rfl, x0.2⟩
theorem lenI_31 (y m : Int) : lenI y m ≤ 31 := by
  unfold lenI febI
  repeat' split
  all_goals omega
theorem textW_len (y m d h i s n : Nat) (hy : y < 10000) (hm : m < 100) (hd : d < 100) (hh : h < 100) (hi : i < 100) (hs : s < 100) (hn : n < 1000000000) : (textW y m d h i s n).length ≤ 29 := by
  rw [(textW_ok y m d h i s n hy hm hd hh hi hs).len]
  unfold tailW
  split
  · simp
  · have := frac_len9 n hn
    rw [List.length_cons]; omega
set_option maxRecDepth 100000 in
set_option maxHeartbeats 2000000 in
theorem clock_ok (s n : Int) (hr : rightB s n = true) (h0 : -719162 ≤ s / 86400) (h1 : s / 86400 ≤ 2932896) (w : World) (hT : TM w) :
    Calls Tryd.prog 45 #[.agg #[.int .i64 s, .int .i64 n]] w fun e w' => ClkE s n e ∧ Below w.heap.size w w' := by
  have hB1 := (Below.refl w.heap.size w).alloc (Nat.le_refl _) (.cells #[.int .i64 s, .int .i64 n] 52)
  have hT1 := hT.on hB1
  have HT := Lib.hid (fun W (h : Below w.heap.size w W) => hT.on h)
  obtain ⟨g1, g2, g3, g4⟩ := (right_iff s n).1 hr
  have hn9 : n.toNat < 1000000000 := by omega
  have HB1 := Lib.hid hB1
  have HW := Lib.hid (wText_ok s n hr h0 h1 _ hT1.tb)
  have HD := Lib.hid (dayB_yes s n hr h0 h1)
  clear hr h0 h1 hT hT1 g1 g2 g3 g4 hB1
  go_enter Tryd.func45, Tryd.ntmps45
  go_wp2_with fail
  refine HW.out.mono ?_
  rintro e w1 ⟨⟨Y, M, D, q1, q2, rfl⟩, hb1⟩
  have hB2 := chain HB1.out hb1
  obtain ⟨m1, m2, m3, m4, m5, m6⟩ := (may_iff _ _ _).1 q1
  have hl := lenI_31 Y M
  have hR : (s % 86400).toNat < 86400 := by omega
  have HL := Lib.hid (textW_len Y M D ((s % 86400).toNat / 3600) ((s % 86400).toNat / 60 % 60) ((s % 86400).toNat % 60) n.toNat (by omega) (by omega) (by omega) (by omega) (by omega) (by omega) hn9)
  have HR := Lib.hid (textW_rep Y M D ((s % 86400).toNat / 3600) ((s % 86400).toNat / 60 % 60) ((s % 86400).toNat % 60) n.toNat)
  have HP : Hid (ClkP s n (textT Y M D ((s % 86400).toNat / 3600) ((s % 86400).toNat / 60 % 60) ((s % 86400).toNat % 60) n.toNat)) := Or.inl ⟨HD.out, Y, M, D, q1, q2, rfl⟩
  obtain ⟨mm, hm⟩ := (HT.out _ hB2).mx
  clear q1 q2 m1 m2 m3 m4 m5 m6 hl hR hn9 HT HD HW HB1 hb1
  generalize textT Y M D ((s % 86400).toNat / 3600) ((s % 86400).toNat / 60 % 60) ((s % 86400).toNat % 60) n.toNat = tt at *
  generalize textW Y M D ((s % 86400).toNat / 3600) ((s % 86400).toNat / 60 % 60) ((s % 86400).toNat % 60) n.toNat = tx at *
  have hl := HL.out
  have hcn := Lib.countB_mul_le (S [32]) (by decide) tx.length (S tx) (by rw [S_size]; exact Nat.le_refl _)
  rw [S_size, S_size] at hcn
  go_wp2_with fail
  refine (Go.Proofs.Tryd.strings_Replace (S tx) ⟨#[32]⟩ ⟨#[84]⟩ 1 mm _ (by rw [S_size]; omega) hm (by decide) (by rw [S_size]; show _ + Lib.countB (S tx) (S [32]) * 1 ≤ _; have e : ([32] : List UInt8).length = 1 := rfl; rw [e] at hcn; omega)).mono ?_
  rintro e w2 ⟨rfl, hb2⟩
  have hr2 : (⟨(Lib.replace (S tx).data.toList (⟨#[32]⟩ : ByteArray).data.toList (⟨#[84]⟩ : ByteArray).data.toList 1).toArray⟩ : ByteArray) = S tt := by
    rw [← HR.out]; rfl
  rw [hr2]
  clear hr2 hcn hl
  go_wp2_with fail
  go_ret
  exact ⟨ClkE.mk HP.out rfl, chain hB2 hb2⟩
theorem clock_any (s n : Int) (hs : I64 s) (hn : I64 n) (w : World) (hT : TM w) :
    Calls Tryd.prog 45 #[.agg #[.int .i64 s, .int .i64 n]] w fun e w' => ClkE s n e ∧ Below w.heap.size w w' := by
  cases hr : rightB s n
  · exact clock_err s n 1 rfl hs hn (dayB_no1 s n hr) w hT (fun W => wText_arg s n hr W)
  · by_cases hq : -719162 ≤ s / 86400 ∧ s / 86400 ≤ 2932896
    · exact clock_ok s n hr hq.1 hq.2 w hT
    · exact clock_err s n 6 rfl hs hn (dayB_no2 s n (by omega)) w hT (fun W => wText_out s n hr (by omega) W)
end Go.Proofs.YtjldphpdfckjnaaDoor
