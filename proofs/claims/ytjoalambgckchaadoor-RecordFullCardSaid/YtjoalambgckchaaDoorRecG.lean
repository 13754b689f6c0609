/- What the chapter's example asks; the law RecordSizes, walked. -/
import Derived.Test.YtjoalambgckchaaDoorRecF
import Derived.Test.YtjoalambgckchaaDoorMakeB
namespace Go.Proofs.YtjoalambgckchaaDoor
open Go.RowKit Go.Lib

theorem Parse06_any (s0 : List UInt8) (hs : s0.length ≤ 1000000) (w : World) :
    Calls Tryd.prog 14 #[.string (S s0)] w fun e w' => (∃ v, e = .returned (.tuple #[v, .int .i64 ((parseQ s0).2 : Nat)]) ∧ OwnP w' (w.heap.size + 1) v (parseQ s0).1) ∧ Below w.heap.size w w' := by
  by_cases hbig : 65536 < s0.length
  · have HP : parseQ s0 = ([], 12) := by unfold parseQ; rw [if_pos hbig]
    refine (Parse06_big s0 hs hbig w).mono ?_
    rintro e w' ⟨rfl, hb⟩
    rw [HP]
    exact ⟨⟨_, rfl, OwnR.nil _ _ _ _ _⟩, hb⟩
  · have HQ : parseQ s0 = parseF (s0.length + 1) s0 [] := by unfold parseQ; rw [if_neg hbig]
    rw [HQ]
    exact Parse06_small s0 (by omega) w
set_option maxRecDepth 100000 in
set_option maxHeartbeats 1000000 in
theorem awake06 (w : World) (hT : TB w.heap.size w) :
    Calls Tryd.prog 7 #[] w fun e w' => e = .returned (.bool true) ∧ Below w.heap.size w w' := by
  have P1 := fun W hT hv => Print06_any [([112, 97, 116, 104], [97])] (.slice (some ⟨w.heap.size, 0, none⟩) 1 1) (by intro p hp; rw [List.mem_singleton.1 hp]; decide) (by decide) W hT hv
  rw [print_path] at P1
  have P2 := fun W => Parse06_any [49, 48, 32, 112, 97, 116, 104, 61, 97, 10] (by decide) W
  rw [parse_path] at P2
  have P3 := fun W hT hB => rSize0_any [112, 97, 116, 104] [97] (by decide) W (B := w.heap.size) hT hB
  have hs : sizeP ([112, 97, 116, 104], [97]) = 9 := by
    show 8 + dl (8 + dl 8) = 9
    rw [dl_small 8 (by decide), dl_small (8 + 1) (by decide)]
  rw [hs] at P3
  have Q1 := Lib.hid P1
  have Q2 := Lib.hid P2
  have Q3 := Lib.hid P3
  have hB1 := (Below.refl w.heap.size w).alloc (Nat.le_refl _) (.cells #[.string (S [112, 97, 116, 104]), .string (S [97])] 25)
  have HV := Lib.hid (pairs_one w [112, 97, 116, 104] [97])
  clear P1 P2 P3 hs
  go_enter Tryd.func7, Tryd.ntmps7
  go_wp2_with fail
  refine (Q1.out _ (hT.up hB1 hB1.size) HV.out).mono ?_
  rintro e w1 ⟨rfl, hb1⟩
  have hB2 := chain hB1 hb1
  go_wp2_with fail
  refine (Q2.out _).mono ?_
  rintro e w2 ⟨⟨v, rfl, hO⟩, hb2⟩
  obtain ⟨a, c, rfl⟩ := hO.shape
  have hB3 := chain hB2 hb2
  go_wp2_with fail
  refine (Q3.out _ (hT.on hB3) hB3.size).mono ?_
  rintro e w3 ⟨rfl, hb3⟩
  go_wp2_with fail
  go_ret
  exact ⟨rfl, chain hB3 hb3⟩
theorem pair_a (W : World) (k v : List UInt8) (g : Nat) (h : g = W.heap.size) : PairAt (W.alloc (.cells #[.string (S k), .string (S v)] 25)).drew g k v := by
  subst h; exact PairAt.new W k v
theorem pair_b (W : World) (k v : List UInt8) (o : Obj) (g : Nat) (h : g = W.heap.size) : PairAt ((W.alloc (.cells #[.string (S k), .string (S v)] 25)).alloc o).drew g k v := by
  subst h
  have h1 := (PairAt.new W k v).below ((Below.refl _ _).alloc (Nat.le_refl _) o) (PairAt.new W k v).lt
  exact h1
theorem pair_c (W : World) (k v : List UInt8) (o o2 : Obj) (g : Nat) (h : g = W.heap.size) : PairAt (((W.alloc (.cells #[.string (S k), .string (S v)] 25)).alloc o).alloc o2).drew g k v := by
  subst h
  have h1 := (PairAt.new W k v).below ((Below.refl _ _).alloc (Nat.le_refl _) o) (PairAt.new W k v).lt
  have h2 := h1.below ((Below.refl _ _).alloc (Nat.le_refl _) o2) h1.lt
  exact h2
theorem one_print (p : PR) (h1 : rightP p = true) (h2 : sizeP p ≤ 65536) (h3 : bareP p ≤ 1000000) : (printF [p]).2 = 0 ∧ (printF [p]).1.length = sizeP p := by
  have e : printF [p] = (recsL [p], 0) := by
    unfold printF
    rw [if_neg (by simp), if_neg (by simp [h1]), if_neg (by unfold totP; simp; omega)]
  rw [e]
  refine ⟨rfl, ?_⟩
  show (recL p ++ []).length = _
  rw [List.append_nil, rec_len p h3]
theorem zeros_right (n m : Nat) (h : 1 ≤ n) : rightP (List.replicate n 0, List.replicate m 0) = true := by
  unfold rightP
  obtain ⟨k, rfl⟩ : ∃ k, n = k + 1 := ⟨n - 1, by omega⟩
  have : (List.replicate (k + 1) (0 : UInt8)).contains 61 = false := by
    cases e : (List.replicate (k + 1) (0 : UInt8)).contains 61
    · rfl
    · have := List.eq_of_mem_replicate (List.contains_iff_mem.1 e)
      cases this
  rw [this]
  rfl
set_option maxRecDepth 100000 in
set_option maxHeartbeats 4000000 in
theorem lawSizes (key value : UInt16) (w : World) (hT : TB w.heap.size w) :
    Calls Tryd.prog 5 #[.int .u16 key.toNat, .int .u16 value.toNat] w fun e w' => e = .returned (.bool true) ∧ Below w.heap.size w w' := by
  obtain ⟨n, hn⟩ : ∃ n : Nat, (1 : Int) + (key.toNat : Int) % 1100 = n := ⟨1 + key.toNat % 1100, by push_cast; rfl⟩
  obtain ⟨m, hm⟩ : ∃ m : Nat, (value.toNat : Int) % 1100 = m := ⟨value.toNat % 1100, by push_cast; rfl⟩
  have hn1 : 1 ≤ n := by omega
  have hn2 : n ≤ 1100 := by omega
  have hm2 : m ≤ 1100 := by omega
  have hk0 : (key.toNat : Int) < 65536 := by have := key.toNat_lt; omega
  have hv0 : (value.toNat : Int) < 65536 := by have := value.toNat_lt; omega
  have M1 := fun w => mk_bytes n n (by omega) (by omega) w
  have M2 := fun w => mk_bytes m m (by omega) (by omega) w
  have X1 := fun w g h => conv_z0 n (by omega) w g h
  have X2 := fun w g h => conv_z0 m (by omega) w g h
  have Y1 := fun w o g h => conv_z1 n (by omega) w o g h
  have Y2 := fun w o g h => conv_z1 m (by omega) w o g h
  have Z1 := fun w o o2 g h => conv_z2 n (by omega) w o o2 g h
  have Z2 := fun w o o2 g h => conv_z2 m (by omega) w o o2 g h
  go_enter Tryd.func5, Tryd.ntmps5
  go_upto_region 1 with fail
  go_cut [5] (fun p wx => ∃ g, p = .pointer (some ⟨g, 0, none⟩) ∧ PairAt wx g (List.replicate n 0) (List.replicate m 0) ∧ Below w.heap.size w wx ∧ w.heap.size ≤ g)
  case first =>
    go_region
    all_goals
      clear M1 M2 X1 X2 Y1 Y2 Z1 Z2
      go_wp2_with fail
      go_meet
      refine ⟨_, rfl, ?_, by go_grown, by omega⟩
      first
        | exact pair_a _ _ _ _ (by simp)
        | exact pair_b _ _ _ _ _ (by simp)
        | exact pair_c _ _ _ _ _ _ (by simp)
  case rest =>
    clear M1 M2 X1 X2 Y1 Y2 Z1 Z2
    obtain ⟨g, rfl, hP, hB, hg⟩ := hcut
    have hr := zeros_right n m hn1
    have hl1 : (List.replicate n (0 : UInt8)).length = n := List.length_replicate
    have hl2 : (List.replicate m (0 : UInt8)).length = m := List.length_replicate
    generalize List.replicate n (0 : UInt8) = k at *
    generalize List.replicate m (0 : UInt8) = v at *
    have hkv : k.length + v.length ≤ 200000 := by omega
    obtain ⟨_, b2, b3, _, _⟩ := bigP k v hkv
    have hbr : bareP (k, v) = k.length + v.length + 3 := rfl
    have hsz := (sizeN_bound (bareP (k, v)) (by omega)).2
    obtain ⟨p1, p2⟩ := one_print (k, v) hr (by show sizeN (bareP (k, v)) ≤ _; omega) (by omega)
    have hP1 := fun W u hT hv => Print06_any [(k, v)] u (by intro p hp; rw [List.mem_singleton.1 hp]; show k.length + v.length ≤ _; omega) (by simp) W hT hv
    rw [p1] at hP1
    have HP1 := Lib.hid hP1
    have HS := Lib.hid (fun W hT hB => rSize0_any k v hkv W (B := w.heap.size) hT hB)
    have HS2 := Lib.hid (fun W => rSize06_any k v hkv W)
    have P2 := Lib.hid p2
    clear hP1 p1 p2 hr b2 hbr hsz hl1 hl2 hn hm
    generalize sizeP (k, v) = z at *
    generalize (printF [(k, v)]).1 = t at *
    have d0 := hP.c0
    have d1 := hP.c1
    have hgl := hP.lt
    go_wp2_with fail
    refine (HS.out _ (hT.on hB) hB.size).mono ?_
    rintro e w1 ⟨rfl, hb1⟩
    have hB1 := chain hB hb1
    have hP1 := hP.below hb1 hgl
    have d0 := hP1.c0
    have d1 := hP1.c1
    have HV := Lib.hid (pairs_one w1 k v)
    have hP2 := hP1.below ((Below.refl _ _).alloc (Nat.le_refl _) (.cells #[.string (S k), .string (S v)] 25)) hP1.lt
    have hB2 := hB1.alloc hB1.size (.cells #[.string (S k), .string (S v)] 25)
    go_wp2_with fail
    refine (HP1.out _ _ (hT.up hB2 hB2.size) HV.out).mono ?_
    rintro e w2 ⟨rfl, hb2⟩
    have hB3 := chain hB2 hb2
    have hP3 := hP2.below hb2 hP2.lt
    have d0 := hP3.c0
    have d1 := hP3.c1
    go_wp2_with fail
    refine (HS2.out _).mono ?_
    rintro e w3 ⟨rfl, hb3⟩
    have hB4 := chain hB3 hb3
    have hq : ((t.length : Int) == (z : Int)) = true := by rw [P2.out]; simp
    go_wp2_with fail
    refine (awake06 _ (hT.up hB4 hB4.size)).mono ?_
    rintro e w4 ⟨rfl, hb4⟩
    go_wp2_with fail
    go_ret
    exact ⟨rfl, chain hB4 hb4⟩
end Go.Proofs.YtjoalambgckchaaDoor
