import Derived.Test.YtjldphpdfckjnaaDoorRights
import Derived.Lib.Bytealg
namespace Go.Proofs.YtjldphpdfckjnaaDoor
open Go.RowKit

set_option maxRecDepth 100000 in
theorem indexByte_any (s : ByteArray) (c : UInt8) (w : World) :
    Calls Tryd.prog 87 #[.string s, .int .u8 c.toNat] w fun e w' => e = .returned (.int .i64 (Lib.indexByte s.data.toList c)) ∧ w = w' := by
  have h := fun w => Lib.run_indexByteString (P := Tryd.prog) s (c.toNat : Int) w
  have e : ((c.toNat : Int).toNat.toUInt8) = c := by simp
  rw [e] at h
  go_enter Tryd.func87, Tryd.ntmps87
  go_wp2
  rw [run_callFunc_extern Tryd.func145 (by kernel_rfl) (by kernel_rfl) (by kernel_rfl) (e := Extern.BytealgIndexByte.indexByte) (by kernel_rfl), h]
  simp only [Result.andThen]
  rw [Oper.upon_value]
  go_wp2
  go_ret
  exact ⟨rfl, rfl⟩

/-- one sign more: is the bit set? -/
def setB (b : UInt8) : Bool := (b.toNat : Int) != 45 && (b.toNat : Int) != 83 && (b.toNat : Int) != 84
def spB (b : UInt8) : Bool := (b.toNat : Int) != 45 && (b.toNat : Int) != 120
def m9 (s : List UInt8) : Nat → Nat
  | 0 => 0
  | t + 1 => 2 * m9 s t + (if setB (s.getD (t + 1) 0) then 1 else 0)
theorem m9_lt (s : List UInt8) (t : Nat) : m9 s t < 2 ^ t := by
  induction t with
  | zero => simp [m9]
  | succ t ih => rw [m9, Nat.pow_succ]; split <;> omega
def spV (s : List UInt8) : Nat → Nat
  | 0 => 0
  | 1 => if spB (s.getD 3 0) then 2048 else 0
  | 2 => (if spB (s.getD 3 0) then 2048 else 0) + (if spB (s.getD 6 0) then 1024 else 0)
  | _ => (if spB (s.getD 3 0) then 2048 else 0) + (if spB (s.getD 6 0) then 1024 else 0) + (if spB (s.getD 9 0) then 512 else 0)
def modeOf (s : List UInt8) : Nat := m9 s 9 + spV s 3
def kindOf (s : List UInt8) : Int := Lib.indexByte [45, 104, 108, 99, 98, 100, 112, 67] (s.getD 0 0)
def prF (s : List UInt8) : Int × UInt8 × Int :=
  if s.length ≠ 10 then (0, 0, 2) else if kindOf s < 0 then (0, 0, 2)
  else if rightsL (modeOf s) (byteI (48 + kindOf s)) = s then ((modeOf s : Int), byteI (48 + kindOf s), 0) else (0, 0, 2)

theorem i64_or_nat (a b : Nat) (ha : a < 9223372036854775808) (hb : b < 9223372036854775808) : bits .or .i64 (a : Int) (b : Int) = ((a ||| b : Nat) : Int) := by
  have e1 : (BitVec.ofInt 64 (a : Int)).toNat = a := by rw [BitVec.toNat_ofInt]; omega
  have e2 : (BitVec.ofInt 64 (b : Int)).toNat = b := by rw [BitVec.toNat_ofInt]; omega
  have hlt : a ||| b < 2 ^ 63 := Nat.or_lt_two_pow (by omega) (by omega)
  have key : (BitVec.ofInt 64 (a : Int) ||| BitVec.ofInt 64 (b : Int)).toNat = a ||| b := by rw [BitVec.toNat_or, e1, e2]
  show IntKind.i64.wrap ((BitVec.ofInt 64 (a : Int) ||| BitVec.ofInt 64 (b : Int)).toNat : Nat) = _
  rw [key, IntKind.wrap_i64]
  omega
theorem or_one (a : Nat) (h : a < 1000000) : bits .or .i64 ((a : Int) * 2) 1 = (a : Int) * 2 + 1 := by
  have := i64_or_nat (a * 2) 1 (by omega) (by omega)
  rw [show ((a : Int) * 2) = ((a * 2 : Nat) : Int) from by omega, show (1 : Int) = ((1 : Nat) : Int) from rfl, this, nat_join 1 (a * 2) 1 (by omega) (by omega)]
  omega

theorem or_bit (x y i : Nat) (hx : x % 2 ^ (i + 1) = 0) (hy : y < 2 ^ i) : (x + y) ||| 2 ^ i = x + y + 2 ^ i := by
  have e2 : 2 ^ (i + 1) = 2 * 2 ^ i := by rw [Nat.pow_succ]; omega
  have h1 : x ||| y = x + y := nat_join (i + 1) x y hx (by omega)
  have h2 : 2 ^ i ||| y = 2 ^ i + y := nat_join i (2 ^ i) y (by simp) hy
  have h3 : x ||| (2 ^ i + y) = x + (2 ^ i + y) := nat_join (i + 1) x (2 ^ i + y) hx (by omega)
  rw [← h1, Nat.or_assoc, Nat.or_comm y, h2, h3]
  omega
theorem or_at (x y i n : Nat) (hn : n = 2 ^ i) (hx : x % 2 ^ (i + 1) = 0) (hy : y < 2 ^ i) (hb : x + y + n < 1000000) : bits .or .i64 ((x + y : Nat) : Int) (n : Int) = ((x + y + n : Nat) : Int) := by
  subst hn
  rw [i64_or_nat _ _ (by omega) (by omega), or_bit x y i hx hy]
theorem spB_cases (b : UInt8) : (spB b = false ∧ ((b.toNat : Int) != 45) = false) ∨ (spB b = false ∧ ((b.toNat : Int) != 45) = true ∧ ((b.toNat : Int) != 120) = false) ∨
    (spB b = true ∧ ((b.toNat : Int) != 45) = true ∧ ((b.toNat : Int) != 120) = true) := by
  cases h1 : ((b.toNat : Int) != 45) <;> cases h2 : ((b.toNat : Int) != 120) <;> simp [spB, h1, h2]
theorem sp_no0 (s : List UInt8) (h : spB (s.getD 3 0) = false) : (m9 s 9 : Int) + (spV s 0 : Int) = ((m9 s 9 + spV s 1 : Nat) : Int) := by simp only [spV, h]; simp
theorem sp_no1 (s : List UInt8) (h : spB (s.getD 6 0) = false) : (m9 s 9 : Int) + (spV s 1 : Int) = ((m9 s 9 + spV s 2 : Nat) : Int) := by simp only [spV, h]; simp
theorem sp_no2 (s : List UInt8) (h : spB (s.getD 9 0) = false) : (m9 s 9 : Int) + (spV s 2 : Int) = ((m9 s 9 + spV s 3 : Nat) : Int) := by simp only [spV, h]; simp
theorem sp_or0 (s : List UInt8) (h : spB (s.getD 3 0) = true) : bits .or .i64 ((m9 s 9 : Int) + (spV s 0 : Int)) 2048 = ((m9 s 9 + spV s 1 : Nat) : Int) := by
  have hm : m9 s 9 < 512 := m9_lt s 9
  have h2 := or_at 0 (m9 s 9) 11 2048 rfl rfl (by omega) (by omega)
  simp only [spV, h, if_true]
  simpa using h2
theorem sp_or1 (s : List UInt8) (h : spB (s.getD 6 0) = true) : bits .or .i64 ((m9 s 9 : Int) + (spV s 1 : Int)) 1024 = ((m9 s 9 + spV s 2 : Nat) : Int) := by
  have hm : m9 s 9 < 512 := m9_lt s 9
  have h2 := or_at (spV s 1) (m9 s 9) 10 1024 rfl (by simp only [spV]; generalize spB (s.getD 3 0) = x; cases x <;> rfl) (by omega) (by simp only [spV]; generalize spB (s.getD 3 0) = x; cases x <;> simp <;> omega)
  have e : (m9 s 9 : Int) + (spV s 1 : Int) = ((spV s 1 + m9 s 9 : Nat) : Int) := by omega
  rw [e]
  refine h2.trans ?_
  simp only [spV, h, if_true]
  omega
theorem sp_or2 (s : List UInt8) (h : spB (s.getD 9 0) = true) : bits .or .i64 ((m9 s 9 : Int) + (spV s 2 : Int)) 512 = ((m9 s 9 + spV s 3 : Nat) : Int) := by
  have hm : m9 s 9 < 512 := m9_lt s 9
  have h2 := or_at (spV s 2) (m9 s 9) 9 512 rfl (by simp only [spV]; generalize spB (s.getD 3 0) = x; generalize spB (s.getD 6 0) = y; cases x <;> cases y <;> rfl) (by omega) (by simp only [spV]; generalize spB (s.getD 3 0) = x; generalize spB (s.getD 6 0) = y; cases x <;> cases y <;> simp <;> omega)
  have e : (m9 s 9 : Int) + (spV s 2 : Int) = ((spV s 2 + m9 s 9 : Nat) : Int) := by omega
  rw [e]
  refine h2.trans ?_
  simp only [spV, h, if_true]
  omega
theorem ret_tri (x x' y y' : Int) (z : Value) (hx : x = x') (hy : y = y') : Ending.returned (.tuple #[.int .i64 x, .int .u8 y, z]) = Ending.returned (.tuple #[.int .i64 x', .int .u8 y', z]) := by rw [hx, hy]
theorem rights_args (x y : Int) (w : World) (n : Nat) (k : UInt8) (hx : x = (n : Int)) (hy : (k.toNat : Int) = y) :
    Calls Tryd.prog 35 #[.int .i64 x, .int .u8 y] w fun e w' => e = .returned (.string (S (rightsL n k))) ∧ Below w.heap.size w w' := by
  subst hx hy
  exact rights_any _ _ _
theorem get_getD (s : ByteArray) (i : Nat) (h : i < s.size) : s[i] = s.data.toList.getD i 0 := by
  rw [List.getD_eq_getElem?_getD, List.getElem?_eq_getElem (by rw [size_len]; exact h)]
  rfl
theorem indexByte_lt (l : List UInt8) (c : UInt8) : Lib.indexByte l c < l.length ∧ -1 ≤ Lib.indexByte l c := by
  induction l with
  | nil => simp [Lib.indexByte]
  | cons b l ih =>
    unfold Lib.indexByte
    simp only [List.length_cons, beq_iff_eq]
    split
    · omega
    · split <;> omega

theorem kindOf_lt (s : List UInt8) : kindOf s < 8 ∧ -1 ≤ kindOf s := indexByte_lt [45, 104, 108, 99, 98, 100, 112, 67] (s.getD 0 0)

set_option maxRecDepth 100000 in
set_option maxHeartbeats 2000000 in
theorem parseRights_any (s : ByteArray) (w : World) :
    Calls Tryd.prog 48 #[.string s] w fun e w' => e = .returned (.tuple #[.int .i64 (prF s.data.toList).1, .int .u8 (prF s.data.toList).2.1.toNat, .int .i64 (prF s.data.toList).2.2]) ∧ Below w.heap.size w w' := by
  by_cases h10 : s.size = 10
  · have hz1 : s.size ≤ 10 := by omega
    have hz2 : 10 ≤ s.size := by omega
    have hlt : ¬ s.data.toList.length ≠ 10 := by rw [size_len]; omega
    have Hlt := Lib.hid hlt
    have hge := fun i (h : i < s.size) => get_getD s i h
    have Hge := Lib.hid hge
    obtain ⟨hkl, hkl2⟩ := kindOf_lt s.data.toList
    have hk0 : Lib.indexByte [45, 104, 108, 99, 98, 100, 112, 67] (s[0]'(Nat.lt_of_lt_of_le (by decide) hz2)) = kindOf s.data.toList := by rw [hge 0 (by omega)]; rfl
    clear h10 hlt hge
    by_cases hk : kindOf s.data.toList < 0
    · have hp : prF s.data.toList = (0, 0, 2) := by rw [prF, if_neg Hlt.out, if_pos hk]
      go_enter Tryd.func48, Tryd.ntmps48
      go_wp2_with (go_at_call 87; refine (indexByte_any _ _ _).mono ?_; rintro e w' ⟨rfl, rfl⟩)
      go_ret3
      exact ⟨by rw [hp]; rfl, Below.refl _ _⟩
    · have hk2 : 0 ≤ kindOf s.data.toList := by omega
      have Hk := Lib.hid hk
      go_enter Tryd.func48, Tryd.ntmps48
      go_wp2_with (go_at_call 87; refine (indexByte_any _ _ _).mono ?_; rintro e w' ⟨rfl, rfl⟩)
      go_loopw [7, 24] (fun v i wr => ∃ t : Nat, t ≤ 9 ∧ i = .int .i64 t ∧ v = .int .i64 (m9 s.data.toList t) ∧ wr = w) (fun _ i _ => 9 - (intOf i).toNat)
      case atStart => exact ⟨0, by omega, rfl, rfl, rfl⟩
      case round =>
        obtain ⟨t, ht, rfl, rfl, rfl⟩ := hrel
        have hm := m9_lt s.data.toList t
        have hm2 : m9 s.data.toList t < 1000 := by
          have : 2 ^ t ≤ 2 ^ 9 := Nat.pow_le_pow_right (by decide) ht
          omega
        clear hm
        by_cases hlt : t < 9
        · have ho := or_one (m9 s.data.toList t) (by omega)
          go_upto_region 12 with fail
          go_cut [9, 10] (fun _ v wx => v = .bool (setB s[t + 1]) ∧ wx = wr)
          case first =>
            go_wp2
            all_goals (go_meet; refine ⟨?_, rfl⟩; first | rfl | (congr 1; done) | (congr 1; rw [Bool.eq_iff_iff]; simp_all [setB]; done) | (congr 1; rw [Bool.eq_iff_iff]; simp_all [setB]; omega))
          case rest =>
            obtain ⟨rfl, rfl⟩ := hcut
            have hg : s[t + 1] = s.data.toList.getD (t + 1) 0 := Hge.out _ _
            cases hb : setB s[t + 1]
            · have hm9 : m9 s.data.toList (t + 1) = m9 s.data.toList t * 2 := by rw [m9, ← hg, hb]; simp; omega
              have Hm9 := Lib.hid hm9
              clear hm9 hg
              go_wp2
              go_roundw
              case rel => exact ⟨t + 1, by omega, by go_num, by rw [Hm9.out]; go_num, trivial⟩
              case measure => simp [intOf]; omega
            · have hm9 : m9 s.data.toList (t + 1) = m9 s.data.toList t * 2 + 1 := by rw [m9, ← hg, hb]; simp; omega
              have Hm9 := Lib.hid hm9
              clear hm9 hg
              go_wp2
              go_roundw
              case rel => exact ⟨t + 1, by omega, by go_num, by rw [Hm9.out]; go_num, trivial⟩
              case measure => simp [intOf]; omega
        · have ht9 : t = 9 := by omega
          subst ht9
          have i3 : (3 : Int) < s.size := by omega
          have i6 : (6 : Int) < s.size := by omega
          have i9 : (9 : Int) < s.size := by omega
          go_wp2
          go_region
          go_wp2
          have hm512 : m9 s.data.toList 9 < 512 := m9_lt s.data.toList 9
          have G3 := Lib.hid (show s[3] = s.data.toList.getD 3 0 from Hge.out _ _)
          have G6 := Lib.hid (show s[6] = s.data.toList.getD 6 0 from Hge.out _ _)
          have G9 := Lib.hid (show s[9] = s.data.toList.getD 9 0 from Hge.out _ _)
          go_loop [7, 55] (fun v i => ∃ j : Nat, j ≤ 3 ∧ i = .int .i64 j ∧ v = .int .i64 ((m9 s.data.toList 9 + spV s.data.toList j : Nat) : Int)) (fun _ i => 3 - (intOf i).toNat)
          case atStart => exact ⟨0, by omega, rfl, rfl⟩
          case round =>
            obtain ⟨j, hj, rfl, rfl⟩ := hrel
            obtain rfl | rfl | rfl | rfl : j = 0 ∨ j = 1 ∨ j = 2 ∨ j = 3 := by omega
            · rcases spB_cases s[3] with ⟨hb, t1⟩ | ⟨hb, t1, t2⟩ | ⟨hb, t1, t2⟩
              · have Hs := Lib.hid (sp_no0 s.data.toList (by rw [← G3.out]; exact hb))
                clear hb
                go_wp2
                go_round
                case rel => exact ⟨1, by omega, rfl, congrArg _ Hs.out⟩
                case measure => simp [intOf]
              · have Hs := Lib.hid (sp_no0 s.data.toList (by rw [← G3.out]; exact hb))
                clear hb
                go_wp2
                go_round
                case rel => exact ⟨1, by omega, rfl, congrArg _ Hs.out⟩
                case measure => simp [intOf]
              · have Hs := Lib.hid (sp_or0 s.data.toList (by rw [← G3.out]; exact hb))
                clear hb
                go_wp2
                go_round
                case rel => exact ⟨1, by omega, rfl, congrArg _ Hs.out⟩
                case measure => simp [intOf]
            · rcases spB_cases s[6] with ⟨hb, t1⟩ | ⟨hb, t1, t2⟩ | ⟨hb, t1, t2⟩
              · have Hs := Lib.hid (sp_no1 s.data.toList (by rw [← G6.out]; exact hb))
                clear hb
                go_wp2
                go_round
                case rel => exact ⟨2, by omega, rfl, congrArg _ Hs.out⟩
                case measure => simp [intOf]
              · have Hs := Lib.hid (sp_no1 s.data.toList (by rw [← G6.out]; exact hb))
                clear hb
                go_wp2
                go_round
                case rel => exact ⟨2, by omega, rfl, congrArg _ Hs.out⟩
                case measure => simp [intOf]
              · have Hs := Lib.hid (sp_or1 s.data.toList (by rw [← G6.out]; exact hb))
                clear hb
                go_wp2
                go_round
                case rel => exact ⟨2, by omega, rfl, congrArg _ Hs.out⟩
                case measure => simp [intOf]
            · rcases spB_cases s[9] with ⟨hb, t1⟩ | ⟨hb, t1, t2⟩ | ⟨hb, t1, t2⟩
              · have Hs := Lib.hid (sp_no2 s.data.toList (by rw [← G9.out]; exact hb))
                clear hb
                go_wp2
                go_round
                case rel => exact ⟨3, by omega, rfl, congrArg _ Hs.out⟩
                case measure => simp [intOf]
              · have Hs := Lib.hid (sp_no2 s.data.toList (by rw [← G9.out]; exact hb))
                clear hb
                go_wp2
                go_round
                case rel => exact ⟨3, by omega, rfl, congrArg _ Hs.out⟩
                case measure => simp [intOf]
              · have Hs := Lib.hid (sp_or2 s.data.toList (by rw [← G9.out]; exact hb))
                clear hb
                go_wp2
                go_round
                case rel => exact ⟨3, by omega, rfl, congrArg _ Hs.out⟩
                case measure => simp [intOf]
            · have hd : True := trivial
              by_cases hr : rightsL (modeOf s.data.toList) (byteI (48 + kindOf s.data.toList)) = s.data.toList
              · have hq : (rightsL (modeOf s.data.toList) (byteI (48 + kindOf s.data.toList)) == s.toList) = true := by rw [ByteArray.toList_eq, hr]; simp
                have hp : prF s.data.toList = ((modeOf s.data.toList : Int), byteI (48 + kindOf s.data.toList), 0) := by rw [prF, if_neg Hlt.out, if_neg (by have := Hk.out; omega), if_pos hr]
                have Hp := Lib.hid hp
                clear hp hr
                go_wp2_with (go_at_call 35; refine (rights_args _ _ _ (modeOf s.data.toList) (byteI (48 + kindOf s.data.toList)) (by simp only [modeOf]; omega) (byteI_toNat _ (by omega) (by omega))).mono ?_; rintro e w1 ⟨rfl, hb1⟩)
                go_ret3
                exact ⟨by rw [Hp.out]; exact ret_tri _ _ _ _ _ (by simp only [modeOf]; omega) (byteI_toNat _ (by omega) (by omega)).symm, (((Below.refl _ _).alloc (Nat.le_refl _) _).drew).trans (hb1.mono (by simp))⟩
              · have hq : (rightsL (modeOf s.data.toList) (byteI (48 + kindOf s.data.toList)) == s.toList) = false := by rw [ByteArray.toList_eq]; simpa using hr
                have hp : prF s.data.toList = (0, 0, 2) := by rw [prF, if_neg Hlt.out, if_neg (by have := Hk.out; omega), if_neg hr]
                have Hp := Lib.hid hp
                clear hp hr
                go_wp2_with (go_at_call 35; refine (rights_args _ _ _ (modeOf s.data.toList) (byteI (48 + kindOf s.data.toList)) (by simp only [modeOf]; omega) (byteI_toNat _ (by omega) (by omega))).mono ?_; rintro e w1 ⟨rfl, hb1⟩)
                go_ret3
                exact ⟨by rw [Hp.out]; rfl, (((Below.refl _ _).alloc (Nat.le_refl _) _).drew).trans (hb1.mono (by simp))⟩
  · have hlt : s.data.toList.length ≠ 10 := by rw [size_len]; exact h10
    have hp : prF s.data.toList = (0, 0, 2) := by rw [prF, if_pos hlt]
    have hne : ((s.size : Int) != 10) = true := bne_iff_ne.2 (by omega)
    go_enter Tryd.func48, Tryd.ntmps48
    go_wp2
    go_ret3
    exact ⟨by rw [hp]; rfl, Below.refl _ _⟩
end Go.Proofs.YtjldphpdfckjnaaDoor
