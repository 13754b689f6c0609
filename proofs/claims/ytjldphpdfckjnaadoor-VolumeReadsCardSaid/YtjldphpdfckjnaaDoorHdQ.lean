/- Heads of members: the plain law of reading one. Heads of members: what is built is read again as it was. -/
import Derived.Test.YtjldphpdfckjnaaDoorSumP
import Derived.Test.YtjldphpdfckjnaaDoorText
namespace Go.Proofs.YtjldphpdfckjnaaDoor
open Go.RowKit

structure HeadL where
  name : List UInt8
  link : List UInt8
  kind : UInt8
  mode : Int
  uid : Int
  gid : Int
  size : Int
  time : Int
  uname : List UInt8
  gname : List UInt8
  major : Int
  minor : Int
  form : Int
/-- a head as a value -/
def HV (h : HeadL) : Value := .agg #[.string (S h.name), .string (S h.link), .int .u8 h.kind.toNat, .int .i64 h.mode, .int .i64 h.uid, .int .i64 h.gid, .int .i64 h.size, .int .i64 h.time, .string (S h.uname), .string (S h.gname), .int .i64 h.major, .int .i64 h.minor, .int .i64 h.form]
def noneH : HeadL := ⟨[], [], 0, 0, 0, 0, 0, 0, [], [], 0, 0, 0⟩
/-- a field's text -/
def readT (l : List UInt8) : List UInt8 := l.takeWhile (· != 0)
def joinL (p b : List UInt8) : List UInt8 := if p.length = 0 then b else p ++ 47 :: b
/-- what a mark tells -/
def formN (m : List UInt8) : Int :=
  if m = [117, 115, 116, 97, 114, 0, 48, 48] then 2 else if m = [117, 115, 116, 97, 114, 32, 32, 0] then 3 else if m = [0, 0, 0, 0, 0, 0, 0, 0] then 1 else 0
/-- a field's number, and an error's number -/
def numN (s : List UInt8) (a n : Nat) (below : Bool) : Int × Nat :=
  if (readO (fldL s a n)).2 = 0 ∧ (readO (fldL s a n)).1 < 0 ∧ below = false then (0, 6) else readO (fldL s a n)
/-- the first error of some fields -/
def errN (s : List UInt8) : List (Nat × Nat × Bool) → Nat
  | [] => 0
  | x :: l => if (numN s x.1 x.2.1 x.2.2).2 = 0 then errN s l else (numN s x.1 x.2.1 x.2.2).2
def rows5 : List (Nat × Nat × Bool) := [(100, 8, false), (108, 8, false), (116, 8, false), (124, 12, false), (136, 12, true)]
def rows2 : List (Nat × Nat × Bool) := [(329, 8, false), (337, 8, false)]
def rowsN (f : Int) : List (Nat × Nat × Bool) := if f = 1 then rows5 else rows5 ++ rows2
def kindN (k : UInt8) : UInt8 := if k = 0 then 48 else k
def headN (s : List UInt8) (f : Int) : HeadL where
  name := if f = 2 then joinL (readT (fldL s 345 155)) (readT (fldL s 0 100)) else readT (fldL s 0 100)
  link := readT (fldL s 157 100)
  kind := kindN (s.getD 156 0)
  mode := (numN s 100 8 false).1
  uid := (numN s 108 8 false).1
  gid := (numN s 116 8 false).1
  size := (numN s 124 12 false).1
  time := (numN s 136 12 true).1
  uname := if f = 1 then [] else readT (fldL s 265 32)
  gname := if f = 1 then [] else readT (fldL s 297 32)
  major := if f = 1 then 0 else (numN s 329 8 false).1
  minor := if f = 1 then 0 else (numN s 337 8 false).1
  form := f
/-- a block's head, and an error's number -/
def parseN (s : List UInt8) : HeadL × Nat :=
  if s.length ≠ 512 then (noneH, 1)
  else if rightL s = false then (noneH, 4)
  else if formN (fldL s 257 8) = 0 then (noneH, 2)
  else if errN s (rowsN (formN (fldL s 257 8))) = 0 then (headN s (formN (fldL s 257 8)), 0) else (noneH, errN s (rowsN (formN (fldL s 257 8))))

/-! ### A head, built -/
def padL (l : List UInt8) (n : Nat) : List UInt8 := l ++ List.replicate (n - l.length) 0
/-- a name's two fields, and are there any -/
def partP (h : HeadL) : List UInt8 := (partF (S h.name)).1.data.toList
def partB (h : HeadL) : List UInt8 := (partF (S h.name)).2.1.data.toList
def partO (h : HeadL) : Bool := (partF (S h.name)).2.2
def noNul (l : List UInt8) : Bool := !l.contains 0
/-- can a head be built? An error's number -/
def fitsN (h : HeadL) : Nat :=
  if ¬ (noNul h.name = true ∧ noNul h.link = true ∧ noNul h.uname = true ∧ noNul h.gname = true) then 2
  else if ¬ (partO h = true ∧ h.link.length ≤ 100 ∧ h.uname.length ≤ 32 ∧ h.gname.length ≤ 32) then 12
  else if ¬ ((0 ≤ h.mode ∧ h.mode < 2097152) ∧ (0 ≤ h.uid ∧ h.uid < 2097152) ∧ (0 ≤ h.gid ∧ h.gid < 2097152) ∧ (0 ≤ h.major ∧ h.major < 2097152) ∧ (0 ≤ h.minor ∧ h.minor < 2097152) ∧ (0 ≤ h.size ∧ h.size < 8589934592) ∧ (0 ≤ h.time ∧ h.time < 8589934592)) then 6
  else 0
def num8 (v : Int) : List UInt8 := octL 7 v.toNat [0]
def num12 (v : Int) : List UInt8 := octL 11 v.toNat [0]
/-- a block without its sum; 'sum': what stands in the sum's place -/
def rawN (h : HeadL) (sum : List UInt8) : List UInt8 :=
  padL (partB h) 100 ++ (num8 h.mode ++ (num8 h.uid ++ (num8 h.gid ++ (num12 h.size ++ (num12 h.time ++ (sum ++ ([kindN h.kind] ++ (padL h.link 100 ++ ([117, 115, 116, 97, 114, 0, 48, 48] ++ (padL h.uname 32 ++ (padL h.gname 32 ++ (num8 h.major ++ (num8 h.minor ++ (padL (partP h) 155 ++ List.replicate 12 0))))))))))))))
def buildN (h : HeadL) : List UInt8 := sealL (rawN h [32, 32, 32, 32, 32, 32, 32, 32])
/-- the head that is read again -/
def turnH (h : HeadL) : HeadL := { h with kind := kindN h.kind, form := 2 }
theorem pad_len (l : List UInt8) (n : Nat) (h : l.length ≤ n) : (padL l n).length = n := by
  unfold padL
  rw [List.length_append, List.length_replicate]; omega
theorem num8_len (v : Int) : (num8 v).length = 8 := octL_len _ _ _
theorem num12_len (v : Int) : (num12 v).length = 12 := octL_len _ _ _
theorem readT_pad (l : List UInt8) (n : Nat) (h : noNul l = true) : readT (padL l n) = l := by
  unfold readT padL
  have hl : ∀ x ∈ l, (x != 0) = true := by
    intro x hx
    have h2 : l.contains 0 = false := by unfold noNul at h; revert h; cases l.contains 0 <;> simp
    have h3 : ¬ (0 : UInt8) ∈ l := by simpa using h2
    have : x ≠ 0 := fun e => h3 (e ▸ hx)
    simpa using this
  rw [List.takeWhile_append_of_pos hl]
  cases n - l.length with
  | zero => simp
  | succ k => simp [List.replicate_succ]
theorem readO_num8 (v : Int) (h0 : 0 ≤ v) (h1 : v < 2097152) : readO (num8 v) = (v, 0) := by
  unfold num8
  rw [readO_field 7 _ (by decide) (by decide) (show v.toNat < 8 ^ 7 by have : (8 : Nat) ^ 7 = 2097152 := by decide
                                                                       omega)]
  congr 1; omega
theorem readO_num12 (v : Int) (h0 : 0 ≤ v) (h1 : v < 8589934592) : readO (num12 v) = (v, 0) := by
  unfold num12
  rw [readO_field 11 _ (by decide) (by decide) (show v.toNat < 8 ^ 11 by have : (8 : Nat) ^ 11 = 8589934592 := by decide
                                                                         omega)]
  congr 1; omega
theorem fits_iff (h : HeadL) : fitsN h = 0 ↔ (noNul h.name = true ∧ noNul h.link = true ∧ noNul h.uname = true ∧ noNul h.gname = true) ∧ (partO h = true ∧ h.link.length ≤ 100 ∧ h.uname.length ≤ 32 ∧ h.gname.length ≤ 32) ∧
    ((0 ≤ h.mode ∧ h.mode < 2097152) ∧ (0 ≤ h.uid ∧ h.uid < 2097152) ∧ (0 ≤ h.gid ∧ h.gid < 2097152) ∧ (0 ≤ h.major ∧ h.major < 2097152) ∧ (0 ≤ h.minor ∧ h.minor < 2097152) ∧ (0 ≤ h.size ∧ h.size < 8589934592) ∧ (0 ≤ h.time ∧ h.time < 8589934592)) := by
  unfold fitsN
  constructor
  · intro e
    split at e
    · cases e
    · rename_i h1
      split at e
      · cases e
      · rename_i h2
        split at e
        · cases e
        · rename_i h3
          exact ⟨Decidable.not_not.1 h1, Decidable.not_not.1 h2, Decidable.not_not.1 h3⟩
  · rintro ⟨h1, h2, h3⟩
    rw [if_neg (not_not_intro h1), if_neg (not_not_intro h2), if_neg (not_not_intro h3)]
theorem part_lens (h : HeadL) (ho : partO h = true) : (partP h).length ≤ 155 ∧ (partB h).length ≤ 100 ∧ joinL (partP h) (partB h) = h.name := by
  have h1 := part_len (S h.name) ho
  have h2 := part_join (S h.name) ho
  have key : ∀ p : ByteArray × ByteArray × Bool, joinF p.1 p.2.1 = S h.name → joinL p.1.data.toList p.2.1.data.toList = h.name := by
    intro p e
    unfold joinF at e
    unfold joinL
    rw [size_len]
    by_cases h0 : p.1.size = 0
    · rw [if_pos h0] at e ⊢
      rw [e]
      rfl
    · rw [if_neg h0] at e ⊢
      have e2 : p.1 ++ S [47] ++ p.2.1 = S (p.1.data.toList ++ [47] ++ p.2.1.data.toList) := by
        rw [← S_append, ← S_append]; rfl
      rw [e2] at e
      have e3 := congrArg (fun x : ByteArray => x.data.toList) e
      simpa using e3
  exact ⟨by unfold partP; rw [size_len]; exact h1.1, by unfold partB; rw [size_len]; exact h1.2.1, key _ h2⟩
theorem part_nul (h : HeadL) (ho : partO h = true) (hn : noNul h.name = true) : noNul (partP h) = true ∧ noNul (partB h) = true := by
  have e := (part_lens h ho).2.2
  have h2 : h.name.contains 0 = false := by unfold noNul at hn; revert hn; cases h.name.contains 0 <;> simp
  have h3 : ¬ (0 : UInt8) ∈ h.name := by simpa using h2
  unfold noNul
  rw [Bool.not_eq_true', Bool.not_eq_true']
  rw [← e] at h3
  unfold joinL at h3
  split at h3
  · rename_i hp
    have : partP h = [] := List.eq_nil_of_length_eq_zero hp
    rw [this]
    exact ⟨rfl, by simpa using h3⟩
  · simp only [List.mem_append, List.mem_cons, not_or] at h3
    exact ⟨by simpa using h3.1, by simpa using h3.2.2⟩
end Go.Proofs.YtjldphpdfckjnaaDoor
namespace Go.Proofs.YtjldphpdfckjnaaDoor
open Go.RowKit

theorem fld_skip (A B : List UInt8) (k a n : Nat) (h : A.length = k) (hk : k ≤ a) : fldL (A ++ B) a n = fldL B (a - k) n := by
  subst h
  unfold fldL
  rw [List.drop_append, List.drop_eq_nil_of_le hk, List.nil_append]
theorem fld_head (P B : List UInt8) (a n : Nat) (ha : a = 0) (hp : P.length = n) : fldL (P ++ B) a n = P := by
  subst ha hp
  unfold fldL
  rw [List.drop_zero, List.take_left]
structure RawFields (s : List UInt8) (h : HeadL) : Prop where
  len : s.length = 512
  name : fldL s 0 100 = padL (partB h) 100
  mode : fldL s 100 8 = num8 h.mode
  uid : fldL s 108 8 = num8 h.uid
  gid : fldL s 116 8 = num8 h.gid
  size : fldL s 124 12 = num12 h.size
  time : fldL s 136 12 = num12 h.time
  kind : fldL s 156 1 = [kindN h.kind]
  link : fldL s 157 100 = padL h.link 100
  mark : fldL s 257 8 = [117, 115, 116, 97, 114, 0, 48, 48]
  uname : fldL s 265 32 = padL h.uname 32
  gname : fldL s 297 32 = padL h.gname 32
  major : fldL s 329 8 = num8 h.major
  minor : fldL s 337 8 = num8 h.minor
  prefix_ : fldL s 345 155 = padL (partP h) 155
theorem raw_fields (h : HeadL) (sum : List UInt8) (hs : sum.length = 8) (hf : fitsN h = 0) : RawFields (rawN h sum) h := by
  obtain ⟨_, ⟨ho, hl, hu, hg⟩, _⟩ := (fits_iff h).1 hf
  obtain ⟨hp, hb, _⟩ := part_lens h ho
  have l0 := pad_len (partB h) 100 hb
  have l1 := num8_len h.mode
  have l2 := num8_len h.uid
  have l3 := num8_len h.gid
  have l4 := num12_len h.size
  have l5 := num12_len h.time
  have l6 : [kindN h.kind].length = 1 := rfl
  have l7 := pad_len h.link 100 hl
  have l8 : ([117, 115, 116, 97, 114, 0, 48, 48] : List UInt8).length = 8 := rfl
  have l9 := pad_len h.uname 32 hu
  have l10 := pad_len h.gname 32 hg
  have l11 := num8_len h.major
  have l12 := num8_len h.minor
  have l13 := pad_len (partP h) 155 hp
  unfold rawN
  constructor
  · simp only [List.length_append, List.length_replicate, l0, l1, l2, l3, l4, l5, l6, l7, l8, l9, l10, l11, l12, l13, hs]
  · exact fld_head _ _ _ _ rfl l0
  · rw [fld_skip _ _ _ _ _ l0 (by decide)]; exact fld_head _ _ _ _ rfl l1
  · rw [fld_skip _ _ _ _ _ l0 (by decide), fld_skip _ _ _ _ _ l1 (by decide)]; exact fld_head _ _ _ _ rfl l2
  · rw [fld_skip _ _ _ _ _ l0 (by decide), fld_skip _ _ _ _ _ l1 (by decide), fld_skip _ _ _ _ _ l2 (by decide)]; exact fld_head _ _ _ _ rfl l3
  · rw [fld_skip _ _ _ _ _ l0 (by decide), fld_skip _ _ _ _ _ l1 (by decide), fld_skip _ _ _ _ _ l2 (by decide), fld_skip _ _ _ _ _ l3 (by decide)]; exact fld_head _ _ _ _ rfl l4
  · rw [fld_skip _ _ _ _ _ l0 (by decide), fld_skip _ _ _ _ _ l1 (by decide), fld_skip _ _ _ _ _ l2 (by decide), fld_skip _ _ _ _ _ l3 (by decide), fld_skip _ _ _ _ _ l4 (by decide)]; exact fld_head _ _ _ _ rfl l5
  all_goals rw [fld_skip _ _ _ _ _ l0 (by decide), fld_skip _ _ _ _ _ l1 (by decide), fld_skip _ _ _ _ _ l2 (by decide), fld_skip _ _ _ _ _ l3 (by decide), fld_skip _ _ _ _ _ l4 (by decide), fld_skip _ _ _ _ _ l5 (by decide), fld_skip _ _ _ _ _ hs (by decide)]
  · exact fld_head _ _ _ _ rfl l6
  all_goals rw [fld_skip _ _ _ _ _ l6 (by decide)]
  · exact fld_head _ _ _ _ rfl l7
  all_goals rw [fld_skip _ _ _ _ _ l7 (by decide)]
  · exact fld_head _ _ _ _ rfl l8
  all_goals rw [fld_skip _ _ _ _ _ l8 (by decide)]
  · exact fld_head _ _ _ _ rfl l9
  all_goals rw [fld_skip _ _ _ _ _ l9 (by decide)]
  · exact fld_head _ _ _ _ rfl l10
  all_goals rw [fld_skip _ _ _ _ _ l10 (by decide)]
  · exact fld_head _ _ _ _ rfl l11
  all_goals rw [fld_skip _ _ _ _ _ l11 (by decide)]
  · exact fld_head _ _ _ _ rfl l12
  · rw [fld_skip _ _ _ _ _ l12 (by decide)]; exact fld_head _ _ _ _ rfl l13
theorem build_fields (h : HeadL) (hf : fitsN h = 0) : RawFields (buildN h) h := by
  have r := raw_fields h [32, 32, 32, 32, 32, 32, 32, 32] rfl hf
  unfold buildN
  generalize rawN h [32, 32, 32, 32, 32, 32, 32, 32] = s at *
  exact ⟨seal_len s r.len, by rw [seal_fld s r.len _ _ (by decide) (by decide)]; exact r.name, by rw [seal_fld s r.len _ _ (by decide) (by decide)]; exact r.mode,
    by rw [seal_fld s r.len _ _ (by decide) (by decide)]; exact r.uid, by rw [seal_fld s r.len _ _ (by decide) (by decide)]; exact r.gid,
    by rw [seal_fld s r.len _ _ (by decide) (by decide)]; exact r.size, by rw [seal_fld s r.len _ _ (by decide) (by decide)]; exact r.time,
    by rw [seal_fld s r.len _ _ (by decide) (by decide)]; exact r.kind, by rw [seal_fld s r.len _ _ (by decide) (by decide)]; exact r.link,
    by rw [seal_fld s r.len _ _ (by decide) (by decide)]; exact r.mark, by rw [seal_fld s r.len _ _ (by decide) (by decide)]; exact r.uname,
    by rw [seal_fld s r.len _ _ (by decide) (by decide)]; exact r.gname, by rw [seal_fld s r.len _ _ (by decide) (by decide)]; exact r.major,
    by rw [seal_fld s r.len _ _ (by decide) (by decide)]; exact r.minor, by rw [seal_fld s r.len _ _ (by decide) (by decide)]; exact r.prefix_⟩
theorem build_right (h : HeadL) (hf : fitsN h = 0) : rightL (buildN h) = true := seal_right _ (raw_fields h _ rfl hf).len
theorem numN_of (s : List UInt8) (a n : Nat) (b : Bool) (v : Int) (h0 : 0 ≤ v) (h : readO (fldL s a n) = (v, 0)) : numN s a n b = (v, 0) := by
  unfold numN
  rw [h, if_neg (by rintro ⟨_, h2, _⟩; have h3 : v < 0 := h2; omega)]
theorem kind_ne (k : UInt8) : kindN (kindN k) = kindN k := by
  unfold kindN
  by_cases h : k = 0
  · rw [if_pos h]; rfl
  · rw [if_neg h, if_neg h]
theorem kind_of {s : List UInt8} {h : HeadL} (r : fldL s 156 1 = [kindN h.kind]) : kindN (s.getD 156 0) = kindN h.kind := by
  have e := getD_fld s 156 1 0 (by decide)
  rw [r] at e
  rw [← kind_ne h.kind, show s.getD 156 0 = kindN h.kind from e.symm]
structure Nums (s : List UInt8) (h : HeadL) : Prop where
  mode : numN s 100 8 false = (h.mode, 0)
  uid : numN s 108 8 false = (h.uid, 0)
  gid : numN s 116 8 false = (h.gid, 0)
  size : numN s 124 12 false = (h.size, 0)
  time : numN s 136 12 true = (h.time, 0)
theorem nums_of {s : List UInt8} {h : HeadL} (hf : fitsN h = 0) (h1 : fldL s 100 8 = num8 h.mode) (h2 : fldL s 108 8 = num8 h.uid) (h3 : fldL s 116 8 = num8 h.gid)
    (h4 : fldL s 124 12 = num12 h.size) (h5 : fldL s 136 12 = num12 h.time) : Nums s h := by
  obtain ⟨_, _, n1, n2, n3, _, _, n4, n5⟩ := (fits_iff h).1 hf
  exact ⟨numN_of _ _ _ _ _ n1.1 (by rw [h1]; exact readO_num8 _ n1.1 n1.2), numN_of _ _ _ _ _ n2.1 (by rw [h2]; exact readO_num8 _ n2.1 n2.2),
    numN_of _ _ _ _ _ n3.1 (by rw [h3]; exact readO_num8 _ n3.1 n3.2), numN_of _ _ _ _ _ n4.1 (by rw [h4]; exact readO_num12 _ n4.1 n4.2),
    numN_of _ _ _ _ _ n5.1 (by rw [h5]; exact readO_num12 _ n5.1 n5.2)⟩
/-- what is built is read as it was -/
theorem parse_build (h : HeadL) (hf : fitsN h = 0) : parseN (buildN h) = (turnH h, 0) := by
  have r := build_fields h hf
  have hr := build_right h hf
  have hn := nums_of hf r.mode r.uid r.gid r.size r.time
  obtain ⟨⟨z1, z2, z3, z4⟩, ⟨ho, hl, hu, hg⟩, _, _, _, n6, n7, _, _⟩ := (fits_iff h).1 hf
  have hp := part_lens h ho
  have hz := part_nul h ho z1
  have m6 : numN (buildN h) 329 8 false = (h.major, 0) := numN_of _ _ _ _ _ n6.1 (by rw [r.major]; exact readO_num8 _ n6.1 n6.2)
  have m7 : numN (buildN h) 337 8 false = (h.minor, 0) := numN_of _ _ _ _ _ n7.1 (by rw [r.minor]; exact readO_num8 _ n7.1 n7.2)
  have hk := kind_of r.kind
  have e1 : readT (fldL (buildN h) 345 155) = partP h := by rw [r.prefix_]; exact readT_pad _ _ hz.1
  have e2 : readT (fldL (buildN h) 0 100) = partB h := by rw [r.name]; exact readT_pad _ _ hz.2
  have e3 : readT (fldL (buildN h) 157 100) = h.link := by rw [r.link]; exact readT_pad _ _ z2
  have e4 : readT (fldL (buildN h) 265 32) = h.uname := by rw [r.uname]; exact readT_pad _ _ z3
  have e5 : readT (fldL (buildN h) 297 32) = h.gname := by rw [r.gname]; exact readT_pad _ _ z4
  have e6 : formN (fldL (buildN h) 257 8) = 2 := by rw [r.mark]; rfl
  have e7 : errN (buildN h) (rowsN 2) = 0 := by
    simp [rowsN, rows5, rows2, errN, hn.mode, hn.uid, hn.gid, hn.size, hn.time, m6, m7]
  unfold parseN
  rw [if_neg (fun g => g r.len), if_neg (by rw [hr]; decide), e6, if_neg (by decide), if_pos e7]
  simp only [headN, e1, e2, e3, e4, e5, hn.mode, hn.uid, hn.gid, hn.size, hn.time, m6, m7, hk, hp.2.2, turnH]
  rfl
/-- a block without a mark -/
theorem parse_old (h : HeadL) (t : List UInt8) (hf : fitsN h = 0) (h100 : h.name.length ≤ 100) (ht : t.length = 512)
    (hsame : ∀ i, i < 257 → t.getD i 0 = (buildN h).getD i 0) (hmark : fldL t 257 8 = [0, 0, 0, 0, 0, 0, 0, 0]) :
    parseN (sealL t) = ({ turnH h with form := 1, uname := [], gname := [], major := 0, minor := 0 }, 0) := by
  have r := build_fields h hf
  have hfl : ∀ a n, a + n ≤ 148 ∨ (156 ≤ a ∧ a + n ≤ 257) → fldL (sealL t) a n = fldL (buildN h) a n := fun a n hd => by
    rw [seal_fld t ht a n (by omega) (by omega)]
    exact ext_fld _ _ _ _ (by omega) (by rw [r.len]; omega) fun i _ _ => hsame i (by omega)
  have hn := nums_of (s := sealL t) hf ((hfl _ _ (by decide)).trans r.mode) ((hfl _ _ (by decide)).trans r.uid) ((hfl _ _ (by decide)).trans r.gid) ((hfl _ _ (by decide)).trans r.size) ((hfl _ _ (by decide)).trans r.time)
  obtain ⟨⟨z1, z2, _, _⟩, ⟨ho, _⟩, _⟩ := (fits_iff h).1 hf
  have hz := part_nul h ho z1
  have hb : partB h = h.name := by
    unfold partB partF
    rw [if_pos (by rw [S_size]; exact h100)]
    rfl
  have e2 : readT (fldL (sealL t) 0 100) = h.name := by rw [hfl _ _ (by decide), r.name, readT_pad _ _ hz.2, hb]
  have e3 : readT (fldL (sealL t) 157 100) = h.link := by rw [hfl _ _ (by decide), r.link]; exact readT_pad _ _ z2
  have e6 : formN (fldL (sealL t) 257 8) = 1 := by rw [seal_fld t ht _ _ (by decide) (by decide), hmark]; rfl
  have e7 : errN (sealL t) (rowsN 1) = 0 := by
    simp [rowsN, rows5, errN, hn.mode, hn.uid, hn.gid, hn.size, hn.time]
  have hk : kindN ((sealL t).getD 156 0) = kindN h.kind := kind_of ((hfl 156 1 (by decide)).trans r.kind)
  unfold parseN
  rw [if_neg (fun g => g (seal_len t ht)), if_neg (by rw [seal_right t ht]; decide), e6, if_neg (by decide), if_pos e7]
  simp only [headN, e2, e3, hn.mode, hn.uid, hn.gid, hn.size, hn.time, hk, turnH]
  rfl
end Go.Proofs.YtjldphpdfckjnaaDoor
