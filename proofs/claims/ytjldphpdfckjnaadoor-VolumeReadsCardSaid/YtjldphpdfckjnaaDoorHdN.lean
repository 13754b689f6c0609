/- Heads of members: what header.Fits tells: plain lemmas. Heads of members: how a block grows, field by field: plain. -/
import Derived.Test.YtjldphpdfckjnaaDoorHdK
namespace Go.Proofs.YtjldphpdfckjnaaDoor
open Go.RowKit

theorem idx_nul : ∀ l : List UInt8, (Lib.indexByte l 0 = -1 ∧ noNul l = true) ∨ (∃ k : Nat, Lib.indexByte l 0 = k ∧ noNul l = false)
  | [] => .inl ⟨rfl, rfl⟩
  | b :: l => by
    by_cases hb : b = 0
    · subst hb
      exact .inr ⟨0, by simp [Lib.indexByte], by simp [noNul]⟩
    · have hb1 : (b == 0) = false := by simpa using hb
      have hb2 : ¬ (0 : UInt8) = b := fun e => hb e.symm
      rcases idx_nul l with ⟨h1, h2⟩ | ⟨k, h1, h2⟩
      · left
        refine ⟨by simp [Lib.indexByte, hb1, h1], ?_⟩
        unfold noNul at h2 ⊢
        rw [List.contains_cons, show ((0 : UInt8) == b) = false from by simpa using hb2]
        exact h2
      · right
        have : ¬ ((k : Int) = -1) := by omega
        refine ⟨k + 1, by simp [Lib.indexByte, hb1, h1, this], ?_⟩
        unfold noNul at h2 ⊢
        rw [List.contains_cons, show ((0 : UInt8) == b) = false from by simpa using hb2]
        exact h2
def four (h : HeadL) : List (List UInt8) := [h.name, h.link, h.uname, h.gname]
theorem four_len (h : HeadL) : (four h).length = 4 := rfl
theorem fits_2 (h : HeadL) (k : Nat) (hk : k < (four h).length) (hn : noNul (four h)[k] = false) : fitsN h = 2 := by
  unfold fitsN
  refine if_pos ?_
  rintro ⟨h1, h2, h3, h4⟩
  have hk4 : k = 0 ∨ k = 1 ∨ k = 2 ∨ k = 3 := by have := four_len h; omega
  rcases hk4 with rfl | rfl | rfl | rfl
  · exact absurd (h1.symm.trans hn) (by decide)
  · exact absurd (h2.symm.trans hn) (by decide)
  · exact absurd (h3.symm.trans hn) (by decide)
  · exact absurd (h4.symm.trans hn) (by decide)
theorem four_all (h : HeadL) (H : ∀ j (hj : j < (four h).length), noNul (four h)[j] = true) : noNul h.name = true ∧ noNul h.link = true ∧ noNul h.uname = true ∧ noNul h.gname = true :=
  ⟨H 0 (show 0 < 4 by decide), H 1 (show 1 < 4 by decide), H 2 (show 2 < 4 by decide), H 3 (show 3 < 4 by decide)⟩
def okT (h : HeadL) (left : Int → Bool) : Bool := partO h && (left 0 || decide ((partB h).length ≤ 100)) && (left 11 || decide ((partP h).length ≤ 155)) && (left 6 || decide (h.link.length ≤ 100)) && (left 7 || decide (h.uname.length ≤ 32)) && (left 8 || decide (h.gname.length ≤ 32))
theorem okT_start (h : HeadL) : okT h (fun x => (textM h x).isSome) = partO h := by simp [okT, textM]
theorem okT_step (h : HeadL) (left : Int → Bool) (x : Int) (s : List UInt8) (hM : textM h x = some (.string s)) (hl : left x = true) :
    ∃ r : Nat, x = r ∧ r < 12 ∧ okT h (fun z => left z && !(z == x)) = (okT h left && decide (s.length ≤ (placesL.getD r (0, 0)).2)) := by
  unfold textM at hM
  split at hM
  · rename_i e; subst e; injection hM with hM; injection hM with hM; subst hM
    exact ⟨8, rfl, by decide, by simp [okT, hl, placesL, Bool.and_comm, Bool.and_left_comm, Bool.and_assoc]⟩
  split at hM
  · rename_i e; subst e; injection hM with hM; injection hM with hM; subst hM
    exact ⟨7, rfl, by decide, by simp [okT, hl, placesL, Bool.and_comm, Bool.and_left_comm, Bool.and_assoc]⟩
  split at hM
  · rename_i e; subst e; injection hM with hM; injection hM with hM; subst hM
    exact ⟨6, rfl, by decide, by simp [okT, hl, placesL, Bool.and_comm, Bool.and_left_comm, Bool.and_assoc]⟩
  split at hM
  · rename_i e; subst e; injection hM with hM; injection hM with hM; subst hM
    exact ⟨11, rfl, by decide, by simp [okT, hl, placesL, Bool.and_comm, Bool.and_left_comm, Bool.and_assoc]⟩
  split at hM
  · rename_i e; subst e; injection hM with hM; injection hM with hM; subst hM
    exact ⟨0, rfl, by decide, by simp [okT, hl, placesL, Bool.and_comm, Bool.and_left_comm, Bool.and_assoc]⟩
  · cases hM
theorem okT_no (h : HeadL) (left : Int → Bool) (hl : ∀ x, left x = false) (hn : noNul h.name = true ∧ noNul h.link = true ∧ noNul h.uname = true ∧ noNul h.gname = true) (hf : okT h left = false) : fitsN h = 12 := by
  unfold fitsN
  rw [if_neg (not_not_intro hn)]
  refine if_pos ?_
  rintro ⟨h1, h2, h3, h4⟩
  obtain ⟨q1, q2, _⟩ := part_lens h h1
  have : okT h left = true := by simp [okT, hl, h1, h2, h3, h4, q1, q2]
  rw [this] at hf
  cases hf
theorem okT_yes (h : HeadL) (left : Int → Bool) (hl : ∀ x, left x = false) (hf : okT h left = true) : partO h = true ∧ h.link.length ≤ 100 ∧ h.uname.length ≤ 32 ∧ h.gname.length ≤ 32 := by
  simp [okT, hl] at hf
  exact ⟨hf.1.1.1.1.1, hf.1.1.2, hf.1.2, hf.2⟩
def goodN (x v : Int) : Prop := 0 ≤ v ∧ v < if x = 4 ∨ x = 5 then 8589934592 else 2097152
theorem num_row (h : HeadL) (x c : Int) (hM : numM h x = some (.int .i64 c)) :
    ∃ r : Nat, x = r ∧ r < 12 ∧ (((placesL.getD r (0, 0)).2 = 8 ∧ (goodN x c ↔ 0 ≤ c ∧ c < 2097152)) ∨ ((placesL.getD r (0, 0)).2 = 12 ∧ (goodN x c ↔ 0 ≤ c ∧ c < 8589934592))) := by
  have key : x = 10 ∨ x = 9 ∨ x = 5 ∨ x = 4 ∨ x = 3 ∨ x = 2 ∨ x = 1 := by
    unfold numM at hM
    split at hM
    · omega
    split at hM
    · omega
    split at hM
    · omega
    split at hM
    · omega
    split at hM
    · omega
    split at hM
    · omega
    split at hM
    · omega
    · cases hM
  rcases key with rfl | rfl | rfl | rfl | rfl | rfl | rfl
  · exact ⟨10, rfl, by decide, .inl ⟨rfl, Iff.rfl⟩⟩
  · exact ⟨9, rfl, by decide, .inl ⟨rfl, Iff.rfl⟩⟩
  · exact ⟨5, rfl, by decide, .inr ⟨rfl, Iff.rfl⟩⟩
  · exact ⟨4, rfl, by decide, .inr ⟨rfl, Iff.rfl⟩⟩
  · exact ⟨3, rfl, by decide, .inl ⟨rfl, Iff.rfl⟩⟩
  · exact ⟨2, rfl, by decide, .inl ⟨rfl, Iff.rfl⟩⟩
  · exact ⟨1, rfl, by decide, .inl ⟨rfl, Iff.rfl⟩⟩
theorem fits_end (h : HeadL) (hn : noNul h.name = true ∧ noNul h.link = true ∧ noNul h.uname = true ∧ noNul h.gname = true) (hp : partO h = true ∧ h.link.length ≤ 100 ∧ h.uname.length ≤ 32 ∧ h.gname.length ≤ 32)
    (hg : ∀ x v, numM h x = some (.int .i64 v) → goodN x v) : fitsN h = 0 :=
  (fits_iff h).2 ⟨hn, hp, hg 1 _ rfl, hg 2 _ rfl, hg 3 _ rfl, hg 9 _ rfl, hg 10 _ rfl, hg 4 _ rfl, hg 5 _ rfl⟩
theorem fits_6 (h : HeadL) (hn : noNul h.name = true ∧ noNul h.link = true ∧ noNul h.uname = true ∧ noNul h.gname = true) (hp : partO h = true ∧ h.link.length ≤ 100 ∧ h.uname.length ≤ 32 ∧ h.gname.length ≤ 32)
    (x c : Int) (hM : numM h x = some (.int .i64 c)) (hb : ¬ goodN x c) : fitsN h = 6 := by
  unfold fitsN
  rw [if_neg (not_not_intro hn), if_neg (not_not_intro hp)]
  refine if_pos ?_
  rintro ⟨g1, g2, g3, g4, g5, g6, g7⟩
  apply hb
  unfold numM at hM
  split at hM
  · rename_i e; subst e; injection hM with hM; injection hM with _ hM; subst hM; exact g5
  split at hM
  · rename_i e; subst e; injection hM with hM; injection hM with _ hM; subst hM; exact g4
  split at hM
  · rename_i e; subst e; injection hM with hM; injection hM with _ hM; subst hM; exact g7
  split at hM
  · rename_i e; subst e; injection hM with hM; injection hM with _ hM; subst hM; exact g6
  split at hM
  · rename_i e; subst e; injection hM with hM; injection hM with _ hM; subst hM; exact g3
  split at hM
  · rename_i e; subst e; injection hM with hM; injection hM with _ hM; subst hM; exact g2
  split at hM
  · rename_i e; subst e; injection hM with hM; injection hM with _ hM; subst hM; exact g1
  · cases hM
end Go.Proofs.YtjldphpdfckjnaaDoor
namespace Go.Proofs.YtjldphpdfckjnaaDoor
open Go.RowKit

/-- bytes with some others laid over them, from a place on -/
def layL (l : List UInt8) (off : Nat) (s : List UInt8) : List UInt8 := l.take off ++ s ++ l.drop (off + s.length)
theorem lay_skip (A B s : List UInt8) (k off : Nat) (hA : A.length = k) (hk : k ≤ off) : layL (A ++ B) off s = A ++ layL B (off - k) s := by
  subst hA
  unfold layL
  rw [List.take_append, List.take_of_length_le hk, List.drop_append, List.drop_eq_nil_of_le (by omega), List.nil_append, show off + s.length - A.length = off - A.length + s.length by omega]
  simp [List.append_assoc]
theorem lay_head (n : Nat) (B s : List UInt8) (off : Nat) (h0 : off = 0) (hs : s.length ≤ n) : layL (List.replicate n 0 ++ B) off s = padL s n ++ B := by
  subst h0
  unfold layL padL
  rw [List.take_zero, List.nil_append, Nat.zero_add, List.drop_append, List.drop_replicate, List.length_replicate, Nat.sub_eq_zero_of_le hs, List.drop_zero, List.append_assoc]
theorem lay_full (n : Nat) (B s : List UInt8) (off : Nat) (h0 : off = 0) (hs : s.length = n) : layL (List.replicate n 0 ++ B) off s = s ++ B := by
  rw [lay_head n B s off h0 (by omega)]
  unfold padL
  rw [hs, Nat.sub_self]
  simp
def pcT (b : Bool) (s : List UInt8) (n : Nat) : List UInt8 := if b = true then List.replicate n 0 else padL s n
def pcN (b : Bool) (s : List UInt8) (n : Nat) : List UInt8 := if b = true then List.replicate n 0 else s
theorem pcT_len (b : Bool) (s : List UInt8) (n : Nat) (h : s.length ≤ n) : (pcT b s n).length = n := by
  unfold pcT
  split
  · exact List.length_replicate
  · exact pad_len s n h
theorem pcN_len (b : Bool) (s : List UInt8) (n : Nat) (h : s.length = n) : (pcN b s n).length = n := by
  unfold pcN
  split
  · exact List.length_replicate
  · exact h
/-- a block with those texts and numbers that are no longer to come -/
def rawW (h : HeadL) (L N : Int → Bool) : List UInt8 :=
  pcT (L 0) (partB h) 100 ++ (pcN (N 1) (num8 h.mode) 8 ++ (pcN (N 2) (num8 h.uid) 8 ++ (pcN (N 3) (num8 h.gid) 8 ++ (pcN (N 4) (num12 h.size) 12 ++ (pcN (N 5) (num12 h.time) 12 ++ (List.replicate 8 0 ++ (List.replicate 1 0 ++ (pcT (L 6) h.link 100 ++
    (List.replicate 8 0 ++ (pcT (L 7) h.uname 32 ++ (pcT (L 8) h.gname 32 ++ (pcN (N 9) (num8 h.major) 8 ++ (pcN (N 10) (num8 h.minor) 8 ++ (pcT (L 11) (partP h) 155 ++ List.replicate 12 0))))))))))))))
structure LensH (h : HeadL) : Prop where
  base : (partB h).length ≤ 100
  pre : (partP h).length ≤ 155
  link : h.link.length ≤ 100
  uname : h.uname.length ≤ 32
  gname : h.gname.length ≤ 32
theorem lens_of (h : HeadL) (hf : fitsN h = 0) : LensH h := by
  obtain ⟨_, ⟨ho, hl, hu, hg⟩, _⟩ := (fits_iff h).1 hf
  obtain ⟨hp, hb, _⟩ := part_lens h ho
  exact ⟨hb, hp, hl, hu, hg⟩
theorem rawW_start (h : HeadL) (L N : Int → Bool) (hL : ∀ x ∈ [(0 : Int), 6, 7, 8, 11], L x = true) (hN : ∀ x ∈ [(1 : Int), 2, 3, 4, 5, 9, 10], N x = true) : rawW h L N = List.replicate 512 0 := by
  unfold rawW pcT pcN
  rw [hL 0 (by decide), hL 6 (by decide), hL 7 (by decide), hL 8 (by decide), hL 11 (by decide), hN 1 (by decide), hN 2 (by decide), hN 3 (by decide), hN 4 (by decide), hN 5 (by decide), hN 9 (by decide), hN 10 (by decide)]
  simp only [if_true, List.replicate_append_replicate]
theorem rawW_len (h : HeadL) (H : LensH h) (L N : Int → Bool) : (rawW h L N).length = 512 := by
  unfold rawW
  simp only [List.length_append, List.length_replicate, pcT_len _ _ _ H.base, pcT_len _ _ _ H.pre, pcT_len _ _ _ H.link, pcT_len _ _ _ H.uname, pcT_len _ _ _ H.gname, pcN_len _ _ _ (num8_len _), pcN_len _ _ _ (num12_len _)]
section
variable (h : HeadL) (H : LensH h) (L N : Int → Bool)
include H
theorem rawW_text (x : Int) (s : List UInt8) (hM : textM h x = some (.string s)) (hl : L x = true) :
    ∃ r : Nat, x = r ∧ r < 12 ∧ (placesL.getD r (0, 0)).1 + s.length ≤ 512 ∧ layL (rawW h L N) (placesL.getD r (0, 0)).1 s = rawW h (fun z => L z && !(z == x)) N := by
  have l0 := pcT_len (L 0) (partB h) 100 H.base
  have l1 := pcN_len (N 1) (num8 h.mode) 8 (num8_len _)
  have l2 := pcN_len (N 2) (num8 h.uid) 8 (num8_len _)
  have l3 := pcN_len (N 3) (num8 h.gid) 8 (num8_len _)
  have l4 := pcN_len (N 4) (num12 h.size) 12 (num12_len _)
  have l5 := pcN_len (N 5) (num12 h.time) 12 (num12_len _)
  have l6 : (List.replicate 8 (0 : UInt8)).length = 8 := List.length_replicate
  have l7 : (List.replicate 1 (0 : UInt8)).length = 1 := List.length_replicate
  have l8 := pcT_len (L 6) h.link 100 H.link
  have l9 := pcT_len (L 7) h.uname 32 H.uname
  have l10 := pcT_len (L 8) h.gname 32 H.gname
  have l11 := pcN_len (N 9) (num8 h.major) 8 (num8_len _)
  have l12 := pcN_len (N 10) (num8 h.minor) 8 (num8_len _)
  unfold textM at hM
  split at hM
  · rename_i e; subst e; injection hM with hM; injection hM with hM; subst hM
    refine ⟨8, rfl, by decide, by have := H.gname; show 297 + h.gname.length ≤ 512; omega, ?_⟩
    show layL (rawW h L N) 297 h.gname = _
    unfold rawW
    rw [lay_skip _ _ _ _ _ l0 (by decide), lay_skip _ _ _ _ _ l1 (by decide), lay_skip _ _ _ _ _ l2 (by decide), lay_skip _ _ _ _ _ l3 (by decide), lay_skip _ _ _ _ _ l4 (by decide), lay_skip _ _ _ _ _ l5 (by decide), lay_skip _ _ _ _ _ l6 (by decide), lay_skip _ _ _ _ _ l7 (by decide), lay_skip _ _ _ _ _ l8 (by decide), lay_skip _ _ _ _ _ l6 (by decide), lay_skip _ _ _ _ _ l9 (by decide)]
    rw [show pcT (L 8) h.gname 32 = List.replicate 32 0 by unfold pcT; rw [hl]; rfl, lay_head _ _ _ _ rfl H.gname]
    simp [pcT, hl]
  split at hM
  · rename_i e; subst e; injection hM with hM; injection hM with hM; subst hM
    refine ⟨7, rfl, by decide, by have := H.uname; show 265 + h.uname.length ≤ 512; omega, ?_⟩
    show layL (rawW h L N) 265 h.uname = _
    unfold rawW
    rw [lay_skip _ _ _ _ _ l0 (by decide), lay_skip _ _ _ _ _ l1 (by decide), lay_skip _ _ _ _ _ l2 (by decide), lay_skip _ _ _ _ _ l3 (by decide), lay_skip _ _ _ _ _ l4 (by decide), lay_skip _ _ _ _ _ l5 (by decide), lay_skip _ _ _ _ _ l6 (by decide), lay_skip _ _ _ _ _ l7 (by decide), lay_skip _ _ _ _ _ l8 (by decide), lay_skip _ _ _ _ _ l6 (by decide)]
    rw [show pcT (L 7) h.uname 32 = List.replicate 32 0 by unfold pcT; rw [hl]; rfl, lay_head _ _ _ _ rfl H.uname]
    simp [pcT, hl]
  split at hM
  · rename_i e; subst e; injection hM with hM; injection hM with hM; subst hM
    refine ⟨6, rfl, by decide, by have := H.link; show 157 + h.link.length ≤ 512; omega, ?_⟩
    show layL (rawW h L N) 157 h.link = _
    unfold rawW
    rw [lay_skip _ _ _ _ _ l0 (by decide), lay_skip _ _ _ _ _ l1 (by decide), lay_skip _ _ _ _ _ l2 (by decide), lay_skip _ _ _ _ _ l3 (by decide), lay_skip _ _ _ _ _ l4 (by decide), lay_skip _ _ _ _ _ l5 (by decide), lay_skip _ _ _ _ _ l6 (by decide), lay_skip _ _ _ _ _ l7 (by decide)]
    rw [show pcT (L 6) h.link 100 = List.replicate 100 0 by unfold pcT; rw [hl]; rfl, lay_head _ _ _ _ rfl H.link]
    simp [pcT, hl]
  split at hM
  · rename_i e; subst e; injection hM with hM; injection hM with hM; subst hM
    refine ⟨11, rfl, by decide, by have := H.pre; show 345 + (partP h).length ≤ 512; omega, ?_⟩
    show layL (rawW h L N) 345 (partP h) = _
    unfold rawW
    rw [lay_skip _ _ _ _ _ l0 (by decide), lay_skip _ _ _ _ _ l1 (by decide), lay_skip _ _ _ _ _ l2 (by decide), lay_skip _ _ _ _ _ l3 (by decide), lay_skip _ _ _ _ _ l4 (by decide), lay_skip _ _ _ _ _ l5 (by decide), lay_skip _ _ _ _ _ l6 (by decide), lay_skip _ _ _ _ _ l7 (by decide), lay_skip _ _ _ _ _ l8 (by decide), lay_skip _ _ _ _ _ l6 (by decide), lay_skip _ _ _ _ _ l9 (by decide), lay_skip _ _ _ _ _ l10 (by decide), lay_skip _ _ _ _ _ l11 (by decide), lay_skip _ _ _ _ _ l12 (by decide)]
    rw [show pcT (L 11) (partP h) 155 = List.replicate 155 0 by unfold pcT; rw [hl]; rfl, lay_head _ _ _ _ rfl H.pre]
    simp [pcT, hl]
  split at hM
  · rename_i e; subst e; injection hM with hM; injection hM with hM; subst hM
    refine ⟨0, rfl, by decide, by have := H.base; show 0 + (partB h).length ≤ 512; omega, ?_⟩
    show layL (rawW h L N) 0 (partB h) = _
    unfold rawW
    rw [show pcT (L 0) (partB h) 100 = List.replicate 100 0 by unfold pcT; rw [hl]; rfl, lay_head _ _ _ _ rfl H.base]
    simp [pcT, hl]
  · cases hM
theorem rawW_num (x c : Int) (hM : numM h x = some (.int .i64 c)) (hl : N x = true) :
    ∃ r : Nat, x = r ∧ r < 12 ∧ (placesL.getD r (0, 0)).1 + (placesL.getD r (0, 0)).2 ≤ 512 ∧ (((placesL.getD r (0, 0)).2 = 8 ∧ (goodN x c ↔ 0 ≤ c ∧ c < 2097152) ∧ layL (rawW h L N) (placesL.getD r (0, 0)).1 (num8 c) = rawW h L (fun z => N z && !(z == x))) ∨
      ((placesL.getD r (0, 0)).2 = 12 ∧ (goodN x c ↔ 0 ≤ c ∧ c < 8589934592) ∧ layL (rawW h L N) (placesL.getD r (0, 0)).1 (num12 c) = rawW h L (fun z => N z && !(z == x)))) := by
  have l0 := pcT_len (L 0) (partB h) 100 H.base
  have l1 := pcN_len (N 1) (num8 h.mode) 8 (num8_len _)
  have l2 := pcN_len (N 2) (num8 h.uid) 8 (num8_len _)
  have l3 := pcN_len (N 3) (num8 h.gid) 8 (num8_len _)
  have l4 := pcN_len (N 4) (num12 h.size) 12 (num12_len _)
  have l5 := pcN_len (N 5) (num12 h.time) 12 (num12_len _)
  have l6 : (List.replicate 8 (0 : UInt8)).length = 8 := List.length_replicate
  have l7 : (List.replicate 1 (0 : UInt8)).length = 1 := List.length_replicate
  have l8 := pcT_len (L 6) h.link 100 H.link
  have l9 := pcT_len (L 7) h.uname 32 H.uname
  have l10 := pcT_len (L 8) h.gname 32 H.gname
  have l11 := pcN_len (N 9) (num8 h.major) 8 (num8_len _)
  unfold numM at hM
  split at hM
  · rename_i e; subst e; injection hM with hM; injection hM with _ hM; subst hM
    refine ⟨10, rfl, by decide, by decide, .inl ⟨rfl, Iff.rfl, ?_⟩⟩
    show layL (rawW h L N) 337 (num8 h.minor) = _
    unfold rawW
    rw [lay_skip _ _ _ _ _ l0 (by decide), lay_skip _ _ _ _ _ l1 (by decide), lay_skip _ _ _ _ _ l2 (by decide), lay_skip _ _ _ _ _ l3 (by decide), lay_skip _ _ _ _ _ l4 (by decide), lay_skip _ _ _ _ _ l5 (by decide), lay_skip _ _ _ _ _ l6 (by decide), lay_skip _ _ _ _ _ l7 (by decide), lay_skip _ _ _ _ _ l8 (by decide), lay_skip _ _ _ _ _ l6 (by decide), lay_skip _ _ _ _ _ l9 (by decide), lay_skip _ _ _ _ _ l10 (by decide), lay_skip _ _ _ _ _ l11 (by decide)]
    rw [show pcN (N 10) (num8 h.minor) 8 = List.replicate 8 0 by unfold pcN; rw [hl]; rfl, lay_full _ _ _ _ rfl (num8_len _)]
    simp [pcN]
  split at hM
  · rename_i e; subst e; injection hM with hM; injection hM with _ hM; subst hM
    refine ⟨9, rfl, by decide, by decide, .inl ⟨rfl, Iff.rfl, ?_⟩⟩
    show layL (rawW h L N) 329 (num8 h.major) = _
    unfold rawW
    rw [lay_skip _ _ _ _ _ l0 (by decide), lay_skip _ _ _ _ _ l1 (by decide), lay_skip _ _ _ _ _ l2 (by decide), lay_skip _ _ _ _ _ l3 (by decide), lay_skip _ _ _ _ _ l4 (by decide), lay_skip _ _ _ _ _ l5 (by decide), lay_skip _ _ _ _ _ l6 (by decide), lay_skip _ _ _ _ _ l7 (by decide), lay_skip _ _ _ _ _ l8 (by decide), lay_skip _ _ _ _ _ l6 (by decide), lay_skip _ _ _ _ _ l9 (by decide), lay_skip _ _ _ _ _ l10 (by decide)]
    rw [show pcN (N 9) (num8 h.major) 8 = List.replicate 8 0 by unfold pcN; rw [hl]; rfl, lay_full _ _ _ _ rfl (num8_len _)]
    simp [pcN]
  split at hM
  · rename_i e; subst e; injection hM with hM; injection hM with _ hM; subst hM
    refine ⟨5, rfl, by decide, by decide, .inr ⟨rfl, Iff.rfl, ?_⟩⟩
    show layL (rawW h L N) 136 (num12 h.time) = _
    unfold rawW
    rw [lay_skip _ _ _ _ _ l0 (by decide), lay_skip _ _ _ _ _ l1 (by decide), lay_skip _ _ _ _ _ l2 (by decide), lay_skip _ _ _ _ _ l3 (by decide), lay_skip _ _ _ _ _ l4 (by decide)]
    rw [show pcN (N 5) (num12 h.time) 12 = List.replicate 12 0 by unfold pcN; rw [hl]; rfl, lay_full _ _ _ _ rfl (num12_len _)]
    simp [pcN]
  split at hM
  · rename_i e; subst e; injection hM with hM; injection hM with _ hM; subst hM
    refine ⟨4, rfl, by decide, by decide, .inr ⟨rfl, Iff.rfl, ?_⟩⟩
    show layL (rawW h L N) 124 (num12 h.size) = _
    unfold rawW
    rw [lay_skip _ _ _ _ _ l0 (by decide), lay_skip _ _ _ _ _ l1 (by decide), lay_skip _ _ _ _ _ l2 (by decide), lay_skip _ _ _ _ _ l3 (by decide)]
    rw [show pcN (N 4) (num12 h.size) 12 = List.replicate 12 0 by unfold pcN; rw [hl]; rfl, lay_full _ _ _ _ rfl (num12_len _)]
    simp [pcN]
  split at hM
  · rename_i e; subst e; injection hM with hM; injection hM with _ hM; subst hM
    refine ⟨3, rfl, by decide, by decide, .inl ⟨rfl, Iff.rfl, ?_⟩⟩
    show layL (rawW h L N) 116 (num8 h.gid) = _
    unfold rawW
    rw [lay_skip _ _ _ _ _ l0 (by decide), lay_skip _ _ _ _ _ l1 (by decide), lay_skip _ _ _ _ _ l2 (by decide)]
    rw [show pcN (N 3) (num8 h.gid) 8 = List.replicate 8 0 by unfold pcN; rw [hl]; rfl, lay_full _ _ _ _ rfl (num8_len _)]
    simp [pcN]
  split at hM
  · rename_i e; subst e; injection hM with hM; injection hM with _ hM; subst hM
    refine ⟨2, rfl, by decide, by decide, .inl ⟨rfl, Iff.rfl, ?_⟩⟩
    show layL (rawW h L N) 108 (num8 h.uid) = _
    unfold rawW
    rw [lay_skip _ _ _ _ _ l0 (by decide), lay_skip _ _ _ _ _ l1 (by decide)]
    rw [show pcN (N 2) (num8 h.uid) 8 = List.replicate 8 0 by unfold pcN; rw [hl]; rfl, lay_full _ _ _ _ rfl (num8_len _)]
    simp [pcN]
  split at hM
  · rename_i e; subst e; injection hM with hM; injection hM with _ hM; subst hM
    refine ⟨1, rfl, by decide, by decide, .inl ⟨rfl, Iff.rfl, ?_⟩⟩
    show layL (rawW h L N) 100 (num8 h.mode) = _
    unfold rawW
    rw [lay_skip _ _ _ _ _ l0 (by decide)]
    rw [show pcN (N 1) (num8 h.mode) 8 = List.replicate 8 0 by unfold pcN; rw [hl]; rfl, lay_full _ _ _ _ rfl (num8_len _)]
    simp [pcN]
  · cases hM
theorem rawW_end (hL : ∀ x, L x = false) (hN : ∀ x, N x = false) :
    layL ((rawW h L N).set 156 (kindN h.kind)) 257 [117, 115, 116, 97, 114, 0, 48, 48] = rawN h (List.replicate 8 0) := by
  have l0 := pad_len (partB h) 100 H.base
  have l1 := num8_len h.mode
  have l2 := num8_len h.uid
  have l3 := num8_len h.gid
  have l4 := num12_len h.size
  have l5 := num12_len h.time
  have l6 : (List.replicate 8 (0 : UInt8)).length = 8 := List.length_replicate
  have l7 : ([kindN h.kind]).length = 1 := rfl
  have l8 := pad_len h.link 100 H.link
  have e1 : (rawW h L N).set 156 (kindN h.kind) = padL (partB h) 100 ++ (num8 h.mode ++ (num8 h.uid ++ (num8 h.gid ++ (num12 h.size ++ (num12 h.time ++ (List.replicate 8 0 ++ ([kindN h.kind] ++ (padL h.link 100 ++
      (List.replicate 8 0 ++ (padL h.uname 32 ++ (padL h.gname 32 ++ (num8 h.major ++ (num8 h.minor ++ (padL (partP h) 155 ++ List.replicate 12 0)))))))))))))) := by
    unfold rawW pcT pcN
    rw [hL, hL, hL, hL, hL, hN, hN, hN, hN, hN, hN, hN]
    simp only [Bool.false_eq_true, if_false]
    rw [List.set_append_right _ _ (by omega), l0, List.set_append_right _ _ (by omega), l1, List.set_append_right _ _ (by omega), l2, List.set_append_right _ _ (by omega), l3, List.set_append_right _ _ (by omega), l4, List.set_append_right _ _ (by omega), l5, List.set_append_right _ _ (by omega), l6]
    rfl
  rw [e1]
  unfold rawN
  rw [lay_skip _ _ _ _ _ l0 (by decide), lay_skip _ _ _ _ _ l1 (by decide), lay_skip _ _ _ _ _ l2 (by decide), lay_skip _ _ _ _ _ l3 (by decide), lay_skip _ _ _ _ _ l4 (by decide), lay_skip _ _ _ _ _ l5 (by decide), lay_skip _ _ _ _ _ l6 (by decide), lay_skip _ _ _ _ _ l7 (by decide), lay_skip _ _ _ _ _ l8 (by decide), lay_full 8 _ [117, 115, 116, 97, 114, 0, 48, 48] _ rfl rfl]
end
/-- the sum's own bytes don't count -/
theorem seal_any (h : HeadL) (H : LensH h) (a b : List UInt8) (ha : a.length = 8) (hb : b.length = 8) : sealL (rawN h a) = sealL (rawN h b) := by
  have key : ∀ c : List UInt8, c.length = 8 → ∃ F T : List UInt8, F.length = 148 ∧ T.length = 356 ∧ ∀ c, rawN h c = F ++ (c ++ T) := by
    intro c _
    refine ⟨padL (partB h) 100 ++ (num8 h.mode ++ (num8 h.uid ++ (num8 h.gid ++ (num12 h.size ++ num12 h.time)))), _, ?_, ?_, fun c => by unfold rawN; simp only [List.append_assoc]; rfl⟩
    · simp only [List.length_append, pad_len _ _ H.base, num8_len, num12_len]
    · simp only [List.length_append, List.length_replicate, pad_len _ _ H.pre, pad_len _ _ H.link, pad_len _ _ H.uname, pad_len _ _ H.gname, num8_len, List.length_cons, List.length_nil]
  obtain ⟨F, T, hF, hT, hraw⟩ := key a ha
  have hsum : ∀ c d : List UInt8, c.length = 8 → d.length = 8 → sumU (F ++ (c ++ T)) 512 = sumU (F ++ (d ++ T)) 512 := by
    intro c d hc hd
    refine sumU_congr _ _ _ fun i hi => ?_
    by_cases h1 : i < 148
    · right
      rw [getD_app_l _ _ _ (by omega), getD_app_l _ _ _ (by omega)]
    · by_cases h2 : i < 156
      · left; omega
      · right
        rw [getD_app_r _ _ _ (by omega), getD_app_r _ _ _ (by omega), getD_app_r _ _ _ (by omega), getD_app_r _ _ _ (by omega), hc, hd]
  have hd : ∀ c : List UInt8, c.length = 8 → (F ++ (c ++ T)).drop 156 = T := by
    intro c hc
    rw [← List.append_assoc, List.drop_left' (by rw [List.length_append]; omega)]
  unfold sealL
  rw [hraw a, hraw b, List.take_left' hF, List.take_left' hF, hd a ha, hd b hb, hsum a b ha hb]
end Go.Proofs.YtjldphpdfckjnaaDoor
