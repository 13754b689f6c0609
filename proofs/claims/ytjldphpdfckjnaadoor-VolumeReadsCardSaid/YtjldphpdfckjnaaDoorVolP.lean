/- Volumes: the plain law of reading, parting and joining them. -/
import Derived.Test.YtjldphpdfckjnaaDoorHdQ
import Derived.Test.YtjldphpdfckjnaaDoorVolA
namespace Go.Proofs.YtjldphpdfckjnaaDoor
open Go.RowKit

def sumB : List UInt8 → Nat
  | [] => 0
  | b :: l => b.toNat + sumB l
theorem sumB_app : ∀ a b : List UInt8, sumB (a ++ b) = sumB a + sumB b
  | [], b => by simp [sumB]
  | x :: a, b => by rw [List.cons_append, sumB, sumB, sumB_app a b]; omega
theorem sumB_le : ∀ l : List UInt8, sumB l ≤ 255 * l.length
  | [] => by simp [sumB]
  | x :: l => by
    have := sumB_le l
    have := x.toNat_lt
    rw [sumB, List.length_cons]; omega
theorem sumB_take (l : List UInt8) (k : Nat) (h : k < l.length) : sumB (l.take (k + 1)) = sumB (l.take k) + l[k].toNat := by
  rw [List.take_succ_eq_append_getElem h, sumB_app]
  simp [sumB]

def volN : List UInt8 := [118, 111, 108, 117, 109, 101]
/-- the head of a volume -/
def volH (s : List UInt8) (num cnt : Int) : HeadL := ⟨volN, [], 86, 0, num, cnt, s.length, sumB s, [], [], 0, 0, 0⟩
def oneV (s : List UInt8) (num cnt : Int) : List UInt8 := buildN (volH s num cnt) ++ padB s
theorem fits_vol (s : List UInt8) (num cnt : Int) (n0 : 0 ≤ num) (n1 : num < 2097152) (c0 : 0 ≤ cnt) (c1 : cnt < 2097152) (hs : s.length ≤ 1000000) : fitsN (volH s num cnt) = 0 := by
  have hp : partO (volH s num cnt) = true := by unfold partO partF; rw [if_pos (by show (S volN).size ≤ 100; decide)]
  have h1 := sumB_le s
  refine (fits_iff _).2 ⟨⟨rfl, rfl, rfl, rfl⟩, ⟨hp, by show 0 ≤ 100; decide, by show 0 ≤ 32; decide, by show 0 ≤ 32; decide⟩, by show (0 : Int) ≤ 0 ∧ (0 : Int) < 2097152; decide, ⟨n0, n1⟩, ⟨c0, c1⟩, by show (0 : Int) ≤ 0 ∧ (0 : Int) < 2097152; decide, by show (0 : Int) ≤ 0 ∧ (0 : Int) < 2097152; decide, ⟨?_, ?_⟩, ?_, ?_⟩
  · show 0 ≤ (s.length : Int); omega
  · show (s.length : Int) < 8589934592; omega
  · show 0 ≤ (sumB s : Int); omega
  · show (sumB s : Int) < 8589934592; omega

/-- what a volume tells of itself -/
structure LabL where
  num : Int
  cnt : Int
  size : Int
  sum : Int
def LabV (x : LabL) : Value := .agg #[.int .i64 x.num, .int .i64 x.cnt, .int .i64 x.size, .int .i64 x.sum]
def noneL : LabL := ⟨0, 0, 0, 0⟩
def readV (v : List UInt8) : LabL × List UInt8 × Nat :=
  if v.length < 512 then (noneL, [], 3)
  else if (parseN (v.take 512)).2 ≠ 0 then (noneL, [], (parseN (v.take 512)).2)
  else if (parseN (v.take 512)).1.kind ≠ 86 ∨ (parseN (v.take 512)).1.name ≠ volN then (noneL, [], 5)
  else if (parseN (v.take 512)).1.gid = 0 ∨ (parseN (v.take 512)).1.gid ≤ (parseN (v.take 512)).1.uid then (noneL, [], 6)
  else if (unpF (v.drop 512) (parseN (v.take 512)).1.size).2 ≠ 0 then (noneL, [], (unpF (v.drop 512) (parseN (v.take 512)).1.size).2)
  else if (sumB (unpF (v.drop 512) (parseN (v.take 512)).1.size).1 : Int) ≠ (parseN (v.take 512)).1.time then (noneL, [], 4)
  else (⟨(parseN (v.take 512)).1.uid, (parseN (v.take 512)).1.gid, (parseN (v.take 512)).1.size, (parseN (v.take 512)).1.time⟩, (unpF (v.drop 512) (parseN (v.take 512)).1.size).1, 0)

theorem err_cons {s : List UInt8} {x : Nat × Nat × Bool} {l : List (Nat × Nat × Bool)} (h : errN s (x :: l) = 0) : (numN s x.1 x.2.1 x.2.2).2 = 0 ∧ errN s l = 0 := by
  rw [errN] at h
  split at h
  · exact ⟨‹_›, h⟩
  · exact absurd h ‹_›
theorem num_pos (s : List UInt8) (a n : Nat) (h : (numN s a n false).2 = 0) : 0 ≤ (numN s a n false).1 := by
  unfold numN at *
  split at h
  · exact absurd h (by decide)
  · rename_i h2
    rw [if_neg h2]
    by_cases g : (readO (fldL s a n)).1 < 0
    · exact absurd ⟨h, g, rfl⟩ h2
    · omega
theorem parse_uid (s : List UInt8) (h : (parseN s).2 = 0) : 0 ≤ (parseN s).1.uid := by
  unfold parseN at *
  split at h
  · cases h
  · rename_i h1
    rw [if_neg h1]
    split at h
    · cases h
    · rename_i h2
      rw [if_neg h2]
      split at h
      · cases h
      · rename_i h3
        rw [if_neg h3]
        split at h
        · rename_i h4
          rw [if_pos h4]
          have h5 : (numN s 108 8 false).2 = 0 := by
            unfold rowsN rows5 at h4
            split at h4
            · exact (err_cons (err_cons h4).2).1
            · exact (err_cons (err_cons h4).2).1
          exact num_pos s 108 8 h5
        · rename_i h4
          exact absurd h h4
theorem unp_len (l : List UInt8) (n : Int) : (unpF l n).1.length ≤ l.length := by
  unfold unpF
  split
  · simp
  · split
    · simp
    · split
      · simp
      · split
        · simp only [List.length_take]; omega
        · simp
theorem unp_err (l : List UInt8) (n : Int) : (unpF l n).2 ≤ 6 := by
  unfold unpF
  repeat' split
  all_goals (simp only []; omega)
theorem unp_back (s : List UInt8) (h : s.length ≤ 1000000) : unpF (padB s) s.length = (s, 0) := by
  have hb := restI_bd s.length
  have hp := padK_int s.length
  have hlen : (padB s).length = s.length + padK s.length := by unfold padB zerosL; rw [List.length_append, List.length_replicate]
  have hA : allI s.length = ((padB s).length : Int) := by unfold allI; rw [hlen, hp]; omega
  have hd : (padB s).drop s.length = zerosL (padK s.length) := by unfold padB; rw [List.drop_append_of_le_length (Nat.le_refl _), List.drop_length, List.nil_append]
  have ht : (padB s).take s.length = s := by unfold padB; rw [List.take_append_of_le_length (Nat.le_refl _), List.take_length]
  unfold unpF
  rw [if_neg (by omega), hA, if_neg (by omega), if_neg (by omega), Int.toNat_natCast, hd, ht]
  have : blankB (zerosL (padK s.length)) = true := by
    unfold blankB zerosL
    rw [List.all_eq_true]
    intro x hx
    rw [List.eq_of_mem_replicate hx]
    rfl
  rw [if_pos this]
theorem read_num (v : List UInt8) (h : (readV v).2.2 = 0) : 0 ≤ (readV v).1.num ∧ (readV v).1.num < (readV v).1.cnt ∧ (readV v).2.1.length ≤ v.length := by
  have hu := parse_uid (v.take 512)
  have hl := unp_len (v.drop 512) (parseN (v.take 512)).1.size
  rw [List.length_drop] at hl
  unfold readV at *
  split at h
  · cases h
  · rename_i h1
    rw [if_neg h1]
    split at h
    · rename_i h2; exact absurd h h2
    · rename_i h2
      rw [if_neg h2]
      split at h
      · cases h
      · rename_i h3
        rw [if_neg h3]
        split at h
        · cases h
        · rename_i h4
          rw [if_neg h4]
          split at h
          · rename_i h5; exact absurd h h5
          · rename_i h5
            rw [if_neg h5]
            split at h
            · cases h
            · rename_i h6
              rw [if_neg h6]
              refine ⟨hu (Decidable.not_not.1 h2), ?_, ?_⟩
              · show (parseN (v.take 512)).1.uid < (parseN (v.take 512)).1.gid
                omega
              · show (unpF (v.drop 512) (parseN (v.take 512)).1.size).1.length ≤ v.length
                omega
theorem one_take (s : List UInt8) (num cnt : Int) (hf : fitsN (volH s num cnt) = 0) : (oneV s num cnt).take 512 = buildN (volH s num cnt) ∧ (oneV s num cnt).drop 512 = padB s ∧ 512 ≤ (oneV s num cnt).length := by
  have hl := (build_fields _ hf).len
  unfold oneV
  refine ⟨?_, ?_, ?_⟩
  · rw [← hl, List.take_left]
  · rw [← hl, List.drop_left]
  · rw [List.length_append]; omega
theorem read_one (s : List UInt8) (num cnt : Int) (n0 : 0 ≤ num) (n1 : num < cnt) (c1 : cnt < 2097152) (hs : s.length ≤ 1000000) : readV (oneV s num cnt) = (⟨num, cnt, s.length, sumB s⟩, s, 0) := by
  have hf := fits_vol s num cnt n0 (by omega) (by omega) c1 hs
  obtain ⟨h1, h2, h3⟩ := one_take s num cnt hf
  have hP := parse_build _ hf
  have hU := unp_back s hs
  unfold readV
  rw [if_neg (by omega), h1, h2, hP]
  have e : (turnH (volH s num cnt)).size = s.length := rfl
  rw [if_neg (by simp), if_neg (by
      intro g
      rcases g with g | g
      · exact g (by show kindN 86 = 86; decide)
      · exact g rfl), if_neg (by show ¬ (cnt = 0 ∨ cnt ≤ num); omega)]
  show (if (unpF (padB s) (turnH (volH s num cnt)).size).2 ≠ 0 then _ else _) = _
  rw [e, hU, if_neg (by simp), if_neg (by
    intro g
    exact g rfl)]
  rfl

def getP (acc : List (Nat × List UInt8)) (n : Nat) : List UInt8 := ((acc.filter fun x => x.1 == n).map (·.2)).flatten
def gath (acc : List (Nat × List UInt8)) (n : Nat) : List UInt8 := ((List.range n).map (getP acc)).flatten
def hasP (acc : List (Nat × List UInt8)) (n : Nat) : Bool := acc.any fun x => x.1 == n
def joinV (len : Nat) : List (List UInt8) → Nat → List (Nat × List UInt8) → List UInt8 × Nat × Nat
  | [], _, acc => (gath acc len, 0, 0)
  | v :: vs, i, acc =>
    if (readV v).2.2 ≠ 0 then ([], i, (readV v).2.2)
    else if (readV v).1.cnt ≠ len then ([], i, 2)
    else if hasP acc (readV v).1.num.toNat = true then ([], i, 13)
    else joinV len vs (i + 1) (acc ++ [((readV v).1.num.toNat, (readV v).2.1)])
def joinR (l : List (List UInt8)) : List UInt8 × Nat × Nat := if l = [] then ([], 0, 9) else joinV l.length l 0 []

theorem getP_app (a b : List (Nat × List UInt8)) (n : Nat) : getP (a ++ b) n = getP a n ++ getP b n := by
  unfold getP
  rw [List.filter_append, List.map_append, List.flatten_append]
theorem getP_one (m : Nat) (s : List UInt8) (n : Nat) : getP [(m, s)] n = if m = n then s else [] := by
  unfold getP
  by_cases h : m = n
  · rw [if_pos h]; simp [h]
  · rw [if_neg h]; simp [h]
theorem getP_none (acc : List (Nat × List UInt8)) (n : Nat) (h : hasP acc n = false) : getP acc n = [] := by
  unfold getP
  have : acc.filter (fun x => x.1 == n) = [] := by
    rw [List.filter_eq_nil_iff]
    intro x hx
    unfold hasP at h
    rw [List.any_eq_false] at h
    exact h x hx
  rw [this]; rfl
theorem hasP_app (a : List (Nat × List UInt8)) (m : Nat) (s : List UInt8) (n : Nat) : hasP (a ++ [(m, s)]) n = (hasP a n || m == n) := by
  unfold hasP
  rw [List.any_append]
  simp
theorem getP_take (acc : List (Nat × List UInt8)) (k n : Nat) (h : k < acc.length) : getP (acc.take (k + 1)) n = getP (acc.take k) n ++ if acc[k].1 = n then acc[k].2 else [] := by
  rw [List.take_succ_eq_append_getElem h, getP_app]
  congr 1
  exact getP_one _ _ _
theorem gath_succ (acc : List (Nat × List UInt8)) (n : Nat) : gath acc (n + 1) = gath acc n ++ getP acc n := by
  unfold gath
  rw [List.range_succ, List.map_append, List.flatten_append]
  simp

/-- a text in parts -/
def chunkV (size : Nat) (s : List UInt8) (i : Nat) : List UInt8 := (s.drop (i * size)).take size
def cntV (size : Nat) (s : List UInt8) : Nat := max ((s.length + size - 1) / size) 1
def volsV (size : Nat) (s : List UInt8) : List (List UInt8) := (List.range (cntV size s)).map fun i => oneV (chunkV size s i) i (cntV size s : Nat)
theorem chunk_flat (size : Nat) (s : List UInt8) : ∀ k, ((List.range k).map (chunkV size s)).flatten = s.take (k * size)
  | 0 => by simp
  | k + 1 => by
    rw [List.range_succ, List.map_append, List.flatten_append, chunk_flat size s k]
    simp only [List.map_cons, List.map_nil, List.flatten_cons, List.flatten_nil, List.append_nil]
    rw [show (k + 1) * size = k * size + size by rw [Nat.add_mul, Nat.one_mul], List.take_add]
    rfl
theorem cnt_le (size : Nat) (s : List UInt8) (h : 0 < size) : s.length ≤ cntV size s * size := by
  unfold cntV
  have h1 : s.length ≤ (s.length + size - 1) / size * size := by
    have := Nat.div_add_mod (s.length + size - 1) size
    have h2 := Nat.mod_lt (s.length + size - 1) h
    rw [Nat.mul_comm] at this
    omega
  exact Nat.le_trans h1 (Nat.mul_le_mul_right _ (Nat.le_max_left _ _))
theorem cnt_is (size : Nat) (s : List UInt8) (k : Nat) (h : 0 < size) (h1 : s.length ≤ (k + 1) * size) (h2 : k = 0 ∨ k * size < s.length) : cntV size s = k + 1 := by
  unfold cntV
  have e1 : (s.length + size - 1) / size ≤ k + 1 := by
    refine Nat.le_of_lt_succ ?_
    rw [Nat.div_lt_iff_lt_mul h]
    rw [Nat.succ_mul]
    omega
  rcases h2 with rfl | h2
  · omega
  · have e2 : k + 1 ≤ (s.length + size - 1) / size := by
      rw [Nat.le_div_iff_mul_le h, Nat.add_mul]
      omega
    omega
theorem chunk_len (size : Nat) (s : List UInt8) (i : Nat) : (chunkV size s i).length ≤ s.length := by
  unfold chunkV
  rw [List.length_take, List.length_drop]; omega

theorem count_range (n : Nat) : ∀ k, (List.range k).count n = if n < k then 1 else 0
  | 0 => by simp
  | k + 1 => by
    rw [List.range_succ, List.count_append, count_range n k, List.count_singleton]
    by_cases h : k = n
    · subst h; simp
    · have : (k == n) = false := beq_eq_false_iff_ne.2 h
      rw [this]
      by_cases h2 : n < k
      · rw [if_pos h2, if_pos (show n < k + 1 by omega)]; rfl
      · rw [if_neg h2, if_neg (show ¬ n < k + 1 by omega)]; rfl
theorem getP_map (c : Nat → List UInt8) (idx : List Nat) (n : Nat) (h : idx.count n = 1) : getP (idx.map fun i => (i, c i)) n = c n := by
  unfold getP
  rw [List.filter_map, List.map_map]
  have e : idx.filter ((fun x : Nat × List UInt8 => x.1 == n) ∘ fun i => (i, c i)) = [n] := by
    have : idx.filter ((fun x : Nat × List UInt8 => x.1 == n) ∘ fun i => (i, c i)) = idx.filter (· == n) := rfl
    rw [this, List.filter_beq, h]
    rfl
  rw [e]
  simp
theorem hasP_map (c : Nat → List UInt8) (idx : List Nat) (n : Nat) (h : n ∉ idx) : hasP (idx.map fun i => (i, c i)) n = false := by
  unfold hasP
  rw [List.any_eq_false]
  intro x hx
  obtain ⟨i, hi, rfl⟩ := List.mem_map.1 hx
  simp only [beq_iff_eq]
  exact fun e => h (e ▸ hi)
/-- volumes of parts, each number once, are joined -/
theorem join_all (c : Nat → List UInt8) (len : Nat) (hc : ∀ i, (c i).length ≤ 1000000) (hl : len < 2097152) : ∀ (idx done : List Nat) (i : Nat), (done ++ idx).Nodup → (∀ x ∈ idx, x < len) →
    joinV len (idx.map fun i => oneV (c i) i len) i (done.map fun i => (i, c i)) = (gath ((done ++ idx).map fun i => (i, c i)) len, 0, 0)
  | [], done, i, _, _ => by simp [joinV]
  | x :: idx, done, i, hn, hlt => by
    have hx := hlt x (by simp)
    have hr := read_one (c x) x len (by omega) (by omega) (by omega) (hc x)
    have hnx : x ∉ done := by
      intro g
      have := List.nodup_append.1 hn
      exact this.2.2 x g x (by simp) rfl
    rw [List.map_cons, joinV, hr]
    have e : ((x : Int)).toNat = x := Int.toNat_natCast x
    rw [if_neg (by simp), if_neg (by simp), e, hasP_map c done x hnx, if_neg (by simp)]
    have := join_all c len hc hl idx (done ++ [x]) (i + 1) (by rw [List.append_assoc]; exact hn) (fun y hy => hlt y (by simp [hy]))
    rw [List.map_append] at this
    rw [show (done ++ x :: idx) = done ++ [x] ++ idx by simp]
    exact this
theorem join_vols (size : Nat) (s : List UInt8) (k : Nat) (h : 0 < size) (hs : s.length ≤ 1000000) (hc : cntV size s < 2097152) (_hk : k ≤ cntV size s) : joinR ((volsV size s).drop k ++ (volsV size s).take k) = (s, 0, 0) := by
  have hpos : 0 < cntV size s := by unfold cntV; omega
  have hle := cnt_le size s h
  generalize hn : cntV size s = n at *
  have hp : (volsV size s).drop k ++ (volsV size s).take k = ((List.range n).drop k ++ (List.range n).take k).map fun i => oneV (chunkV size s i) i n := by
    unfold volsV
    rw [hn, List.map_append, List.map_drop, List.map_take]
  have hperm : ((List.range n).drop k ++ (List.range n).take k).Perm (List.range n) := by
    have h1 := List.perm_append_comm (l₁ := (List.range n).drop k) (l₂ := (List.range n).take k)
    rw [List.take_append_drop] at h1
    exact h1
  have hlen := hperm.length_eq
  rw [List.length_range] at hlen
  rw [hp]
  generalize hidx : (List.range n).drop k ++ (List.range n).take k = idx at *
  unfold joinR
  rw [if_neg (by intro g; rw [List.map_eq_nil_iff] at g; rw [g] at hlen; simp at hlen; omega), List.length_map, hlen]
  have hJ := join_all (chunkV size s) n (fun i => by have := chunk_len size s i; omega) hc idx [] 0 (by rw [List.nil_append]; exact hperm.nodup_iff.2 List.nodup_range) (fun x hx => List.mem_range.1 (hperm.mem_iff.1 hx))
  rw [List.map_nil, List.nil_append] at hJ
  rw [hJ]
  have hg : gath (idx.map fun i => (i, chunkV size s i)) n = s := by
    unfold gath
    have : (List.range n).map (getP (idx.map fun i => (i, chunkV size s i))) = (List.range n).map (chunkV size s) := by
      refine List.map_congr_left fun i hi => ?_
      have hi := List.mem_range.1 hi
      refine getP_map _ _ _ ?_
      rw [hperm.count_eq, count_range, if_pos hi]
    rw [this, chunk_flat, List.take_of_length_le hle]
  rw [hg]
end Go.Proofs.YtjldphpdfckjnaaDoor
