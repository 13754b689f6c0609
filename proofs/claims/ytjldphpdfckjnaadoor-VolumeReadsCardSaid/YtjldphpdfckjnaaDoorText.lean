import Derived.Test.YtjldphpdfckjnaaDoorKit
import Derived.Test.YtjldphpdfckjnaaDoorShelf
import Derived.Lib.LastIndexByte
namespace Go.Proofs.YtjldphpdfckjnaaDoor
open Go.RowKit

/-- a slash that parts a name in two fields stands at i -/
def goodB (s : ByteArray) (i : Nat) : Bool := decide (((s.data[i]!).toNat : Int) = 47 ∧ 1 ≤ i ∧ i ≤ 155 ∧ i + 2 ≤ s.size ∧ s.size ≤ i + 101)
def lastGood (s : ByteArray) : Nat → Int
  | 0 => -1
  | k + 1 => if goodB s k = true then (k : Int) else lastGood s k
theorem lastGood_eq (s : ByteArray) (i : Nat) (hi : goodB s i = true) : ∀ k, i < k → (∀ j, i < j → j < k → goodB s j = false) → lastGood s k = i
  | 0, h, _ => absurd h (Nat.not_lt_zero _)
  | k + 1, h, hn => by
    unfold lastGood
    by_cases e : k = i
    · subst e; rw [if_pos hi]
    · rw [if_neg (by rw [hn k (by omega) (by omega)]; decide)]
      exact lastGood_eq s i hi k (by omega) fun j h1 h2 => hn j h1 (by omega)
theorem lastGood_none (s : ByteArray) : ∀ k, (∀ j, j < k → goodB s j = false) → lastGood s k = -1
  | 0, _ => rfl
  | k + 1, hn => by
    unfold lastGood
    rw [if_neg (by rw [hn k (by omega)]; decide)]
    exact lastGood_none s k fun j h => hn j (by omega)
theorem lastGood_lt (s : ByteArray) : ∀ k, lastGood s k = -1 ∨ ∃ i : Nat, i < k ∧ lastGood s k = i ∧ goodB s i = true
  | 0 => .inl rfl
  | k + 1 => by
    unfold lastGood
    by_cases h : goodB s k = true
    · rw [if_pos h]; exact .inr ⟨k, by omega, rfl, h⟩
    · rw [if_neg h]
      rcases lastGood_lt s k with h | ⟨i, h1, h2, h3⟩
      · exact .inl h
      · exact .inr ⟨i, by omega, h2, h3⟩
theorem good_iff (s : ByteArray) (i : Nat) : goodB s i = true ↔ (((s.data[i]!).toNat : Int) = 47 ∧ 1 ≤ i ∧ i ≤ 155 ∧ i + 2 ≤ s.size ∧ s.size ≤ i + 101) := by unfold goodB; exact decide_eq_true_iff
theorem good_not (s : ByteArray) (i : Nat) : goodB s i = false ↔ ¬(((s.data[i]!).toNat : Int) = 47 ∧ 1 ≤ i ∧ i ≤ 155 ∧ i + 2 ≤ s.size ∧ s.size ≤ i + 101) := by unfold goodB; exact decide_eq_false_iff_not

/-- the two fields of a name, and are there any -/
def partF (s : ByteArray) : ByteArray × ByteArray × Bool :=
  if s.size ≤ 100 then (S [], s, true)
  else if lastGood s s.size < 0 then (S [], S [], false)
  else (s.extract 0 (lastGood s s.size).toNat, s.extract ((lastGood s s.size).toNat + 1) s.size, true)
def partV (p : ByteArray × ByteArray × Bool) : Value := .tuple #[.string p.1, .string p.2.1, .bool p.2.2]
theorem getx (s : ByteArray) (k : Nat) (h : k < s.size) : s.data[k]! = s[k]'h := by rw [getElem!_pos s.data k h]; rfl

set_option maxRecDepth 100000 in
set_option maxHeartbeats 1000000 in
theorem rpart_any (s : ByteArray) (w : World) (hs : s.size ≤ 1000000) :
    Calls Tryd.prog 51 #[.string s] w fun e w' => e = .returned (partV (partF s)) ∧ Below w.heap.size w w' := by
  by_cases h100 : s.size ≤ 100
  · have H := Lib.hid h100
    have hI : (s.size : Int) ≤ 100 := by omega
    clear h100
    go_enter Tryd.func51, Tryd.ntmps51
    go_wp2
    go_ret3
    refine ⟨?_, Below.refl _ _⟩
    rw [partF, if_pos H.out]; rfl
  have hI : ¬ (s.size : Int) ≤ 100 := by omega
  have H := Lib.hid h100
  clear h100
  go_enter Tryd.func51, Tryd.ntmps51
  go_wp2
  go_loopw [5, 6] (fun v i wr => ∃ k : Nat, 1 ≤ k ∧ k ≤ s.size ∧ i = .int .i64 k ∧ v = .int .i64 (lastGood s k) ∧ w = wr) (fun _ i _ => s.size - (intOf i).toNat)
  case atStart => exact ⟨1, by omega, by omega, rfl, by rw [lastGood, if_neg (by rw [(good_not s 0).2 (by omega)]; decide)]; rfl, rfl⟩
  case round =>
    obtain ⟨k, hk1, hk, rfl, rfl, rfl⟩ := hrel
    by_cases hlt : k < s.size
    · have hx := getx s k hlt
      have hl := lastGood_lt s k
      go_wp2
      all_goals (refine ⟨⟨k + 1, by omega, by omega, by push_cast; rfl, ?_, trivial⟩, by simp only [intOf]; omega⟩; rw [lastGood]; first | (rw [if_pos ((good_iff s k).2 (by rw [hx]; omega))]; done) | (rw [if_neg (by rw [(good_not s k).2 (by rw [hx]; omega)]; decide)]))
    · have hks : k = s.size := by omega
      subst hks
      rcases lastGood_lt s s.size with hg | ⟨i, hi, hg, hgi⟩
      · rw [hg]
        have P1 := Lib.hid hg
        clear hg
        go_wp2
        go_ret3
        refine ⟨?_, Below.refl _ _⟩
        rw [partF, if_neg H.out, if_pos (by rw [P1.out]; decide)]; rfl
      · rw [hg]
        have P1 := Lib.hid hg
        clear hg hgi
        have e1 := S_extract
        go_wp2
        go_quiet (fail)
        go_wp2
        go_ret3
        refine ⟨?_, belowDrewN (Below.refl _ _)⟩
        rw [partF, if_neg H.out, if_neg (by rw [P1.out]; omega), P1.out]; rfl

theorem ext0 (s : ByteArray) (n j : Nat) (hj : j < n) (hn : n ≤ s.size) : (s.extract 0 n).data[j]! = s.data[j]! := by
  have h1 : j < (s.extract 0 n).size := by rw [ByteArray.size_extract]; omega
  rw [getx _ _ h1, getx s j (by omega)]
  simp [ByteArray.getElem_extract]

/-- the last slash among the first n bytes -/
theorem last_spec (s : ByteArray) (n : Nat) (hn : n ≤ s.size) :
    (Lib.lastIndexByte (s.extract 0 n) 47 = -1 ∧ ∀ j, j < n → ((s.data[j]!).toNat : Int) ≠ 47) ∨
    (∃ i : Nat, i < n ∧ Lib.lastIndexByte (s.extract 0 n) 47 = i ∧ ((s.data[i]!).toNat : Int) = 47 ∧ ∀ j, i < j → j < n → ((s.data[j]!).toNat : Int) ≠ 47) := by
  have hsz : (s.extract 0 n).size = n := by rw [ByteArray.size_extract]; omega
  rcases Lib.lastIndexByte_spec (s.extract 0 n) 47 with ⟨h1, h2⟩ | ⟨i, h0, h1, h2, h3⟩
  · exact .inl ⟨h1, fun j hj => by have := h2 j (by omega); rwa [ext0 s n j hj hn] at this⟩
  · rw [hsz] at h0 h3
    rw [ext0 s n i h0 hn] at h2
    exact .inr ⟨i, h0, h1, h2, fun j h4 h5 => by have := h3 j h4 h5; rwa [ext0 s n j h5 hn] at this⟩

/-- what the program knows of its place: a slash among the first 156 bytes, or none, and none behind it but the end's -/
def At (s : ByteArray) (v : Value) : Prop :=
  (v = .int .i64 (-1) ∧ ∀ j, j ≤ 155 → j + 1 < s.size → ((s.data[j]!).toNat : Int) ≠ 47) ∨
  (∃ i : Nat, i < s.size ∧ i ≤ 155 ∧ v = .int .i64 i ∧ ((s.data[i]!).toNat : Int) = 47 ∧ ∀ j, i < j → j ≤ 155 → j + 1 < s.size → ((s.data[j]!).toNat : Int) ≠ 47)

set_option maxRecDepth 100000 in
set_option maxHeartbeats 1000000 in
theorem part_any (s : ByteArray) (w : World) (hs : s.size ≤ 1000000) :
    Calls Tryd.prog 130 #[.string s] w fun e w' => e = .returned (partV (partF s)) ∧ Below w.heap.size w w' := by
  by_cases h100 : s.size ≤ 100
  · have H := Lib.hid h100
    have hI : (s.size : Int) ≤ 100 := by omega
    clear h100
    go_enter Tryd.func130, Tryd.ntmps130
    go_wp2
    go_ret3
    refine ⟨?_, Below.refl _ _⟩
    rw [partF, if_pos H.out]; rfl
  have hI : ¬ (s.size : Int) ≤ 100 := by omega
  have H := Lib.hid h100
  obtain ⟨n, hn⟩ : ∃ n : Nat, min (s.size : Int) 156 = n ∧ n ≤ s.size ∧ n ≤ 156 ∧ (n = 156 ∨ n = s.size) := ⟨min s.size 156, by omega, by omega, by omega, by omega⟩
  obtain ⟨hn1, hn2, hn3, hn4⟩ := hn
  clear h100
  go_enter Tryd.func130, Tryd.ntmps130
  go_wp2_with fail
  refine (Go.Proofs.Tryd.strings_LastIndexByte _ _ (by rw [ByteArray.size_extract]; omega) _).mono ?_
  rintro e w1 ⟨rfl, rfl⟩
  have hA : At s (.int .i64 (Lib.lastIndexByte (s.extract 0 n) 47)) := by
    rcases last_spec s n hn2 with ⟨h1, h2⟩ | ⟨i, h0, h1, h2, h3⟩
    · exact .inl ⟨by rw [h1], fun j h4 h5 => h2 j (by omega)⟩
    · exact .inr ⟨i, by omega, by omega, by rw [h1], h2, fun j h4 h5 h6 => h3 j h4 (by omega)⟩
  go_wp2
  go_loopw [5] (fun v wr => At s v ∧ w1 = wr) (fun v _ => (intOf v + 1).toNat)
  case atStart => exact ⟨hA, rfl⟩
  case round =>
    clear hA
    obtain ⟨hA, rfl⟩ := hrel
    rcases hA with ⟨rfl, hA⟩ | ⟨i, h0, h1, rfl, h2, h3⟩
    · go_wp2
      go_ret3
      refine ⟨?_, Below.refl _ _⟩
      rw [partF, if_neg H.out, if_pos (by rw [lastGood_none s s.size fun j hj => (good_not s j).2 fun h => hA j h.2.2.1 (by omega) h.1]; decide)]; rfl
    · by_cases hend : 0 < i ∧ i + 1 = s.size
      · obtain ⟨he1, he2⟩ := hend
        go_wp2_with fail
        refine (Go.Proofs.Tryd.strings_LastIndexByte _ _ (by rw [ByteArray.size_extract]; omega) _).mono ?_
        rintro e w1 ⟨rfl, rfl⟩
        have hA : At s (.int .i64 (Lib.lastIndexByte (s.extract 0 i) 47)) ∧ Lib.lastIndexByte (s.extract 0 i) 47 < i ∧ -1 ≤ Lib.lastIndexByte (s.extract 0 i) 47 := by
          rcases last_spec s i (by omega) with ⟨g1, g2⟩ | ⟨j, g0, g1, g2, g3⟩
          · exact ⟨.inl ⟨by rw [g1], fun j h4 h5 => g2 j (by omega)⟩, by omega, by omega⟩
          · exact ⟨.inr ⟨j, by omega, by omega, by rw [g1], g2, fun m h4 h5 h6 => g3 m h4 (by omega)⟩, by omega, by omega⟩
        go_wp2
        exact ⟨⟨hA.1, trivial⟩, by simp only [intOf]; have := hA.2; omega⟩
      · by_cases F : 1 ≤ i ∧ s.size ≤ i + 101
        · obtain ⟨F1, F2⟩ := F
          have g1 : goodB s i = true := (good_iff s i).2 ⟨h2, F1, h1, by omega, F2⟩
          have g2 : lastGood s s.size = i := lastGood_eq s i g1 _ h0 fun j h4 h5 => (good_not s j).2 fun h => h3 j h4 h.2.2.1 (by omega) h.1
          have P1 := Lib.hid g2
          clear g1 g2 h2 h3
          go_wp2
          go_quiet (fail)
          go_wp2
          go_ret3
          refine ⟨?_, belowDrewN (Below.refl _ _)⟩
          rw [partF, if_neg H.out, if_neg (by rw [P1.out]; omega), P1.out]; rfl
        · have g2 : lastGood s s.size = -1 := lastGood_none s _ fun j h4 => (good_not s j).2 fun h => by
            rcases Nat.lt_trichotomy i j with h5 | h5 | h5
            · exact h3 j h5 h.2.2.1 (by omega) h.1
            · omega
            · omega
          have P1 := Lib.hid g2
          clear g2 h2 h3
          go_wp2
          all_goals (go_ret3; refine ⟨?_, Below.refl _ _⟩; rw [partF, if_neg H.out, if_pos (by rw [P1.out]; decide)]; rfl)

theorem part_len (s : ByteArray) (h : (partF s).2.2 = true) : (partF s).1.size ≤ 155 ∧ (partF s).2.1.size ≤ 100 ∧ ((partF s).1 = S [] ∧ (partF s).2.1 = s ∨ (partF s).1.size ≠ 0 ∧ (partF s).1 ++ S [47] ++ (partF s).2.1 = s) := by
  unfold partF at *
  split at h
  · rename_i h1; rw [if_pos h1]; exact ⟨by show 0 ≤ 155; omega, h1, .inl ⟨rfl, rfl⟩⟩
  · rename_i h1
    split at h
    · cases h
    · rename_i h2
      rw [if_neg h1, if_neg h2]
      rcases lastGood_lt s s.size with hg | ⟨i, hi, hg, hgi⟩
      · omega
      · obtain ⟨g1, g2, g3, g4, g5⟩ := (good_iff s i).1 hgi
        rw [hg]
        have e0 : ((i : Int).toNat) = i := by omega
        simp only [e0]
        refine ⟨by rw [ByteArray.size_extract]; omega, by rw [ByteArray.size_extract]; omega, .inr ⟨by rw [ByteArray.size_extract]; omega, ?_⟩⟩
        have e1 : S [47] = s.extract i (i + 1) := by
          rw [ext_one s i hi, ← getx s i hi]
          congr 2
          have : (s.data[i]!).toNat = 47 := by omega
          exact (UInt8.toNat_inj.1 (by rw [this]; rfl)).symm
        have e4 : max i (i + 1) = i + 1 := by omega
        have e5 : min 0 i = 0 := by omega
        rw [e1, ByteArray.extract_append_extract, e4, e5, ByteArray.extract_append_extract]
        have e2 : min 0 (i + 1) = 0 := by omega
        have e3 : max (i + 1) s.size = s.size := by omega
        rw [e2, e3, ByteArray.extract_zero_size]

def joinF (p b : ByteArray) : ByteArray := if p.size = 0 then b else p ++ S [47] ++ b
theorem empty_iff (p : ByteArray) : p.toList.isEmpty = decide (p.size = 0) := by
  rw [ByteArray.toList_eq, ← size_len]
  cases p.data.toList <;> simp

theorem join_any (p b : ByteArray) (w : World) (hp : p.size ≤ 1000000) (hb : b.size ≤ 1000000) :
    Calls Tryd.prog 60 #[.string p, .string b] w fun e w' => e = .returned (.string (joinF p b)) ∧ w = w' := by
  by_cases h : p.size = 0
  · have h0 : p.toList.isEmpty = true := by rw [empty_iff]; simpa using h
    have H := Lib.hid h
    clear h
    go_enter Tryd.func60, Tryd.ntmps60
    go_wp2
    go_ret
    exact ⟨by rw [joinF, if_pos H.out]; rfl, rfl⟩
  · have h0 : p.toList.isEmpty = false := by rw [empty_iff]; simpa using h
    have H := Lib.hid h
    clear h
    go_enter Tryd.func60, Tryd.ntmps60
    go_wp2
    go_ret
    exact ⟨by rw [joinF, if_neg H.out]; rfl, rfl⟩

theorem part_join (s : ByteArray) (h : (partF s).2.2 = true) : joinF (partF s).1 (partF s).2.1 = s := by
  rcases (part_len s h).2.2 with ⟨h1, h2⟩ | ⟨h1, h2⟩
  · rw [joinF, if_pos (by rw [h1]; rfl), h2]
  · rw [joinF, if_neg h1, h2]

/-- two fields that fit are a name that has two -/
theorem join_part (p b : ByteArray) (hp : p.size ≤ 155) (hb : b.size ≤ 100) (h0 : b.size ≠ 0) : (partF (joinF p b)).2.2 = true := by
  by_cases h : (joinF p b).size ≤ 100
  · rw [partF, if_pos h]
  rw [partF, if_neg h]
  have hne : p.size ≠ 0 := by intro e; rw [joinF, if_pos e] at h; omega
  have e47 : (S [47]).size = 1 := rfl
  have hsz : (joinF p b).size = p.size + 1 + b.size := by rw [joinF, if_neg hne, ByteArray.size_append, ByteArray.size_append, e47]
  have hx : (joinF p b).data[p.size]! = 47 := by
    rw [getElem!_pos (joinF p b).data p.size (show p.size < (joinF p b).data.size from by show _ < (joinF p b).size; omega)]
    simp only [joinF, if_neg hne]
    simp [S]
    exact Array.getElem_push_eq
  have hg : goodB (joinF p b) p.size = true := (good_iff _ _).2 ⟨by rw [hx]; rfl, by omega, by omega, by omega, by omega⟩
  by_cases hl : lastGood (joinF p b) (joinF p b).size < 0
  · exfalso
    rcases lastGood_lt (joinF p b) (joinF p b).size with hn | ⟨i, _, hi, _⟩
    · have key : ∀ k, p.size < k → 0 ≤ lastGood (joinF p b) k := by
        intro k
        induction k with
        | zero => intro h; omega
        | succ k ih =>
          intro h
          rw [lastGood]
          split
          · omega
          · rename_i hn2
            by_cases e : k = p.size
            · subst e; exact absurd hg hn2
            · exact ih (by omega)
      have := key (joinF p b).size (by omega)
      omega
    · omega
  · rw [if_neg hl]
end Go.Proofs.YtjldphpdfckjnaaDoor
