/- Times as texts: the plain law. -/
import Derived.Test.YtjldphpdfckjnaaDoorStampL
namespace Go.Proofs.YtjldphpdfckjnaaDoor
open Go.Lib

def padL (n v : Nat) : List UInt8 := List.replicate (n - (decDigits v).length) 48 ++ decDigits v
theorem decN_pre : ∀ (m : Nat) (l : List UInt8), decN (List.replicate m 48 ++ l) = decN l
  | 0, l => rfl
  | m + 1, l => by
    have := decN_pre m l
    unfold decN at *
    rw [List.replicate_succ, List.cons_append, List.foldl_cons]
    exact this
theorem pad_len (n v : Nat) (h : (decDigits v).length ≤ n) : (padL n v).length = n := by
  unfold padL; rw [List.length_append, List.length_replicate]; omega
theorem pad_dg (n v : Nat) : AllDg (padL n v) := by
  intro c hc
  unfold padL at hc
  rcases List.mem_append.1 hc with h | h
  · rw [List.eq_of_mem_replicate h]; rfl
  · exact digs_dg v c h
theorem pad_val (n v : Nat) : decN (padL n v) = v := by unfold padL; rw [decN_pre, digs_val]
theorem decN_inj : ∀ (n : Nat) (a b : List UInt8), a.length = n → b.length = n → AllDg a → AllDg b → decN a = decN b → a = b
  | 0, a, b, ha, hb, _, _, _ => by rw [List.eq_nil_of_length_eq_zero ha, List.eq_nil_of_length_eq_zero hb]
  | n + 1, a, b, ha, hb, da, db, h => by
    have na : a ≠ [] := fun e => by rw [e] at ha; cases ha
    have nb : b ≠ [] := fun e => by rw [e] at hb; cases hb
    have ea := List.dropLast_concat_getLast na
    have eb := List.dropLast_concat_getLast nb
    have ga := of_decide_eq_true (da _ (List.getLast_mem na))
    have gb := of_decide_eq_true (db _ (List.getLast_mem nb))
    rw [← ea, ← eb, decN_snoc, decN_snoc] at h
    have h1 := decN_inj n a.dropLast b.dropLast (by simp; omega) (by simp; omega) (fun c hc => da c ((List.dropLast_sublist a).subset hc)) (fun c hc => db c ((List.dropLast_sublist b).subset hc)) (by omega)
    have h2 : a.getLast na = b.getLast nb := UInt8.toNat_inj.1 (by omega)
    rw [← ea, ← eb, h1, h2]
theorem pad_frac (n : Nat) (h : n < 1000000000) : trimRightB (padL 9 n) 48 = fracT n := by
  obtain ⟨_, hl, hd, hv⟩ := digs_big n h
  have hlen := digs_len 8 n (by simpa using h)
  rw [decN_inj 9 (padL 9 n) (frac9 n) (pad_len 9 n hlen) hl (pad_dg 9 n) hd (by rw [pad_val, hv])]
  rfl
/-- what stands behind the seconds -/
def tailW (n : Nat) : List UInt8 := if n = 0 then [] else 46 :: fracT n
def textW (y m d h i s n : Nat) : List UInt8 := padL 4 y ++ (45 :: (padL 2 m ++ (45 :: (padL 2 d ++ (32 :: (padL 2 h ++ (58 :: (padL 2 i ++ (58 :: (padL 2 s ++ tailW n))))))))))
/-- so many digits at a place -/
def rdigF (l : List UInt8) (k n : Nat) : Int := if l.length < k + n then -1 else if ((l.drop k).take n).all dg = true then (decN ((l.drop k).take n) : Int) else -1
theorem rdig_at (A D R : List UInt8) (k n : Nat) (ha : A.length = k) (hd : D.length = n) (h : AllDg D) : rdigF (A ++ (D ++ R)) k n = decN D := by
  subst ha hd
  unfold rdigF
  rw [List.drop_left, List.take_left, if_neg (by simp only [List.length_append]; omega), if_pos (List.all_eq_true.2 h)]
/-- how far a fraction goes: its digits are those of the number, without the noughts at the end -/
def fracN : Nat → Nat → Nat
  | 0, _ => 0
  | f + 1, n => if n = 0 then 0 else fracN f (n * 10 % 1000000000) + 1
theorem trim_last (l : List UInt8) (c : UInt8) (h : trimRightB l c ≠ []) : (trimRightB l c).getLast h ≠ c := by
  have e : ∀ r : List UInt8, (r.dropWhile (· == c)).head? ≠ some c := by
    intro r
    induction r with
    | nil => simp
    | cons x r ih =>
      rw [List.dropWhile_cons]
      by_cases hx : (x == c) = true
      · rw [if_pos hx]; exact ih
      · rw [if_neg hx]; intro g; apply hx; simpa using g
  intro g
  apply e l.reverse
  have h1 : (trimRightB l c).getLast? = some c := by rw [List.getLast?_eq_some_getLast h, g]
  unfold trimRightB at h1
  rw [List.getLast?_reverse] at h1
  exact h1
theorem decN_app_zeros : ∀ (m : Nat) (l : List UInt8), decN (l ++ List.replicate m 48) = decN l * 10 ^ m
  | 0, l => by simp
  | m + 1, l => by
    rw [List.replicate_succ', ← List.append_assoc, decN_snoc, decN_app_zeros m l, Nat.pow_succ]
    show 10 * (decN l * 10 ^ m) + 0 = _
    rw [Nat.mul_comm 10, Nat.mul_assoc]; rfl
/-- a number whose digits are so many, the last one no nought: so many turns bring it to nought -/
theorem fracN_of : ∀ (k f q : Nat), k ≤ 9 → k ≤ f → q < 10 ^ k → (0 < k → q % 10 ≠ 0) → fracN f (q * 10 ^ (9 - k)) = k := by
  intro k
  induction k with
  | zero =>
    intro f q _ _ hq _
    have : q = 0 := by simpa using hq
    subst this
    cases f with
    | zero => rfl
    | succ f => rw [fracN, if_pos (by simp)]
  | succ k ih =>
    intro f q hk hf hq h0
    obtain ⟨g, rfl⟩ : ∃ g, f = g + 1 := ⟨f - 1, by omega⟩
    have hne := h0 (by omega)
    have hp : 1 ≤ 10 ^ (9 - (k + 1)) := Nat.one_le_pow _ _ (by decide)
    have hz : q * 10 ^ (9 - (k + 1)) ≠ 0 := by
      intro e
      rcases Nat.mul_eq_zero.1 e with e | e <;> omega
    have e10 : q * 10 ^ (9 - (k + 1)) * 10 = q * 10 ^ (9 - k) := by
      rw [Nat.mul_assoc, ← Nat.pow_succ, show (9 - (k + 1)).succ = 9 - k by omega]
    have e9 : 10 ^ k * 10 ^ (9 - k) = 1000000000 := by rw [← Nat.pow_add, show k + (9 - k) = 9 by omega]
    have hm : q * 10 ^ (9 - k) % 1000000000 = (q % 10 ^ k) * 10 ^ (9 - k) := by
      rw [← e9, Nat.mul_mod_mul_right]
    rw [fracN, if_neg hz, e10, hm]
    rw [ih g (q % 10 ^ k) (by omega) (by omega) (Nat.mod_lt _ (Nat.one_le_pow _ _ (by decide))) (fun hk0 => ?_)]
    obtain ⟨j, rfl⟩ : ∃ j, k = j + 1 := ⟨k - 1, by omega⟩
    rw [Nat.pow_succ, Nat.mul_comm, Nat.mod_mul_right_mod]
    exact hne
theorem frac_len (n : Nat) (h : n < 1000000000) : fracN 9 n = if n = 0 then 0 else (fracT n).length := by
  by_cases h0 : n = 0
  · rw [if_pos h0, h0]; rfl
  · rw [if_neg h0]
    obtain ⟨_, hl, hd, hv⟩ := digs_big n h
    obtain ⟨he, hle⟩ := trim_eq0 (frac9 n) 48
    have hf : trimRightB (frac9 n) 48 = fracT n := rfl
    rw [hf, hl] at he hle
    obtain ⟨hb, _⟩ := fracT_ok n h h0
    obtain ⟨hne, _, hdg⟩ := (digB_iff _ _).1 hb
    have hval : decN (fracT n) * 10 ^ (9 - (fracT n).length) = n := by rw [← decN_app_zeros, ← he, hv]
    have hlt := decN_lt _ (fracT n) hdg rfl
    have hlast := trim_last (frac9 n) 48 (by rw [hf]; exact hne)
    have e := List.dropLast_concat_getLast hne
    have g := of_decide_eq_true (hdg _ (List.getLast_mem hne))
    have h10 : decN (fracT n) % 10 ≠ 0 := by
      rw [← e, decN_snoc]
      have : ((fracT n).getLast hne).toNat ≠ 48 := fun x => hlast (UInt8.toNat_inj.1 x)
      omega
    have := fracN_of (fracT n).length 9 (decN (fracT n)) hle hle hlt (fun _ => h10)
    rw [hval] at this
    exact this
theorem at_piece (T A : List UInt8) (c : UInt8) (R : List UInt8) (k : Nat) (e : T = A ++ (c :: R)) (hA : A.length = k) : T[k]? = some c := by
  subst e hA
  rw [List.getElem?_append_right (Nat.le_refl _), Nat.sub_self]; rfl
theorem rd_piece (T A D R : List UInt8) (k n v : Nat) (e : T = A ++ (D ++ R)) (hA : A.length = k) (hD : D = padL n v) (hl : (decDigits v).length ≤ n) : rdigF T k n = v := by
  subst e hD
  rw [rdig_at A (padL n v) R k n hA (pad_len n v hl) (pad_dg n v), pad_val]
structure TxF (T : List UInt8) (y m d h i s n : Nat) : Prop where
  len : T.length = 19 + (tailW n).length
  c4 : T[4]? = some 45
  c7 : T[7]? = some 45
  c10 : T[10]? = some 32
  c13 : T[13]? = some 58
  c16 : T[16]? = some 58
  r0 : rdigF T 0 4 = y
  r5 : rdigF T 5 2 = m
  r8 : rdigF T 8 2 = d
  r11 : rdigF T 11 2 = h
  r14 : rdigF T 14 2 = i
  r17 : rdigF T 17 2 = s
  tail : T.drop 19 = tailW n
  head : T[0]? ≠ some 64
theorem textW_ok (y m d h i s n : Nat) (hy : y < 10000) (hm : m < 100) (hd : d < 100) (hh : h < 100) (hi : i < 100) (hs : s < 100) : TxF (textW y m d h i s n) y m d h i s n := by
  have l1 := digs_len 3 y (by simpa using hy)
  have l2 := digs_len 1 m (by simpa using hm)
  have l3 := digs_len 1 d (by simpa using hd)
  have l4 := digs_len 1 h (by simpa using hh)
  have l5 := digs_len 1 i (by simpa using hi)
  have l6 := digs_len 1 s (by simpa using hs)
  have p1 := pad_len 4 y l1
  have p2 := pad_len 2 m l2
  have p3 := pad_len 2 d l3
  have p4 := pad_len 2 h l4
  have p5 := pad_len 2 i l5
  have p6 := pad_len 2 s l6
  have hdg := pad_dg 4 y
  refine ⟨?_, ?_, ?_, ?_, ?_, ?_, ?_, ?_, ?_, ?_, ?_, ?_, ?_, ?_⟩
  · unfold textW
    simp only [List.length_append, List.length_cons, p1, p2, p3, p4, p5, p6]
    omega
  · exact at_piece _ (padL 4 y) 45 _ 4 rfl p1
  · exact at_piece _ (padL 4 y ++ 45 :: padL 2 m) 45 _ 7 (by unfold textW; simp only [List.append_assoc, List.cons_append]; rfl) (by simp [p1, p2])
  · exact at_piece _ (padL 4 y ++ 45 :: (padL 2 m ++ 45 :: padL 2 d)) 32 _ 10 (by unfold textW; simp only [List.append_assoc, List.cons_append]; rfl) (by simp [p1, p2, p3])
  · exact at_piece _ (padL 4 y ++ 45 :: (padL 2 m ++ 45 :: (padL 2 d ++ 32 :: padL 2 h))) 58 _ 13 (by unfold textW; simp only [List.append_assoc, List.cons_append]; rfl) (by simp [p1, p2, p3, p4])
  · exact at_piece _ (padL 4 y ++ 45 :: (padL 2 m ++ 45 :: (padL 2 d ++ 32 :: (padL 2 h ++ 58 :: padL 2 i)))) 58 _ 16 (by unfold textW; simp only [List.append_assoc, List.cons_append]; rfl) (by simp [p1, p2, p3, p4, p5])
  · exact rd_piece _ [] (padL 4 y) _ 0 4 y rfl rfl rfl l1
  · exact rd_piece _ (padL 4 y ++ [45]) (padL 2 m) _ 5 2 m (by unfold textW; simp only [List.append_assoc, List.cons_append, List.nil_append]; rfl) (by simp [p1]) rfl l2
  · exact rd_piece _ (padL 4 y ++ 45 :: (padL 2 m ++ [45])) (padL 2 d) _ 8 2 d (by unfold textW; simp only [List.append_assoc, List.cons_append, List.nil_append]; rfl) (by simp [p1, p2]) rfl l3
  · exact rd_piece _ (padL 4 y ++ 45 :: (padL 2 m ++ 45 :: (padL 2 d ++ [32]))) (padL 2 h) _ 11 2 h (by unfold textW; simp only [List.append_assoc, List.cons_append, List.nil_append]; rfl) (by simp [p1, p2, p3]) rfl l4
  · exact rd_piece _ (padL 4 y ++ 45 :: (padL 2 m ++ 45 :: (padL 2 d ++ 32 :: (padL 2 h ++ [58])))) (padL 2 i) _ 14 2 i (by unfold textW; simp only [List.append_assoc, List.cons_append, List.nil_append]; rfl) (by simp [p1, p2, p3, p4]) rfl l5
  · exact rd_piece _ (padL 4 y ++ 45 :: (padL 2 m ++ 45 :: (padL 2 d ++ 32 :: (padL 2 h ++ 58 :: (padL 2 i ++ [58]))))) (padL 2 s) _ 17 2 s (by unfold textW; simp only [List.append_assoc, List.cons_append, List.nil_append]; rfl) (by simp [p1, p2, p3, p4, p5]) rfl l6
  · have e : textW y m d h i s n = (padL 4 y ++ 45 :: (padL 2 m ++ 45 :: (padL 2 d ++ 32 :: (padL 2 h ++ 58 :: (padL 2 i ++ 58 :: padL 2 s))))) ++ tailW n := by
      unfold textW; simp only [List.append_assoc, List.cons_append]
    have hl : (padL 4 y ++ 45 :: (padL 2 m ++ 45 :: (padL 2 d ++ 32 :: (padL 2 h ++ 58 :: (padL 2 i ++ 58 :: padL 2 s))))).length = 19 := by simp [p1, p2, p3, p4, p5, p6]
    rw [e, ← hl, List.drop_left]
  · intro g
    unfold textW at g
    rw [List.getElem?_append_left (by omega)] at g
    have := hdg 64 (List.mem_of_getElem? g)
    cases this
theorem rdig_one (l : List UInt8) (k : Nat) (c : UInt8) (h : l[k]? = some c) (hd : dg c = true) : rdigF l k 1 = ((c.toNat - 48 : Nat) : Int) := by
  have hk : k < l.length := by
    rcases Nat.lt_or_ge k l.length with x | x
    · exact x
    · rw [List.getElem?_eq_none x] at h; cases h
  have e : (l.drop k).take 1 = [c] := by
    rw [List.getElem?_eq_getElem hk] at h
    rw [List.drop_eq_getElem_cons hk, Option.some.inj h]; rfl
  unfold rdigF
  rw [if_neg (by omega), e, if_pos (by simp [hd])]
  unfold decN
  simp
theorem rdig_end (l : List UInt8) (k : Nat) (h : l.length ≤ k) : rdigF l k 1 = -1 := by
  unfold rdigF; rw [if_pos (by omega)]
theorem tail_at (T : List UInt8) (n : Nat) (h : T.drop 19 = tailW n) (j : Nat) : T[19 + j]? = (tailW n)[j]? := by rw [← h, List.getElem?_drop]
end Go.Proofs.YtjldphpdfckjnaaDoor
