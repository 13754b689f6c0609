/- record.one and record.Parse. -/
import Derived.Test.YtjoalambgckchaaDoorRecC
namespace Go.Proofs.YtjoalambgckchaaDoor
open Go.RowKit Go.Lib

theorem split_cut (b : List UInt8) : splitP b = if (dwC 61 b).isEmpty = false ∧ (twC 61 b).isEmpty = false then some (twC 61 b, (dwC 61 b).drop 1) else none := by
  have h1 : b.contains 61 = false ↔ (dwC 61 b).isEmpty = true := by
    unfold dwC
    induction b with
    | nil => simp
    | cons c b ih =>
      rw [List.contains_cons, Bool.or_eq_false_iff, List.dropWhile_cons]
      by_cases hc : c = 61
      · subst hc; simp
      · rw [if_pos (by simpa using hc), ← ih]
        have : ((61 : UInt8) == c) = false := by rw [beq_eq_false_iff_ne]; exact Ne.symm hc
        simp [this]
  have h2 : (b = [] ∨ b.head? = some 61) ↔ (twC 61 b).isEmpty = true := by
    unfold twC
    cases b with
    | nil => simp
    | cons c b =>
      rw [List.takeWhile_cons]
      by_cases hc : c = 61
      · subst hc; simp
      · rw [if_pos (by simpa using hc)]; simp [hc]
  unfold splitP
  by_cases hc : b.contains 61 = false ∨ b.head? = some 61
  · rw [if_pos hc, if_neg]
    rintro ⟨g1, g2⟩
    rcases hc with h | h
    · rw [h1.1 h] at g1; cases g1
    · rw [h2.1 (.inr h)] at g2; cases g2
  · rw [if_neg hc, if_pos]
    · rfl
    · constructor
      · cases e : (dwC 61 b).isEmpty
        · rfl
        · exact absurd (.inl (h1.2 e)) hc
      · cases e : (twC 61 b).isEmpty
        · rfl
        · rcases h2.2 e with g | g
          · exact absurd (.inl (by rw [g]; rfl)) hc
          · exact absurd (.inr g) hc
def oneV (r : Option PR) (x y : ByteArray) : Prop := ∀ p, r = some p → x = S p.1 ∧ y = S p.2
set_option maxRecDepth 100000 in
set_option maxHeartbeats 4000000 in
theorem one06_any (s : List UInt8) (n : Nat) (h1 : 1 ≤ s.length) (hs : s.length ≤ 1000000) (hn : n ≤ 10) (w : World) :
    Calls Tryd.prog 22 #[.string (S s), .int .i64 n] w fun e w' => (∃ x y, e = .returned (.tuple #[.agg #[.string x, .string y], .bool (oneF s n).isSome]) ∧ oneV (oneF s n) x y) ∧ Below w.heap.size w w' := by
  have hB0 := (Below.refl w.heap.size w).alloc (Nat.le_refl _) (.cells #[.string ⟨#[]⟩, .string ⟨#[]⟩] 25)
  by_cases hle : s.length ≤ n + 1
  · have HO := Lib.hid (show oneF s n = none by unfold oneF; rw [if_pos (.inl hle)])
    go_enter Tryd.func22, Tryd.ntmps22
    go_wp2
    refine bodyPost_ret (v := .tuple #[.agg #[.string ⟨#[]⟩, .string ⟨#[]⟩], .bool false]) (by simp [results, Tryd.results22, go_sem]) rfl ⟨⟨_, _, by rw [HO.out]; rfl, fun p h => by rw [HO.out] at h; cases h⟩, hB0⟩
  · obtain ⟨m, hm⟩ : ∃ m, s.length = m + 1 := ⟨s.length - 1, by omega⟩
    have hml : m < s.length := by omega
    have hx : (s.length : Int) - 1 = (m : Int) := by omega
    have hget := getS s m hml
    have hnm : ¬ m ≤ n := by omega
    have hsm : s.length - 1 = m := by omega
    by_cases h10 : (S s)[m]'(by rw [S_size]; exact hml) = 10
    · have hb := byte_bne' _ 10 10 rfl h10
      have hsp := split_cut ((s.take m).drop (n + 1))
      have hO : oneF s n = splitP ((s.take m).drop (n + 1)) := by
        unfold oneF
        rw [hsm, if_neg]
        rintro (g | g)
        · omega
        · rw [hget, h10] at g; exact g rfl
      rw [← hO] at hsp
      have he : (S s).extract (n + 1) m = S ((s.take m).drop (n + 1)) := by rw [S_extract, List.drop_take]
      have hC := fun W => cut_c 61 ((s.take m).drop (n + 1)) (by rw [List.length_drop, List.length_take]; omega) W
      generalize (s.take m).drop (n + 1) = b at *
      have HC := Lib.hid hC
      have HO := Lib.hid hsp
      clear hget h10 hsm hO hC hsp hm hle
      go_enter Tryd.func22, Tryd.ntmps22
      go_wp2_with fail
      refine (HC.out _).mono ?_
      rintro e w1 ⟨rfl, nn, rfl⟩
      clear HC he
      unfold cutCV
      have ho := HO.out
      clear HO
      generalize (dwC 61 b).drop 1 = d at *
      generalize (dwC 61 b).isEmpty = z at *
      generalize twC 61 b = a at *
      cases z
      · by_cases ha : a = []
        · subst ha
          have HR := Lib.hid (ho.trans (if_neg (by rintro ⟨_, g⟩; cases g)))
          clear ho
          go_wp2
          refine bodyPost_ret (v := .tuple #[.agg #[.string (S []), .string (S d)], .bool false]) (by simp [results, Tryd.results22, go_sem]) rfl ⟨⟨_, _, by rw [HR.out]; rfl, fun p h => by rw [HR.out] at h; cases h⟩, ((belowDrewN hB0).setCell (Nat.le_refl _) _).setCell (Nat.le_refl _) _⟩
        · have hae : a.isEmpty = false := by cases a with | nil => exact absurd rfl ha | cons => rfl
          have HR := Lib.hid (ho.trans (if_pos ⟨rfl, hae⟩))
          clear ho
          go_wp2
          refine bodyPost_ret (v := .tuple #[.agg #[.string (S a), .string (S d)], .bool true]) (by simp [results, Tryd.results22, go_sem]) rfl ⟨⟨_, _, by rw [HR.out]; rfl, fun p h => by rw [HR.out] at h; cases h; exact ⟨rfl, rfl⟩⟩, ((belowDrewN hB0).setCell (Nat.le_refl _) _).setCell (Nat.le_refl _) _⟩
      · have HR := Lib.hid (ho.trans (if_neg (by rintro ⟨g, _⟩; cases g)))
        clear ho
        go_wp2
        refine bodyPost_ret (v := .tuple #[.agg #[.string (S a), .string (S d)], .bool false]) (by simp [results, Tryd.results22, go_sem]) rfl ⟨⟨_, _, by rw [HR.out]; rfl, fun p h => by rw [HR.out] at h; cases h⟩, ((belowDrewN hB0).setCell (Nat.le_refl _) _).setCell (Nat.le_refl _) _⟩
    · have hb := byte_bne _ 10 10 rfl h10
      have HO := Lib.hid (show oneF s n = none by unfold oneF; rw [hsm, if_pos (.inr (fun e => h10 (by rw [hget] at e; exact Option.some.inj e)))])
      clear hget h10 hsm hm hle
      go_enter Tryd.func22, Tryd.ntmps22
      go_wp2
      refine bodyPost_ret (v := .tuple #[.agg #[.string ⟨#[]⟩, .string ⟨#[]⟩], .bool false]) (by simp [results, Tryd.results22, go_sem]) rfl ⟨⟨_, _, by rw [HO.out]; rfl, fun p h => by rw [HO.out] at h; cases h⟩, hB0⟩
end Go.Proofs.YtjoalambgckchaaDoor
