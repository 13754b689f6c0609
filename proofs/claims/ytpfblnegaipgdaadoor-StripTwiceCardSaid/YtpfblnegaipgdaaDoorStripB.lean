/- The law StripTwice: for every input the call returns true. -/
import Derived.Test.YtpfblnegaipgdaaDoorStripA
namespace Go.Proofs.YtpfblnegaipgdaaDoor
open Go.RowKit

set_option maxRecDepth 100000 in
set_option maxHeartbeats 1000000 in
theorem lawTwice (s : ByteArray) (m n : UInt8) (w : World) :
    Calls Tryd.prog 9 #[.string s, .int .u8 m.toNat, .int .u8 n.toNat] w fun e w' => e = .returned (.bool true) ∧ Below w.heap.size w w' := by
  have hm := m.toNat_lt
  have hn := n.toNat_lt
  by_cases hs : 300 < s.size
  · go_enter Tryd.func9, Tryd.ntmps9
    go_wp2_with fail
    refine (awake_any26 _).mono ?_
    rintro e w1 ⟨rfl, hb⟩
    go_wp2_with fail
    go_ret
    exact ⟨rfl, hb⟩
  obtain ⟨l, rfl⟩ : ∃ l : List UInt8, s = S l := ⟨s.data.toList, S_eta s⟩
  have hs : ¬ 300 < l.length := hs
  generalize m.toNat = a at *
  generalize n.toNat = b at *
  have v1 : stripV l a = .tuple #[.string (S (stripL a l)), .bool (!(stripL a l).isEmpty)] := by unfold stripV; rw [if_neg (by omega), Int.toNat_natCast]
  have v2 : stripV l (a + b : Int) = .tuple #[.string (S (stripL b (stripL a l))), .bool (!(stripL b (stripL a l)).isEmpty)] := by
    rw [← strip_add]; unfold stripV; rw [if_neg (by omega), show ((a : Int) + b).toNat = a + b by omega]
  have v3 : stripV (stripL a l) b = .tuple #[.string (S (stripL b (stripL a l))), .bool (!(stripL b (stripL a l)).isEmpty)] := by unfold stripV; rw [if_neg (by omega), Int.toNat_natCast]
  have h1 := fun w => Strip_any l a (by omega) w
  have h2 := fun w => Strip_any l (a + b : Int) (by omega) w
  have h3 := fun w => Strip_any (stripL a l) b (by omega) w
  rw [v1] at h1
  rw [v2] at h2
  rw [v3] at h3
  have H1 := Lib.hid h1
  have H2 := Lib.hid h2
  have H3 := Lib.hid h3
  have hnil := strip_nil b
  clear h1 h2 h3 v1 v2 v3
  generalize stripL a l = p at *
  by_cases hp : p = []
  · subst hp
    rw [hnil] at H2 H3
    clear hnil
    go_enter Tryd.func9, Tryd.ntmps9
    go_wp2_with fail
    refine (H1.out _).mono ?_
    rintro e w1 ⟨rfl, rfl⟩
    go_wp2_with fail
    refine (H2.out _).mono ?_
    rintro e w1 ⟨rfl, rfl⟩
    go_wp2_with fail
    refine (awake_any26 _).mono ?_
    rintro e w1 ⟨rfl, hb⟩
    go_wp2_with fail
    go_ret
    exact ⟨rfl, hb⟩
  · have he : p.isEmpty = false := by cases p with | nil => exact absurd rfl hp | cons => rfl
    clear hnil
    generalize stripL b p = q at *
    go_enter Tryd.func9, Tryd.ntmps9
    go_wp2_with fail
    refine (H1.out _).mono ?_
    rintro e w1 ⟨rfl, rfl⟩
    go_wp2_with fail
    refine (H2.out _).mono ?_
    rintro e w1 ⟨rfl, rfl⟩
    go_wp2_with fail
    refine (H3.out _).mono ?_
    rintro e w1 ⟨rfl, rfl⟩
    go_wp2_with fail
    refine (awake_any26 _).mono ?_
    rintro e w1 ⟨rfl, hb⟩
    go_wp2_with fail
    go_ret
    exact ⟨rfl, hb⟩
end Go.Proofs.YtpfblnegaipgdaaDoor
