/- The document's bracket: a round that meets a named class, or an equal sign. -/
import Derived.Test.YtphfcebacilbbaaDoorBrQ0
namespace Go.Proofs.YtphfcebacilbbaaDoor
open Go.RowKit
attribute [local irreducible] wordP

set_option maxRecDepth 1000000 in
set_option maxHeartbeats 2000000 in
theorem rp_named_none (s : List UInt8) (gl : Bool) (kk k0 : Nat) (l : List UInt8) (A : Nat) (wr : World) (K : Act → World → Prop) (Q0 : Exit → Act → World → Prop) (c1 c8 c17 c18 c19 c20 c21 c22 c23 c24 c25 c26 c27 c28 c29 c30 c31 c32 c155 c156 c157 c158 c159 c160 c161 c162 c163 c164 c165 c166 : Value) (u11 u12 u13 u14 u15 u16 u33 u34 u35 u36 u37 u38 u39 u40 u41 u42 u43 u44 u45 u46 u47 u48 u49 u50 u51 u52 u53 u54 u55 u56 u57 u58 u59 u60 u61 u62 u63 u64 u65 u66 u67 u68 u69 u70 u71 u72 u73 u74 u75 u76 u77 u78 u79 u80 u81 u82 u83 u84 u85 u86 u87 u88 u89 u90 u91 u92 u93 u94 u95 u96 u97 u98 u99 u100 u101 u102 u103 u104 u105 u106 u107 u108 u109 u110 u111 u112 u113 u114 u115 u116 u117 u118 u119 u120 u121 u122 u123 u124 u125 u126 u127 u128 u129 u130 u131 u132 u133 u134 u135 u136 u137 u138 u139 u140 u141 u142 u143 u144 u145 u146 u147 u148 u149 u150 u151 u152 u153 u154 : Value)
    (hs : s.length ≤ 1000) (hll : l.length ≤ 256000) (hlt : kk < s.length) (hks2 : kk < (S s).size)
    (hT10 : (((((S s)[kk]'hks2).toNat : Int) == 93) = false) ∨ (((((S s)[kk]'hks2).toNat : Int) == 93) = true ∧ ((S s)[kk]'hks2).toNat = 93 ∧ ¬ (k0 : Int) < (kk : Int)))
    (hG : GotAt wr A) (hl2 : kk + 2 ≤ s.length) (hq1 : preB (s.drop kk) [91, 58] = true) (HNO : Hid (∀ x, kk + 2 ≤ x → x ≤ s.length → preB (s.drop x) [58, 93] = false))
    (hQ : ∀ (a : Act) (w1 : World), a.tmps.getD 6 undef = .pointer (some ⟨A, 0, none⟩) → a.defers = [] → GotAt w1 A → Below wr.heap.size wr w1 → Q0 .ret a (((w1.setCell ⟨A, 0, none⟩ (.string ⟨#[]⟩)).setCell ⟨A, 1, none⟩ (.int .i64 0)).setCell ⟨A, 2, none⟩ (.bool false))) :
    Code.wp Tryd.prog rbody (Exit.then K Q0) ⟨#[.string (S s), c1, .bool gl, undef, undef, undef, .pointer (some ⟨A, 0, none⟩), .int .i64 (kk : Nat), c8, .int .i64 (k0 : Nat), .string (S (l)), u11, u12, u13, u14, u15, u16, c17, c18, c19, c20, c21, c22, c23, c24, c25, c26, c27, c28, c29, c30, c31, c32, u33, u34, u35, u36, u37, u38, u39, u40, u41, u42, u43, u44, u45, u46, u47, u48, u49, u50, u51, u52, u53, u54, u55, u56, u57, u58, u59, u60, u61, u62, u63, u64, u65, u66, u67, u68, u69, u70, u71, u72, u73, u74, u75, u76, u77, u78, u79, u80, u81, u82, u83, u84, u85, u86, u87, u88, u89, u90, u91, u92, u93, u94, u95, u96, u97, u98, u99, u100, u101, u102, u103, u104, u105, u106, u107, u108, u109, u110, u111, u112, u113, u114, u115, u116, u117, u118, u119, u120, u121, u122, u123, u124, u125, u126, u127, u128, u129, u130, u131, u132, u133, u134, u135, u136, u137, u138, u139, u140, u141, u142, u143, u144, u145, u146, u147, u148, u149, u150, u151, u152, u153, u154, c155, c156, c157, c158, c159, c160, c161, c162, c163, c164, c165, c166], []⟩ wr := by
  have HBG := Lib.hid (fun sign x (j : Nat) c h1 h2 hx hj hc W => begins_is s sign j (by omega) hj h1 h2 c hc x hx W)
  have HQ := Lib.hid hQ
  clear hQ
  skip
  skip
  have hGs := hG
  obtain ⟨g0, g1, g2, gf, glt⟩ := hGs
  have gf0 := gf 0
  have gf1 := gf 1
  have gf2 := gf 2
  clear gf
  have hge : ¬ s.length ≤ kk := Nat.not_le.2 hlt
  have hI : ¬ (s.length : Int) ≤ (kk : Int) := by omega
  have hllI : (l.length : Int) ≤ 256000 := by omega
  have hkI : (kk : Int) < (s.length : Int) := by omega
  conv => arg 2; whnf
  go_upto_region 10 with fail
  go_cut [46] from 38 to 46 (fun v wx => v = .bool false ∧ wx = wr)
  case first =>
    rcases hT10 with h1 | ⟨h1, h2, h3⟩
    all_goals
      go_wp2_with fail
      go_meet
      exact ⟨rfl, rfl⟩
  case rest =>
    obtain ⟨rfl, hwc⟩ := hcut
    subst wc
    clear hT10
    go_wp2_with fail
    refine (HBG.out [91, 58] _ kk true (by decide) (by decide) (by first | rfl | (push_cast; omega)) (by omega) hq1 _).mono ?_
    rintro e wB ⟨rfl, hwB⟩
    subst wB
    go_wp2_with fail
    go_loopw [11] (fun v11 wr2 => ∃ x : Nat, v11 = .int .i64 x ∧ kk + 2 ≤ x ∧ x ≤ s.length ∧ wr2 = wr) (fun v11 _ => s.length - (intOf v11).toNat)
    case atStart => exact ⟨kk + 2, by go_num, Nat.le_refl _, by omega, by trivial⟩
    case round =>
      obtain ⟨x, rfl, hx1, hx2, hwr⟩ := hrel
      subst wr
      by_cases hx3 : x < s.length
      · have hxI : (x : Int) < (s.length : Int) := by omega
        go_wp2_with fail
        refine (HBG.out [58, 93] _ x false (by decide) (by decide) (by first | rfl | (push_cast; omega)) (by omega) (HNO.out x hx1 hx2) _).mono ?_
        rintro e wB ⟨rfl, hwB⟩
        subst wB
        go_wp2_with fail
        go_roundw
        case rel => exact ⟨x + 1, by go_num, by omega, by omega, by trivial⟩
        case measure => simp [intOf]; omega
      · have hxI : ¬ (x : Int) < (s.length : Int) := by omega
        have hxJ : (s.length : Int) ≤ (x : Int) := by omega
        go_wp2_with fail
        exact HQ.out _ _ rfl rfl hG (Below.refl _ _)
set_option maxRecDepth 1000000 in
set_option maxHeartbeats 2000000 in
theorem rp_named_bad (s : List UInt8) (gl : Bool) (kk k0 : Nat) (l : List UInt8) (A : Nat) (wr : World) (K : Act → World → Prop) (Q0 : Exit → Act → World → Prop) (c1 c8 c17 c18 c19 c20 c21 c22 c23 c24 c25 c26 c27 c28 c29 c30 c31 c32 c155 c156 c157 c158 c159 c160 c161 c162 c163 c164 c165 c166 : Value) (u11 u12 u13 u14 u15 u16 u33 u34 u35 u36 u37 u38 u39 u40 u41 u42 u43 u44 u45 u46 u47 u48 u49 u50 u51 u52 u53 u54 u55 u56 u57 u58 u59 u60 u61 u62 u63 u64 u65 u66 u67 u68 u69 u70 u71 u72 u73 u74 u75 u76 u77 u78 u79 u80 u81 u82 u83 u84 u85 u86 u87 u88 u89 u90 u91 u92 u93 u94 u95 u96 u97 u98 u99 u100 u101 u102 u103 u104 u105 u106 u107 u108 u109 u110 u111 u112 u113 u114 u115 u116 u117 u118 u119 u120 u121 u122 u123 u124 u125 u126 u127 u128 u129 u130 u131 u132 u133 u134 u135 u136 u137 u138 u139 u140 u141 u142 u143 u144 u145 u146 u147 u148 u149 u150 u151 u152 u153 u154 : Value)
    (hs : s.length ≤ 1000) (hll : l.length ≤ 256000) (hlt : kk < s.length) (hks2 : kk < (S s).size)
    (hT10 : (((((S s)[kk]'hks2).toNat : Int) == 93) = false) ∨ (((((S s)[kk]'hks2).toNat : Int) == 93) = true ∧ ((S s)[kk]'hks2).toNat = 93 ∧ ¬ (k0 : Int) < (kk : Int)))
    (hG : GotAt wr A) (i : Nat) (nm : List UInt8) (c : Nat → Bool) (hi2 : kk + 2 + i + 2 ≤ s.length) (hq1 : preB (s.drop kk) [91, 58] = true) (HNO : Hid (∀ x, kk + 2 ≤ x → x < kk + 2 + i → preB (s.drop x) [58, 93] = false)) (HYES : Hid (preB (s.drop (kk + 2 + i)) [58, 93] = true)) (he : (S s).extract (kk + 2) (kk + 2 + i) = S nm) (HNM : Hid (∀ W, Calls Tryd.prog 48 #[.string (S nm)] W fun e w' => e = .returned (.tuple #[.string (S (bytesP c)), .bool false]) ∧ Below W.heap.size W w'))
    (hQ : ∀ (a : Act) (w1 : World), a.tmps.getD 6 undef = .pointer (some ⟨A, 0, none⟩) → a.defers = [] → GotAt w1 A → Below wr.heap.size wr w1 → Q0 .ret a (((w1.setCell ⟨A, 0, none⟩ (.string ⟨#[]⟩)).setCell ⟨A, 1, none⟩ (.int .i64 0)).setCell ⟨A, 2, none⟩ (.bool false))) :
    Code.wp Tryd.prog rbody (Exit.then K Q0) ⟨#[.string (S s), c1, .bool gl, undef, undef, undef, .pointer (some ⟨A, 0, none⟩), .int .i64 (kk : Nat), c8, .int .i64 (k0 : Nat), .string (S (l)), u11, u12, u13, u14, u15, u16, c17, c18, c19, c20, c21, c22, c23, c24, c25, c26, c27, c28, c29, c30, c31, c32, u33, u34, u35, u36, u37, u38, u39, u40, u41, u42, u43, u44, u45, u46, u47, u48, u49, u50, u51, u52, u53, u54, u55, u56, u57, u58, u59, u60, u61, u62, u63, u64, u65, u66, u67, u68, u69, u70, u71, u72, u73, u74, u75, u76, u77, u78, u79, u80, u81, u82, u83, u84, u85, u86, u87, u88, u89, u90, u91, u92, u93, u94, u95, u96, u97, u98, u99, u100, u101, u102, u103, u104, u105, u106, u107, u108, u109, u110, u111, u112, u113, u114, u115, u116, u117, u118, u119, u120, u121, u122, u123, u124, u125, u126, u127, u128, u129, u130, u131, u132, u133, u134, u135, u136, u137, u138, u139, u140, u141, u142, u143, u144, u145, u146, u147, u148, u149, u150, u151, u152, u153, u154, c155, c156, c157, c158, c159, c160, c161, c162, c163, c164, c165, c166], []⟩ wr := by
  have HBG := Lib.hid (fun sign x (j : Nat) c h1 h2 hx hj hc W => begins_is s sign j (by omega) hj h1 h2 c hc x hx W)
  have HQ := Lib.hid hQ
  clear hQ
  skip
  skip
  have hGs := hG
  obtain ⟨g0, g1, g2, gf, glt⟩ := hGs
  have gf0 := gf 0
  have gf1 := gf 1
  have gf2 := gf 2
  clear gf
  have hge : ¬ s.length ≤ kk := Nat.not_le.2 hlt
  have hI : ¬ (s.length : Int) ≤ (kk : Int) := by omega
  have hllI : (l.length : Int) ≤ 256000 := by omega
  have hkI : (kk : Int) < (s.length : Int) := by omega
  conv => arg 2; whnf
  go_upto_region 10 with fail
  go_cut [46] from 38 to 46 (fun v wx => v = .bool false ∧ wx = wr)
  case first =>
    rcases hT10 with h1 | ⟨h1, h2, h3⟩
    all_goals
      go_wp2_with fail
      go_meet
      exact ⟨rfl, rfl⟩
  case rest =>
    obtain ⟨rfl, hwc⟩ := hcut
    subst wc
    clear hT10
    have hbl := bl c
    go_wp2_with fail
    refine (HBG.out [91, 58] _ kk true (by decide) (by decide) (by first | rfl | (push_cast; omega)) (by omega) hq1 _).mono ?_
    rintro e wB ⟨rfl, hwB⟩
    subst wB
    go_wp2_with fail
    go_loopw [11] (fun v11 wr2 => ∃ x : Nat, v11 = .int .i64 x ∧ kk + 2 ≤ x ∧ x ≤ kk + 2 + i ∧ wr2 = wr) (fun v11 _ => s.length - (intOf v11).toNat)
    case atStart => exact ⟨kk + 2, by go_num, Nat.le_refl _, by omega, by trivial⟩
    case round =>
      obtain ⟨x, rfl, hx1, hx2, hwr⟩ := hrel
      subst wr
      have hxI : (x : Int) < (s.length : Int) := by omega
      have hxJ : ¬ (s.length : Int) ≤ (x : Int) := by omega
      by_cases hx3 : x < kk + 2 + i
      · go_wp2_with fail
        refine (HBG.out [58, 93] _ x false (by decide) (by decide) (by first | rfl | (push_cast; omega)) (by omega) (HNO.out x hx1 hx3) _).mono ?_
        rintro e wB ⟨rfl, hwB⟩
        subst wB
        go_wp2_with fail
        go_roundw
        case rel => exact ⟨x + 1, by go_num, by omega, by omega, by trivial⟩
        case measure => simp [intOf]; omega
      · have hx4 : kk + 2 + i = x := by omega
        rw [hx4] at he HYES
        have z1 : (0 : Int) ≤ (kk : Int) + 2 := by omega
        have z2 : (kk : Int) + 2 ≤ (x : Int) := by omega
        have z3 : (x : Int) ≤ (s.length : Int) := by omega
        go_wp2_with fail
        refine (HBG.out [58, 93] _ x true (by decide) (by decide) (by first | rfl | (push_cast; omega)) (by omega) HYES.out _).mono ?_
        rintro e wB ⟨rfl, hwB⟩
        subst wB
        go_wp2_with fail
        refine (HNM.out _).mono ?_
        rintro e w3 ⟨rfl, hb3⟩
        have hG5 := hG.below hb3 glt
        clear g0 g1 g2 gf0 gf1 gf2 hG
        have hGs := hG5
        obtain ⟨g0, g1, g2, gf, glt5⟩ := hGs
        have gf0 := gf 0
        have gf1 := gf 1
        have gf2 := gf 2
        clear gf
        go_wp2_with fail
        exact HQ.out _ _ rfl rfl hG5 hb3
set_option maxRecDepth 1000000 in
set_option maxHeartbeats 2000000 in
theorem rp_named_ok (s : List UInt8) (gl : Bool) (kk k0 : Nat) (l : List UInt8) (A : Nat) (wr : World) (K : Act → World → Prop) (Q0 : Exit → Act → World → Prop) (c1 c8 c17 c18 c19 c20 c21 c22 c23 c24 c25 c26 c27 c28 c29 c30 c31 c32 c155 c156 c157 c158 c159 c160 c161 c162 c163 c164 c165 c166 : Value) (u11 u12 u13 u14 u15 u16 u33 u34 u35 u36 u37 u38 u39 u40 u41 u42 u43 u44 u45 u46 u47 u48 u49 u50 u51 u52 u53 u54 u55 u56 u57 u58 u59 u60 u61 u62 u63 u64 u65 u66 u67 u68 u69 u70 u71 u72 u73 u74 u75 u76 u77 u78 u79 u80 u81 u82 u83 u84 u85 u86 u87 u88 u89 u90 u91 u92 u93 u94 u95 u96 u97 u98 u99 u100 u101 u102 u103 u104 u105 u106 u107 u108 u109 u110 u111 u112 u113 u114 u115 u116 u117 u118 u119 u120 u121 u122 u123 u124 u125 u126 u127 u128 u129 u130 u131 u132 u133 u134 u135 u136 u137 u138 u139 u140 u141 u142 u143 u144 u145 u146 u147 u148 u149 u150 u151 u152 u153 u154 : Value)
    (hs : s.length ≤ 1000) (hll : l.length ≤ 256000) (hlt : kk < s.length) (hks2 : kk < (S s).size)
    (hT10 : (((((S s)[kk]'hks2).toNat : Int) == 93) = false) ∨ (((((S s)[kk]'hks2).toNat : Int) == 93) = true ∧ ((S s)[kk]'hks2).toNat = 93 ∧ ¬ (k0 : Int) < (kk : Int)))
    (hG : GotAt wr A) (i : Nat) (nm : List UInt8) (c : Nat → Bool) (hi2 : kk + 2 + i + 2 ≤ s.length) (hq1 : preB (s.drop kk) [91, 58] = true) (HNO : Hid (∀ x, kk + 2 ≤ x → x < kk + 2 + i → preB (s.drop x) [58, 93] = false)) (HYES : Hid (preB (s.drop (kk + 2 + i)) [58, 93] = true)) (he : (S s).extract (kk + 2) (kk + 2 + i) = S nm) (HNM : Hid (∀ W, Calls Tryd.prog 48 #[.string (S nm)] W fun e w' => e = .returned (.tuple #[.string (S (bytesP c)), .bool true]) ∧ Below W.heap.size W w'))

    (hK : ∀ (x11 x12 x13 x14 x15 x16 x33 x34 x35 x36 x37 x38 x39 x40 x41 x42 x43 x44 x45 x46 x47 x48 x49 x50 x51 x52 x53 x54 x55 x56 x57 x58 x59 x60 x61 x62 x63 x64 x65 x66 x67 x68 x69 x70 x71 x72 x73 x74 x75 x76 x77 x78 x79 x80 x81 x82 x83 x84 x85 x86 x87 x88 x89 x90 x91 x92 x93 x94 x95 x96 x97 x98 x99 x100 x101 x102 x103 x104 x105 x106 x107 x108 x109 x110 x111 x112 x113 x114 x115 x116 x117 x118 x119 x120 x121 x122 x123 x124 x125 x126 x127 x128 x129 x130 x131 x132 x133 x134 x135 x136 x137 x138 x139 x140 x141 x142 x143 x144 x145 x146 x147 x148 x149 x150 x151 x152 x153 x154 : Value) (w1 : World), Below wr.heap.size wr w1 → GotAt w1 A → K ⟨#[.string (S s), c1, .bool gl, undef, undef, undef, .pointer (some ⟨A, 0, none⟩), .int .i64 (kk + (i + 2 + 2) : Nat), c8, .int .i64 (k0 : Nat), .string (S (l ++ bytesP c)), x11, x12, x13, x14, x15, x16, c17, c18, c19, c20, c21, c22, c23, c24, c25, c26, c27, c28, c29, c30, c31, c32, x33, x34, x35, x36, x37, x38, x39, x40, x41, x42, x43, x44, x45, x46, x47, x48, x49, x50, x51, x52, x53, x54, x55, x56, x57, x58, x59, x60, x61, x62, x63, x64, x65, x66, x67, x68, x69, x70, x71, x72, x73, x74, x75, x76, x77, x78, x79, x80, x81, x82, x83, x84, x85, x86, x87, x88, x89, x90, x91, x92, x93, x94, x95, x96, x97, x98, x99, x100, x101, x102, x103, x104, x105, x106, x107, x108, x109, x110, x111, x112, x113, x114, x115, x116, x117, x118, x119, x120, x121, x122, x123, x124, x125, x126, x127, x128, x129, x130, x131, x132, x133, x134, x135, x136, x137, x138, x139, x140, x141, x142, x143, x144, x145, x146, x147, x148, x149, x150, x151, x152, x153, x154, c155, c156, c157, c158, c159, c160, c161, c162, c163, c164, c165, c166], []⟩ w1) :
    Code.wp Tryd.prog rbody (Exit.then K Q0) ⟨#[.string (S s), c1, .bool gl, undef, undef, undef, .pointer (some ⟨A, 0, none⟩), .int .i64 (kk : Nat), c8, .int .i64 (k0 : Nat), .string (S (l)), u11, u12, u13, u14, u15, u16, c17, c18, c19, c20, c21, c22, c23, c24, c25, c26, c27, c28, c29, c30, c31, c32, u33, u34, u35, u36, u37, u38, u39, u40, u41, u42, u43, u44, u45, u46, u47, u48, u49, u50, u51, u52, u53, u54, u55, u56, u57, u58, u59, u60, u61, u62, u63, u64, u65, u66, u67, u68, u69, u70, u71, u72, u73, u74, u75, u76, u77, u78, u79, u80, u81, u82, u83, u84, u85, u86, u87, u88, u89, u90, u91, u92, u93, u94, u95, u96, u97, u98, u99, u100, u101, u102, u103, u104, u105, u106, u107, u108, u109, u110, u111, u112, u113, u114, u115, u116, u117, u118, u119, u120, u121, u122, u123, u124, u125, u126, u127, u128, u129, u130, u131, u132, u133, u134, u135, u136, u137, u138, u139, u140, u141, u142, u143, u144, u145, u146, u147, u148, u149, u150, u151, u152, u153, u154, c155, c156, c157, c158, c159, c160, c161, c162, c163, c164, c165, c166], []⟩ wr := by
  have HBG := Lib.hid (fun sign x (j : Nat) c h1 h2 hx hj hc W => begins_is s sign j (by omega) hj h1 h2 c hc x hx W)
  skip
  skip
  have HK := Lib.hid hK
  clear hK
  have hGs := hG
  obtain ⟨g0, g1, g2, gf, glt⟩ := hGs
  have gf0 := gf 0
  have gf1 := gf 1
  have gf2 := gf 2
  clear gf
  have hge : ¬ s.length ≤ kk := Nat.not_le.2 hlt
  have hI : ¬ (s.length : Int) ≤ (kk : Int) := by omega
  have hllI : (l.length : Int) ≤ 256000 := by omega
  have hkI : (kk : Int) < (s.length : Int) := by omega
  conv => arg 2; whnf
  go_upto_region 10 with fail
  go_cut [46] from 38 to 46 (fun v wx => v = .bool false ∧ wx = wr)
  case first =>
    rcases hT10 with h1 | ⟨h1, h2, h3⟩
    all_goals
      go_wp2_with fail
      go_meet
      exact ⟨rfl, rfl⟩
  case rest =>
    obtain ⟨rfl, hwc⟩ := hcut
    subst wc
    clear hT10
    have hbl := bl c
    go_wp2_with fail
    refine (HBG.out [91, 58] _ kk true (by decide) (by decide) (by first | rfl | (push_cast; omega)) (by omega) hq1 _).mono ?_
    rintro e wB ⟨rfl, hwB⟩
    subst wB
    go_wp2_with fail
    go_loopw [11] (fun v11 wr2 => ∃ x : Nat, v11 = .int .i64 x ∧ kk + 2 ≤ x ∧ x ≤ kk + 2 + i ∧ wr2 = wr) (fun v11 _ => s.length - (intOf v11).toNat)
    case atStart => exact ⟨kk + 2, by go_num, Nat.le_refl _, by omega, by trivial⟩
    case round =>
      obtain ⟨x, rfl, hx1, hx2, hwr⟩ := hrel
      subst wr
      have hxI : (x : Int) < (s.length : Int) := by omega
      have hxJ : ¬ (s.length : Int) ≤ (x : Int) := by omega
      by_cases hx3 : x < kk + 2 + i
      · go_wp2_with fail
        refine (HBG.out [58, 93] _ x false (by decide) (by decide) (by first | rfl | (push_cast; omega)) (by omega) (HNO.out x hx1 hx3) _).mono ?_
        rintro e wB ⟨rfl, hwB⟩
        subst wB
        go_wp2_with fail
        go_roundw
        case rel => exact ⟨x + 1, by go_num, by omega, by omega, by trivial⟩
        case measure => simp [intOf]; omega
      · have hx4 : kk + 2 + i = x := by omega
        rw [hx4] at he HYES
        have z1 : (0 : Int) ≤ (kk : Int) + 2 := by omega
        have z2 : (kk : Int) + 2 ≤ (x : Int) := by omega
        have z3 : (x : Int) ≤ (s.length : Int) := by omega
        go_wp2_with fail
        refine (HBG.out [58, 93] _ x true (by decide) (by decide) (by first | rfl | (push_cast; omega)) (by omega) HYES.out _).mono ?_
        rintro e wB ⟨rfl, hwB⟩
        subst wB
        go_wp2_with fail
        refine (HNM.out _).mono ?_
        rintro e w3 ⟨rfl, hb3⟩
        have hG5 := hG.below hb3 glt
        clear g0 g1 g2 gf0 gf1 gf2 hG
        have hGs := hG5
        obtain ⟨g0, g1, g2, gf, glt5⟩ := hGs
        have gf0 := gf 0
        have gf1 := gf 1
        have gf2 := gf 2
        clear gf
        go_wp2_with fail
        have e1 : (x : Int) + 2 = ((kk + (i + 2 + 2) : Nat) : Int) := by omega
        rw [e1, S_append]
        exact HK.out _ _ _ _ _ _ _ _ _ _ _ _ _ _ _ _ _ _ _ _ _ _ _ _ _ _ _ _ _ _ _ _ _ _ _ _ _ _ _ _ _ _ _ _ _ _ _ _ _ _ _ _ _ _ _ _ _ _ _ _ _ _ _ _ _ _ _ _ _ _ _ _ _ _ _ _ _ _ _ _ _ _ _ _ _ _ _ _ _ _ _ _ _ _ _ _ _ _ _ _ _ _ _ _ _ _ _ _ _ _ _ _ _ _ _ _ _ _ _ _ _ _ _ _ _ _ _ _ _ hb3 hG5
set_option maxRecDepth 1000000 in
set_option maxHeartbeats 2000000 in
theorem rp_equal_none (s : List UInt8) (gl : Bool) (kk k0 : Nat) (l : List UInt8) (A : Nat) (wr : World) (K : Act → World → Prop) (Q0 : Exit → Act → World → Prop) (c1 c8 c17 c18 c19 c20 c21 c22 c23 c24 c25 c26 c27 c28 c29 c30 c31 c32 c155 c156 c157 c158 c159 c160 c161 c162 c163 c164 c165 c166 : Value) (u11 u12 u13 u14 u15 u16 u33 u34 u35 u36 u37 u38 u39 u40 u41 u42 u43 u44 u45 u46 u47 u48 u49 u50 u51 u52 u53 u54 u55 u56 u57 u58 u59 u60 u61 u62 u63 u64 u65 u66 u67 u68 u69 u70 u71 u72 u73 u74 u75 u76 u77 u78 u79 u80 u81 u82 u83 u84 u85 u86 u87 u88 u89 u90 u91 u92 u93 u94 u95 u96 u97 u98 u99 u100 u101 u102 u103 u104 u105 u106 u107 u108 u109 u110 u111 u112 u113 u114 u115 u116 u117 u118 u119 u120 u121 u122 u123 u124 u125 u126 u127 u128 u129 u130 u131 u132 u133 u134 u135 u136 u137 u138 u139 u140 u141 u142 u143 u144 u145 u146 u147 u148 u149 u150 u151 u152 u153 u154 : Value)
    (hs : s.length ≤ 1000) (hll : l.length ≤ 256000) (hlt : kk < s.length) (hks2 : kk < (S s).size)
    (hT10 : (((((S s)[kk]'hks2).toNat : Int) == 93) = false) ∨ (((((S s)[kk]'hks2).toNat : Int) == 93) = true ∧ ((S s)[kk]'hks2).toNat = 93 ∧ ¬ (k0 : Int) < (kk : Int)))
    (hG : GotAt wr A) (hq1 : preB (s.drop kk) [91, 58] = false) (hq2 : preB (s.drop kk) [91, 61] = true) (hno : preB (s.drop (kk + 3)) [61, 93] = false)
    (hQ : ∀ (a : Act) (w1 : World), a.tmps.getD 6 undef = .pointer (some ⟨A, 0, none⟩) → a.defers = [] → GotAt w1 A → Below wr.heap.size wr w1 → Q0 .ret a (((w1.setCell ⟨A, 0, none⟩ (.string ⟨#[]⟩)).setCell ⟨A, 1, none⟩ (.int .i64 0)).setCell ⟨A, 2, none⟩ (.bool false))) :
    Code.wp Tryd.prog rbody (Exit.then K Q0) ⟨#[.string (S s), c1, .bool gl, undef, undef, undef, .pointer (some ⟨A, 0, none⟩), .int .i64 (kk : Nat), c8, .int .i64 (k0 : Nat), .string (S (l)), u11, u12, u13, u14, u15, u16, c17, c18, c19, c20, c21, c22, c23, c24, c25, c26, c27, c28, c29, c30, c31, c32, u33, u34, u35, u36, u37, u38, u39, u40, u41, u42, u43, u44, u45, u46, u47, u48, u49, u50, u51, u52, u53, u54, u55, u56, u57, u58, u59, u60, u61, u62, u63, u64, u65, u66, u67, u68, u69, u70, u71, u72, u73, u74, u75, u76, u77, u78, u79, u80, u81, u82, u83, u84, u85, u86, u87, u88, u89, u90, u91, u92, u93, u94, u95, u96, u97, u98, u99, u100, u101, u102, u103, u104, u105, u106, u107, u108, u109, u110, u111, u112, u113, u114, u115, u116, u117, u118, u119, u120, u121, u122, u123, u124, u125, u126, u127, u128, u129, u130, u131, u132, u133, u134, u135, u136, u137, u138, u139, u140, u141, u142, u143, u144, u145, u146, u147, u148, u149, u150, u151, u152, u153, u154, c155, c156, c157, c158, c159, c160, c161, c162, c163, c164, c165, c166], []⟩ wr := by
  have HBG := Lib.hid (fun sign x (j : Nat) c h1 h2 hx hj hc W => begins_is s sign j (by omega) hj h1 h2 c hc x hx W)
  have HQ := Lib.hid hQ
  clear hQ
  skip
  skip
  have hGs := hG
  obtain ⟨g0, g1, g2, gf, glt⟩ := hGs
  have gf0 := gf 0
  have gf1 := gf 1
  have gf2 := gf 2
  clear gf
  have hge : ¬ s.length ≤ kk := Nat.not_le.2 hlt
  have hI : ¬ (s.length : Int) ≤ (kk : Int) := by omega
  have hllI : (l.length : Int) ≤ 256000 := by omega
  have hkI : (kk : Int) < (s.length : Int) := by omega
  conv => arg 2; whnf
  go_upto_region 10 with fail
  go_cut [46] from 38 to 46 (fun v wx => v = .bool false ∧ wx = wr)
  case first =>
    rcases hT10 with h1 | ⟨h1, h2, h3⟩
    all_goals
      go_wp2_with fail
      go_meet
      exact ⟨rfl, rfl⟩
  case rest =>
    obtain ⟨rfl, hwc⟩ := hcut
    subst wc
    clear hT10
    go_wp2_with fail
    refine (HBG.out [91, 58] _ kk false (by decide) (by decide) (by first | rfl | (push_cast; omega)) (by omega) hq1 _).mono ?_
    rintro e wB ⟨rfl, hwB⟩
    subst wB
    go_wp2_with fail
    refine (HBG.out [91, 61] _ kk true (by decide) (by decide) (by first | rfl | (push_cast; omega)) (by omega) hq2 _).mono ?_
    rintro e wB ⟨rfl, hwB⟩
    subst wB
    go_wp2_with fail
    refine (HBG.out [61, 93] _ (kk + 3) false (by decide) (by decide) (by first | rfl | (push_cast; omega)) (by omega) hno _).mono ?_
    rintro e wB ⟨rfl, hwB⟩
    subst wB
    go_wp2_with fail
    exact HQ.out _ _ rfl rfl hG (Below.refl _ _)
set_option maxRecDepth 1000000 in
set_option maxHeartbeats 2000000 in
theorem rp_equal_ok (s : List UInt8) (gl : Bool) (kk k0 : Nat) (l : List UInt8) (A : Nat) (wr : World) (K : Act → World → Prop) (Q0 : Exit → Act → World → Prop) (c1 c8 c17 c18 c19 c20 c21 c22 c23 c24 c25 c26 c27 c28 c29 c30 c31 c32 c155 c156 c157 c158 c159 c160 c161 c162 c163 c164 c165 c166 : Value) (u11 u12 u13 u14 u15 u16 u33 u34 u35 u36 u37 u38 u39 u40 u41 u42 u43 u44 u45 u46 u47 u48 u49 u50 u51 u52 u53 u54 u55 u56 u57 u58 u59 u60 u61 u62 u63 u64 u65 u66 u67 u68 u69 u70 u71 u72 u73 u74 u75 u76 u77 u78 u79 u80 u81 u82 u83 u84 u85 u86 u87 u88 u89 u90 u91 u92 u93 u94 u95 u96 u97 u98 u99 u100 u101 u102 u103 u104 u105 u106 u107 u108 u109 u110 u111 u112 u113 u114 u115 u116 u117 u118 u119 u120 u121 u122 u123 u124 u125 u126 u127 u128 u129 u130 u131 u132 u133 u134 u135 u136 u137 u138 u139 u140 u141 u142 u143 u144 u145 u146 u147 u148 u149 u150 u151 u152 u153 u154 : Value)
    (hs : s.length ≤ 1000) (hll : l.length ≤ 256000) (hlt : kk < s.length) (hks2 : kk < (S s).size)
    (hT10 : (((((S s)[kk]'hks2).toNat : Int) == 93) = false) ∨ (((((S s)[kk]'hks2).toNat : Int) == 93) = true ∧ ((S s)[kk]'hks2).toNat = 93 ∧ ¬ (k0 : Int) < (kk : Int)))
    (hG : GotAt wr A) (b : UInt8) (h3 : kk + 5 ≤ s.length) (hq1 : preB (s.drop kk) [91, 58] = false) (hq2 : preB (s.drop kk) [91, 61] = true) (hyes : preB (s.drop (kk + 3)) [61, 93] = true) (he : (S s).extract (kk + 2) (kk + 3) = S [b])

    (hK : ∀ (x11 x12 x13 x14 x15 x16 x33 x34 x35 x36 x37 x38 x39 x40 x41 x42 x43 x44 x45 x46 x47 x48 x49 x50 x51 x52 x53 x54 x55 x56 x57 x58 x59 x60 x61 x62 x63 x64 x65 x66 x67 x68 x69 x70 x71 x72 x73 x74 x75 x76 x77 x78 x79 x80 x81 x82 x83 x84 x85 x86 x87 x88 x89 x90 x91 x92 x93 x94 x95 x96 x97 x98 x99 x100 x101 x102 x103 x104 x105 x106 x107 x108 x109 x110 x111 x112 x113 x114 x115 x116 x117 x118 x119 x120 x121 x122 x123 x124 x125 x126 x127 x128 x129 x130 x131 x132 x133 x134 x135 x136 x137 x138 x139 x140 x141 x142 x143 x144 x145 x146 x147 x148 x149 x150 x151 x152 x153 x154 : Value) (w1 : World), Below wr.heap.size wr w1 → GotAt w1 A → K ⟨#[.string (S s), c1, .bool gl, undef, undef, undef, .pointer (some ⟨A, 0, none⟩), .int .i64 (kk + 5 : Nat), c8, .int .i64 (k0 : Nat), .string (S (l ++ [b])), x11, x12, x13, x14, x15, x16, c17, c18, c19, c20, c21, c22, c23, c24, c25, c26, c27, c28, c29, c30, c31, c32, x33, x34, x35, x36, x37, x38, x39, x40, x41, x42, x43, x44, x45, x46, x47, x48, x49, x50, x51, x52, x53, x54, x55, x56, x57, x58, x59, x60, x61, x62, x63, x64, x65, x66, x67, x68, x69, x70, x71, x72, x73, x74, x75, x76, x77, x78, x79, x80, x81, x82, x83, x84, x85, x86, x87, x88, x89, x90, x91, x92, x93, x94, x95, x96, x97, x98, x99, x100, x101, x102, x103, x104, x105, x106, x107, x108, x109, x110, x111, x112, x113, x114, x115, x116, x117, x118, x119, x120, x121, x122, x123, x124, x125, x126, x127, x128, x129, x130, x131, x132, x133, x134, x135, x136, x137, x138, x139, x140, x141, x142, x143, x144, x145, x146, x147, x148, x149, x150, x151, x152, x153, x154, c155, c156, c157, c158, c159, c160, c161, c162, c163, c164, c165, c166], []⟩ w1) :
    Code.wp Tryd.prog rbody (Exit.then K Q0) ⟨#[.string (S s), c1, .bool gl, undef, undef, undef, .pointer (some ⟨A, 0, none⟩), .int .i64 (kk : Nat), c8, .int .i64 (k0 : Nat), .string (S (l)), u11, u12, u13, u14, u15, u16, c17, c18, c19, c20, c21, c22, c23, c24, c25, c26, c27, c28, c29, c30, c31, c32, u33, u34, u35, u36, u37, u38, u39, u40, u41, u42, u43, u44, u45, u46, u47, u48, u49, u50, u51, u52, u53, u54, u55, u56, u57, u58, u59, u60, u61, u62, u63, u64, u65, u66, u67, u68, u69, u70, u71, u72, u73, u74, u75, u76, u77, u78, u79, u80, u81, u82, u83, u84, u85, u86, u87, u88, u89, u90, u91, u92, u93, u94, u95, u96, u97, u98, u99, u100, u101, u102, u103, u104, u105, u106, u107, u108, u109, u110, u111, u112, u113, u114, u115, u116, u117, u118, u119, u120, u121, u122, u123, u124, u125, u126, u127, u128, u129, u130, u131, u132, u133, u134, u135, u136, u137, u138, u139, u140, u141, u142, u143, u144, u145, u146, u147, u148, u149, u150, u151, u152, u153, u154, c155, c156, c157, c158, c159, c160, c161, c162, c163, c164, c165, c166], []⟩ wr := by
  have HBG := Lib.hid (fun sign x (j : Nat) c h1 h2 hx hj hc W => begins_is s sign j (by omega) hj h1 h2 c hc x hx W)
  skip
  skip
  have HK := Lib.hid hK
  clear hK
  have hGs := hG
  obtain ⟨g0, g1, g2, gf, glt⟩ := hGs
  have gf0 := gf 0
  have gf1 := gf 1
  have gf2 := gf 2
  clear gf
  have hge : ¬ s.length ≤ kk := Nat.not_le.2 hlt
  have hI : ¬ (s.length : Int) ≤ (kk : Int) := by omega
  have hllI : (l.length : Int) ≤ 256000 := by omega
  have hkI : (kk : Int) < (s.length : Int) := by omega
  conv => arg 2; whnf
  go_upto_region 10 with fail
  go_cut [46] from 38 to 46 (fun v wx => v = .bool false ∧ wx = wr)
  case first =>
    rcases hT10 with h1 | ⟨h1, h2, h3⟩
    all_goals
      go_wp2_with fail
      go_meet
      exact ⟨rfl, rfl⟩
  case rest =>
    obtain ⟨rfl, hwc⟩ := hcut
    subst wc
    clear hT10
    have z1 : (0 : Int) ≤ (kk : Int) + 2 := by omega
    have z2 : (kk : Int) + 2 ≤ (kk : Int) + 3 := by omega
    have z3 : (kk : Int) + 3 ≤ (s.length : Int) := by omega
    go_wp2_with fail
    refine (HBG.out [91, 58] _ kk false (by decide) (by decide) (by first | rfl | (push_cast; omega)) (by omega) hq1 _).mono ?_
    rintro e wB ⟨rfl, hwB⟩
    subst wB
    go_wp2_with fail
    refine (HBG.out [91, 61] _ kk true (by decide) (by decide) (by first | rfl | (push_cast; omega)) (by omega) hq2 _).mono ?_
    rintro e wB ⟨rfl, hwB⟩
    subst wB
    go_wp2_with fail
    refine (HBG.out [61, 93] _ (kk + 3) true (by decide) (by decide) (by first | rfl | (push_cast; omega)) (by omega) hyes _).mono ?_
    rintro e wB ⟨rfl, hwB⟩
    subst wB
    go_wp2_with fail
    rw [S_append]
    exact HK.out _ _ _ _ _ _ _ _ _ _ _ _ _ _ _ _ _ _ _ _ _ _ _ _ _ _ _ _ _ _ _ _ _ _ _ _ _ _ _ _ _ _ _ _ _ _ _ _ _ _ _ _ _ _ _ _ _ _ _ _ _ _ _ _ _ _ _ _ _ _ _ _ _ _ _ _ _ _ _ _ _ _ _ _ _ _ _ _ _ _ _ _ _ _ _ _ _ _ _ _ _ _ _ _ _ _ _ _ _ _ _ _ _ _ _ _ _ _ _ _ _ _ _ _ _ _ _ _ _ (Below.refl _ _) hG
end Go.Proofs.YtphfcebacilbbaaDoor
