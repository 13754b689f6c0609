/- listing.Line. A time's word, the document's way: the plain law. The document's number in decimal digits; two digits; an owner. The document's word of a time. The document's word of a time that may be. The document's line. The document's Long: is a member too long? listing.texts: one quoted text, or two, read into places of one block. listing.ParseLine of a line. append of one value on a slice of the call's own, as one step of a region that draws its order. listing.ParseLine of a line that has no link. listing.ParseLine of a line that has a link. What a line's parts are: the plain law of lines read again; two rows held against each other. The law ListingLines, walked. The law ListingLines of a member of a known kind; the law whole. What opens a member, and a slice of members, among the arguments. -/
import Derived.Test.YtjldphpdfckjnaaDoorLineA
import Derived.Test.YtjldphpdfckjnaaDoorLineP
import Derived.Test.YtjldphpdfckjnaaDoorRdigW
import Derived.Test.YtjldphpdfckjnaaDoorTm
import Derived.Test.YtjldphpdfckjnaaDoorCat
import Derived.Test.YtjldphpdfckjnaaDoorWhenF2
import Derived.Test.YtjldphpdfckjnaaDoorRightS
import Derived.Test.YtjldphpdfckjnaaDoorRquote
import Derived.Test.YtjldphpdfckjnaaDoorRrights
import Derived.Test.YtjldphpdfckjnaaDoorPairV
import Derived.Test.YtjldphpdfckjnaaDoorOwnV
import Derived.Test.YtjldphpdfckjnaaDoorRowAt
import Derived.Test.YtjldphpdfckjnaaDoorCutC
import Derived.Deep.RegionLaw
import Derived.Test.YtjldphpdfckjnaaDoorAwake36
import Derived.Test.YtjldphpdfckjnaaDoorAnd4095
import Derived.Test.YtjldphpdfckjnaaDoorPost3
import Derived.SizedLaws
import Derived.Lib.SmallJoins
namespace Go.Proofs.YtjldphpdfckjnaaDoor
open Go.RowKit Go.Lib

/-- a member -/
structure MemL where
  name : List UInt8
  link : List UInt8
  kind : UInt8
  mode : Int
  uid : Int
  gid : Int
  uname : List UInt8
  gname : List UInt8
  major : Int
  minor : Int
  sec : Int
  nsec : Int
  extra : Value
  data : List UInt8
def MC (m : MemL) : List Value := [.string (S m.name), .string (S m.link), .int .u8 m.kind.toNat, .int .i64 m.mode, .int .i64 m.uid, .int .i64 m.gid, .string (S m.uname), .string (S m.gname), .int .i64 m.major, .int .i64 m.minor, .int .i64 m.sec, .int .i64 m.nsec, m.extra, .string (S m.data)]
structure OkM (m : MemL) : Prop where
  name : m.name.length ≤ 600
  link : m.link.length ≤ 600
  uname : m.uname.length ≤ 100
  gname : m.gname.length ≤ 100
  mode : I64 m.mode
  uid : I64 m.uid
  gid : I64 m.gid
  major : I64 m.major
  minor : I64 m.minor
  sec : I64 m.sec
  nsec : I64 m.nsec
/-- what a line says of a link -/
def linkL (m : MemL) : List UInt8 := if arrowL m.kind = [] then [] else arrowL m.kind ++ quoteF true m.link
noncomputable def lineL (m : MemL) (size : Int) : List UInt8 :=
  rightsL m.mode m.kind ++ 32 :: (ownerL m.uname m.uid ++ 47 :: (ownerL m.gname m.gid ++ 32 :: (muchL m.kind size m.major m.minor ++ 32 :: (clkL m.sec m.nsec ++ 32 :: (quoteF true m.name ++ linkL m)))))
def LineE (m : MemL) (size : Int) (e : Ending) : Prop := ClkP m.sec m.nsec (clkL m.sec m.nsec) ∧ e = .returned (.string (S (lineL m size)))
theorem mem_keep {g B : Nat} {T : TypeId} {m : MemL} {w W : World} (h : AtB W g T (MC m) ∧ Below B w W) :
    W.cell? ⟨g, 0, none⟩ = some (.string (S m.name)) ∧ W.cell? ⟨g, 2, none⟩ = some (.int .u8 m.kind.toNat) ∧ W.cell? ⟨g, 3, none⟩ = some (.int .i64 m.mode) ∧ W.cell? ⟨g, 4, none⟩ = some (.int .i64 m.uid) ∧ W.cell? ⟨g, 5, none⟩ = some (.int .i64 m.gid)
      ∧ W.cell? ⟨g, 6, none⟩ = some (.string (S m.uname)) ∧ W.cell? ⟨g, 7, none⟩ = some (.string (S m.gname)) ∧ W.cell? ⟨g, 8, none⟩ = some (.int .i64 m.major) ∧ W.cell? ⟨g, 9, none⟩ = some (.int .i64 m.minor) ∧ W.cell? ⟨g, 10, none⟩ = some (.int .i64 m.sec) ∧ W.cell? ⟨g, 11, none⟩ = some (.int .i64 m.nsec) ∧ AtB W g T (MC m) ∧ Below B w W :=
  ⟨h.1.cell 0, h.1.cell 2, h.1.cell 3, h.1.cell 4, h.1.cell 5, h.1.cell 6, h.1.cell 7, h.1.cell 8, h.1.cell 9, h.1.cell 10, h.1.cell 11, h⟩
theorem clk_len {s n : Int} {l : List UInt8} (h : ClkP s n l) (hs : I64 s) (hn : I64 n) : l.length ≤ 50 := by
  rcases h with ⟨h1, Y, M, D, q1, q2, rfl⟩ | ⟨_, rfl⟩
  · obtain ⟨m1, m2, m3, m4, m5, m6⟩ := (may_iff _ _ _).1 q1
    have hl := lenI_31 Y M
    unfold dayB at h1
    simp only [Bool.and_eq_true] at h1
    obtain ⟨g1, g2, g3, g4⟩ := (right_iff s n).1 h1.1.1
    have hR : (s % 86400).toNat < 86400 := by omega
    have h1 := textW_len Y M D ((s % 86400).toNat / 3600) ((s % 86400).toNat / 60 % 60) ((s % 86400).toNat % 60) n.toNat (by omega) (by omega) (by omega) (by omega) (by omega) (by omega) (by omega)
    have e : (textT Y M D ((s % 86400).toNat / 3600) ((s % 86400).toNat / 60 % 60) ((s % 86400).toNat % 60) n.toNat).length = (textW Y M D ((s % 86400).toNat / 3600) ((s % 86400).toNat / 60 % 60) ((s % 86400).toNat % 60) n.toNat).length := by
      rw [textW_two]; unfold textT; simp
    omega
  · have l1 := itoa_len s hs.1 hs.2
    have l2 := itoa_len n hn.1 hn.2
    simp only [List.length_cons, List.length_append]
    omega
theorem arrowL_len (k : UInt8) : (arrowL k).length ≤ 4 := by
  unfold arrowL
  split
  · exact Nat.le_refl _
  · split
    · exact Nat.le_refl _
    · exact Nat.zero_le _
open Classical in
theorem clkL_len (s n : Int) (hs : I64 s) (hn : I64 n) : (clkL s n).length ≤ 50 := by
  by_cases h : ∃ l, ClkP s n l
  · obtain ⟨l, hl⟩ := h
    exact clk_len (clk_eq hl).1 hs hn
  · unfold clkL; rw [dif_neg h]; simp
theorem muchL_len (k : UInt8) (size ma mi : Int) (h0 : I64 size) (h1 : I64 ma) (h2 : I64 mi) : (muchL k size ma mi).length ≤ 41 := by
  have l0 := itoa_len size h0.1 h0.2
  have l1 := itoa_len ma h1.1 h1.2
  have l2 := itoa_len mi h2.1 h2.2
  unfold muchL
  split
  · simp only [List.length_append, List.length_cons]; omega
  · omega
/-- the parts of a line, put together one by one -/
theorem line_parts (r o g u c q k : List UInt8) (z1 z2 z3 z4 z5 z6 z7 z8 z9 z10 z11 : List UInt8) (h1 : z1 = r ++ [32]) (h2 : z2 = z1 ++ o) (h3 : z3 = z2 ++ [47]) (h4 : z4 = z3 ++ g) (h5 : z5 = z4 ++ [32]) (h6 : z6 = z5 ++ u) (h7 : z7 = z6 ++ [32]) (h8 : z8 = z7 ++ c) (h9 : z9 = z8 ++ [32]) (h10 : z10 = z9 ++ q) (h11 : z11 = z10 ++ k) :
    z11 = r ++ 32 :: (o ++ 47 :: (g ++ 32 :: (u ++ 32 :: (c ++ 32 :: (q ++ k))))) := by
  subst h1 h2 h3 h4 h5 h6 h7 h8 h9 h10 h11
  simp
def devB (k : UInt8) : Bool := (k.toNat : Int) == 51 || (k.toNat : Int) == 52
theorem dev_cases (k : UInt8) : (devB k = true ∧ ((k.toNat : Int) == 51) = true) ∨ (devB k = true ∧ ((k.toNat : Int) == 51) = false ∧ ((k.toNat : Int) == 52) = true) ∨ (devB k = false ∧ ((k.toNat : Int) == 51) = false ∧ ((k.toNat : Int) == 52) = false) := by
  unfold devB
  cases h1 : ((k.toNat : Int) == 51) <;> cases h2 : ((k.toNat : Int) == 52) <;> simp
theorem dev_yes (k : UInt8) (h : devB k = true) : k = 51 ∨ k = 52 := by
  unfold devB at h
  rcases Bool.or_eq_true _ _ |>.mp h with h | h
  · exact .inl (UInt8.toNat_inj.1 (by have := beq_iff_eq.1 h; show k.toNat = 51; omega))
  · exact .inr (UInt8.toNat_inj.1 (by have := beq_iff_eq.1 h; show k.toNat = 52; omega))
theorem dev_not (k : UInt8) (h : devB k = false) : ¬ (k = 51 ∨ k = 52) := by
  rintro (rfl | rfl) <;> cases h
set_option maxRecDepth 100000 in
set_option maxHeartbeats 8000000 in
theorem line_any (m : MemL) (size : Int) (hm : OkM m) (hsz : I64 size) (w : World) (hT : TM w) :
    Calls Tryd.prog 22 #[.agg (MC m).toArray, .int .i64 size] w fun e w' => LineE m size e ∧ Below w.heap.size w w' := by
  have HA := Lib.hid (AtB.new w 55 (MC m))
  have HB := Lib.hid ((Below.refl w.heap.size w).alloc (Nat.le_refl _) (.cells (MC m).toArray 55))
  have HT := Lib.hid (fun W (h : Below w.heap.size w W) => hT.on h)
  have HI := Lib.hid (fun n (h : I64 n) W (hW : Below w.heap.size w W) => itoaI_any n h W (hT.on hW))
  have hBs : w.heap.size ≤ w.heap.size := Nat.le_refl _
  have HM := Lib.hid hm
  have HS := Lib.hid hsz
  clear hT hm hsz
  go_enter Tryd.func22, Tryd.ntmps22
  go_wp2_with fail
  refine (HI.out size HS.out _ HB.out).mono ?_
  rintro e w1 ⟨rfl, hb1⟩
  have x0 : AtB w1 w.heap.size 55 (MC m) ∧ Below w.heap.size w w1 := ⟨HA.out.below hb1, chain HB.out hb1⟩
  generalize hg : w.heap.size = g at *
  have hg2 : g ≤ w.heap.size := by omega
  clear HA HB hb1 hBs
  have lS := itoa_len size HS.out.1 HS.out.2
  have lA := itoa_len m.major HM.out.major.1 HM.out.major.2
  have lI := itoa_len m.minor HM.out.minor.1 HM.out.minor.2
  have HMU := Lib.hid (show ∀ k, muchL k size m.major m.minor = if k = 51 ∨ k = 52 then itoa m.major ++ 44 :: itoa m.minor else itoa size from fun k => rfl)
  obtain ⟨-, c2, -⟩ := mem_keep x0
  have HX := Lib.hid x0
  clear x0
  go_upto_region 2 with (fail)
  go_cut [17] (fun v wx => v = .bool (devB m.kind) ∧ wx = w1)
  case first =>
    rcases dev_cases m.kind with ⟨hd, t1⟩ | ⟨hd, t1, t2⟩ | ⟨hd, t1, t2⟩
    all_goals
      have HD := Lib.hid hd
      clear hd
      go_wp2_with fail
      go_meet
      exact ⟨by rw [HD.out], rfl⟩
  case rest =>
    obtain ⟨rfl, rfl⟩ := hcut
    clear c2
    go_upto_if 17 with (fail)
    go_cut [5] (fun v wx => v = .string (S (muchL m.kind size m.major m.minor)) ∧ AtB wx g 55 (MC m) ∧ Below g w wx)
    case first =>
      have HIA := Lib.hid (fun W (hW : Below g w W) => HI.out m.major HM.out.major W hW)
      have HII := Lib.hid (fun W (hW : Below g w W) => HI.out m.minor HM.out.minor W hW)
      obtain ⟨z1, hz1⟩ : ∃ z, z = itoa m.major ++ [44] := ⟨_, rfl⟩
      obtain ⟨z2, hz2⟩ : ∃ z, z = z1 ++ itoa m.minor := ⟨_, rfl⟩
      have HZ := Lib.hid (show z2 = itoa m.major ++ 44 :: itoa m.minor by rw [hz2, hz1]; simp)
      have k1 := cat_k1 (itoa m.major) 44 z1 hz1 (by omega)
      have m1 : z1.length ≤ 21 := by rw [hz1, List.length_append, List.length_singleton]; omega
      have k2 := cat_s z1 (itoa m.minor) z2 hz2 (by omega)
      clear hz1 hz2
      generalize itoa m.major = A at *
      generalize itoa m.minor = I at *
      generalize itoa size = Z at *
      cases hd : devB m.kind
      · have HU := Lib.hid (show Z = muchL m.kind size m.major m.minor by rw [HMU.out, if_neg (dev_not _ hd)])
        clear HMU HZ k1 k2
        go_wp2_with fail
        go_meet
        exact ⟨by rw [← HU.out], HX.out⟩
      · have HU := Lib.hid (show z2 = muchL m.kind size m.major m.minor by rw [HMU.out, if_pos (dev_yes _ hd), HZ.out])
        clear HMU HZ
        go_wp2_with fail
        have x0 : AtB wc.drew g 55 (MC m) ∧ Below g w wc.drew := ⟨HX.out.1.drew, HX.out.2.drew⟩
        clear HX
        go_region_held3 (fun W => W.cell? ⟨g, 8, none⟩ = some (.int .i64 m.major) ∧ W.cell? ⟨g, 9, none⟩ = some (.int .i64 m.minor) ∧ AtB W g 55 (MC m) ∧ Below g w W) (exact ((mem_keep (by assumption)).2.2.2.2.2.2.2 |> fun h => ⟨h.1, h.2.1, h.2.2.2.2⟩)) (first
          | (go_at_call 43; refine (HIA.out _ (by first | exact (And.right (by assumption)) | exact x0.2)).mono ?_; rintro e w2 ⟨rfl, hb2⟩; have x0 := at_next x0 hb2 hg2)
          | (go_at_call 43; refine (HII.out _ (by first | exact (And.right (by assumption)) | exact x0.2)).mono ?_; rintro e w2 ⟨rfl, hb2⟩; have x0 := at_next x0 hb2 hg2))
        go_wp2_with fail
        go_meet
        exact ⟨by rw [← HU.out], x0⟩
    case rest =>
      obtain ⟨rfl, x0⟩ := hcut
      clear HX HMU lS lA lI HI
      have lR := rights_len m.mode m.kind
      have HRI := Lib.hid (fun W => rights_any m.mode m.kind W)
      have HOU := Lib.hid (fun W (hW : Below g w W) => owner_any m.uname m.uid (by have := HM.out.uname; omega) HM.out.uid W (HT.out W hW))
      have HOG := Lib.hid (fun W (hW : Below g w W) => owner_any m.gname m.gid (by have := HM.out.gname; omega) HM.out.gid W (HT.out W hW))
      have HCK := Lib.hid (fun W (hW : Below g w W) => clock_any m.sec m.nsec HM.out.sec HM.out.nsec W (HT.out W hW))
      have HQN := Lib.hid (fun W => quote_any (S m.name) true W (by rw [S_size]; have := HM.out.name; omega))
      have HQL := Lib.hid (fun W => quote_any (S m.link) true W (by rw [S_size]; have := HM.out.link; omega))
      have lU := ownerL_len m.uname m.uid HM.out.uid.1 HM.out.uid.2
      have lG := ownerL_len m.gname m.gid HM.out.gid.1 HM.out.gid.2
      have lM := muchL_len m.kind size m.major m.minor HS.out HM.out.major HM.out.minor
      have lN := quoteF_len true m.name
      have lL := quoteF_len true m.link
      have l1 := HM.out.name
      have l2 := HM.out.link
      have l3 := HM.out.uname
      have l4 := HM.out.gname
      have lC := clkL_len m.sec m.nsec HM.out.sec HM.out.nsec
      have HLN := Lib.hid (show ∀ k, linkL m = k → lineL m size = rightsL m.mode m.kind ++ 32 :: (ownerL m.uname m.uid ++ 47 :: (ownerL m.gname m.gid ++ 32 :: (muchL m.kind size m.major m.minor ++ 32 :: (clkL m.sec m.nsec ++ 32 :: (quoteF true m.name ++ k))))) from fun k hk => by rw [← hk]; rfl)
      have HLK := Lib.hid (show linkL m = if arrowL m.kind = [] then [] else arrowL m.kind ++ quoteF true m.link from rfl)
      have HCE := Lib.hid (show ∀ e, ClkE m.sec m.nsec e → ClkP m.sec m.nsec (clkL m.sec m.nsec) ∧ e = .returned (.string (S (clkL m.sec m.nsec))) from fun e h => h)
      have HLE := Lib.hid (show ∀ e l, ClkP m.sec m.nsec (clkL m.sec m.nsec) → lineL m size = l → e = .returned (.string (S l)) → LineE m size e from fun e l h1 h2 h3 => ⟨h1, by rw [h2]; exact h3⟩)
      rw [S_data] at HQN HQL
      have HAR := Lib.hid (fun W => arrow_any m.kind W)
      have lAR := arrowL_len m.kind
      clear HS
      generalize ClkP m.sec m.nsec (clkL m.sec m.nsec) = PC at *
      generalize rightsL m.mode m.kind = r at *
      generalize ownerL m.uname m.uid = o at *
      generalize ownerL m.gname m.gid = q at *
      generalize muchL m.kind size m.major m.minor = u at *
      generalize clkL m.sec m.nsec = c at *
      generalize quoteF true m.name = n at *
      generalize quoteF true m.link = k at *
      obtain ⟨z1, hz1⟩ : ∃ z, z = r ++ [32] := ⟨_, rfl⟩
      have k1 := cat_k1 r 32 z1 hz1 (by omega)
      have m1 : z1.length = r.length + 1 := by rw [hz1, List.length_append, List.length_singleton]
      obtain ⟨z2, hz2⟩ : ∃ z, z = z1 ++ o := ⟨_, rfl⟩
      have k2 := cat_s z1 o z2 hz2 (by omega)
      have m2 : z2.length = z1.length + o.length := by rw [hz2, List.length_append]
      obtain ⟨z3, hz3⟩ : ∃ z, z = z2 ++ [47] := ⟨_, rfl⟩
      have k3 := cat_k1 z2 47 z3 hz3 (by omega)
      have m3 : z3.length = z2.length + 1 := by rw [hz3, List.length_append, List.length_singleton]
      obtain ⟨z4, hz4⟩ : ∃ z, z = z3 ++ q := ⟨_, rfl⟩
      have k4 := cat_s z3 q z4 hz4 (by omega)
      have m4 : z4.length = z3.length + q.length := by rw [hz4, List.length_append]
      obtain ⟨z5, hz5⟩ : ∃ z, z = z4 ++ [32] := ⟨_, rfl⟩
      have k5 := cat_k1 z4 32 z5 hz5 (by omega)
      have m5 : z5.length = z4.length + 1 := by rw [hz5, List.length_append, List.length_singleton]
      obtain ⟨z6, hz6⟩ : ∃ z, z = z5 ++ u := ⟨_, rfl⟩
      have k6 := cat_s z5 u z6 hz6 (by omega)
      have m6 : z6.length = z5.length + u.length := by rw [hz6, List.length_append]
      obtain ⟨z7, hz7⟩ : ∃ z, z = z6 ++ [32] := ⟨_, rfl⟩
      have k7 := cat_k1 z6 32 z7 hz7 (by omega)
      have m7 : z7.length = z6.length + 1 := by rw [hz7, List.length_append, List.length_singleton]
      obtain ⟨z8, hz8⟩ : ∃ z, z = z7 ++ c := ⟨_, rfl⟩
      have k8 := cat_s z7 c z8 hz8 (by omega)
      have m8 : z8.length = z7.length + c.length := by rw [hz8, List.length_append]
      obtain ⟨z9, hz9⟩ : ∃ z, z = z8 ++ [32] := ⟨_, rfl⟩
      have k9 := cat_k1 z8 32 z9 hz9 (by omega)
      have m9 : z9.length = z8.length + 1 := by rw [hz9, List.length_append, List.length_singleton]
      obtain ⟨z10, hz10⟩ : ∃ z, z = z9 ++ n := ⟨_, rfl⟩
      have k10 := cat_s z9 n z10 hz10 (by omega)
      have m10 : z10.length = z9.length + n.length := by rw [hz10, List.length_append]
      have HPT := Lib.hid (show ∀ k z11, z11 = z10 ++ k → z11 = r ++ 32 :: (o ++ 47 :: (q ++ 32 :: (u ++ 32 :: (c ++ 32 :: (n ++ k))))) from fun k z11 h => line_parts r o q u c n k z1 z2 z3 z4 z5 z6 z7 z8 z9 z10 z11 hz1 hz2 hz3 hz4 hz5 hz6 hz7 hz8 hz9 hz10 h)
      have m11 : z10.length ≤ 10000 := by omega
      clear hz1 hz2 hz3 hz4 hz5 hz6 hz7 hz8 hz9 hz10
      have HL10 := Lib.hid m11
      clear m1 m2 m3 m4 m5 m6 m7 m8 m9 m10 m11
      have HX := Lib.hid x0
      clear x0
      go_upto_region 4 with (fail)
      go_cut [6] (fun v wx => PC ∧ v = .string (S z10) ∧ AtB wx g 55 (MC m) ∧ Below g w wx)
      case first =>
        clear HLN HLK HLE HPT HL10 HAR lAR HQL lL HM l1 l2 l3 l4 lU lG lM lC lR lN
        have x0 : AtB wc.drew g 55 (MC m) ∧ Below g w wc.drew := ⟨HX.out.1.drew, HX.out.2.drew⟩
        clear HX
        go_region_held3 (fun W => W.cell? ⟨g, 0, none⟩ = some (.string (S m.name)) ∧ W.cell? ⟨g, 2, none⟩ = some (.int .u8 m.kind.toNat) ∧ W.cell? ⟨g, 3, none⟩ = some (.int .i64 m.mode) ∧ W.cell? ⟨g, 4, none⟩ = some (.int .i64 m.uid) ∧ W.cell? ⟨g, 5, none⟩ = some (.int .i64 m.gid)
            ∧ W.cell? ⟨g, 6, none⟩ = some (.string (S m.uname)) ∧ W.cell? ⟨g, 7, none⟩ = some (.string (S m.gname)) ∧ W.cell? ⟨g, 8, none⟩ = some (.int .i64 m.major) ∧ W.cell? ⟨g, 9, none⟩ = some (.int .i64 m.minor) ∧ W.cell? ⟨g, 10, none⟩ = some (.int .i64 m.sec) ∧ W.cell? ⟨g, 11, none⟩ = some (.int .i64 m.nsec) ∧ AtB W g 55 (MC m) ∧ Below g w W) (exact mem_keep (by assumption)) (first
          | (go_at_call 35; (with_reducible refine (HRI.out _).mono ?_); rintro e w2 ⟨rfl, hb2⟩; have x0 := at_next x0 hb2 hg2)
          | (go_at_call 44; (with_reducible refine (HOU.out _ x0.2).mono ?_); rintro e w2 ⟨rfl, hb2⟩; have x0 := at_next x0 hb2 hg2)
          | (go_at_call 44; (with_reducible refine (HOG.out _ x0.2).mono ?_); rintro e w2 ⟨rfl, hb2⟩; have x0 := at_next x0 hb2 hg2)
          | (go_at_call 45; (with_reducible refine (HCK.out _ x0.2).mono ?_); rintro e w2 ⟨hce, hb2⟩; obtain ⟨hPC, rfl⟩ := HCE.out _ hce; have x0 := at_next x0 hb2 hg2)
          | (go_at_call 36; (with_reducible refine (HQN.out _).mono ?_); rintro e w2 ⟨rfl, hb2⟩; have x0 := at_next x0 hb2 hg2))
        go_wp2_with fail
        go_meet
        exact ⟨hPC, rfl, x0⟩
      case rest =>
        obtain ⟨hPC, rfl, x0⟩ := hcut
        clear HX HRI HOU HOG HCK HQN HCE k1 k2 k3 k4 k5 k6 k7 k8 k9 k10
        obtain ⟨c0, c2, -⟩ := mem_keep x0
        have c1 : wc.cell? ⟨g, 1, none⟩ = some (.string (S m.link)) := x0.1.cell 1
        have HX := Lib.hid x0
        clear x0
        generalize arrowL m.kind = a at *
        go_wp2_with fail
        refine (HAR.out _).mono ?_
        rintro e w' ⟨rfl, rfl⟩
        by_cases ha : a = []
        · have h0 : a.isEmpty = true := by rw [ha]; rfl
          have HF := Lib.hid (show lineL m size = z10 by
            rw [HLN.out [] (by rw [HLK.out, if_pos ha]), ← HPT.out [] z10 (by simp)])
          clear ha HLN HLK HPT
          go_wp2_with fail
          go_ret
          exact ⟨HLE.out _ _ hPC HF.out rfl, by rw [hg]; exact HX.out.2⟩
        · have h0 : a.isEmpty = false := by simpa using ha
          obtain ⟨z11, hz11⟩ : ∃ z, z = a ++ k := ⟨_, rfl⟩
          obtain ⟨z12, hz12⟩ : ∃ z, z = z10 ++ z11 := ⟨_, rfl⟩
          have k11 := cat_s a k z11 hz11 (by omega)
          have m11 : z11.length = a.length + k.length := by rw [hz11, List.length_append]
          have k12 := cat_s z10 z11 z12 hz12 (by have := HL10.out; omega)
          have HF := Lib.hid (show lineL m size = z12 by
            rw [HLN.out z11 (by rw [HLK.out, if_neg ha, hz11]), ← HPT.out z11 z12 hz12])
          clear ha HLN HLK HPT hz11 hz12
          go_wp2_with fail
          refine (HQL.out _).mono ?_
          rintro e w2 ⟨rfl, hb2⟩
          go_wp2_with fail
          go_ret
          exact ⟨HLE.out _ _ hPC HF.out rfl, by rw [hg]; exact HX.out.2.trans (hb2.mono (by have := HX.out.2.size; omega))⟩
end Go.Proofs.YtjldphpdfckjnaaDoor
namespace Go.Proofs.YtjldphpdfckjnaaDoor
open Go.RowKit Go.Lib

theorem dec_small (n : Nat) (h : n < 10) : decDigits n = [UInt8.ofNat (48 + n)] := by rw [decDigits, dif_pos h]
theorem dec_great (n : Nat) (h : ¬ n < 10) : decDigits n = decDigits (n / 10) ++ [UInt8.ofNat (48 + n % 10)] := by rw [decDigits.eq_1 n, dif_neg h]
theorem dec_ne (n : Nat) : decDigits n ≠ [] := by
  by_cases h : n < 10
  · rw [dec_small n h]; exact List.cons_ne_nil _ _
  · rw [dec_great n h]; simp
theorem tail_app {α : Type} (a b : List α) (h : a ≠ []) : (a ++ b).tail = a.tail ++ b := by
  cases a with
  | nil => exact absurd rfl h
  | cons x a => rfl
theorem pad_succ (k v : Nat) (h : (decDigits (v / 10)).length ≤ k) (hk : 0 < k) : padL (k + 1) v = padL k (v / 10) ++ [UInt8.ofNat (48 + v % 10)] := by
  unfold padL
  by_cases h10 : v < 10
  · have h0 : v / 10 = 0 := by omega
    have hm : v % 10 = v := by omega
    rw [h0, hm, dec_small v h10, dec_small 0 (by omega)]
    have e : k + 1 - [UInt8.ofNat (48 + v)].length = k := rfl
    have e2 : k - [UInt8.ofNat (48 + 0)].length = k - 1 := rfl
    rw [e, e2]
    obtain ⟨j, rfl⟩ : ∃ j, k = j + 1 := ⟨k - 1, by omega⟩
    rw [Nat.add_sub_cancel, List.replicate_succ']
    rfl
  · rw [dec_great v h10, List.length_append, List.length_singleton, ← List.append_assoc]
    congr 2
    congr 1
    omega
theorem tail_pad : ∀ k v : Nat, v < 10 ^ (k + 1) → (decDigits (10 ^ (k + 1) + v)).tail = padL (k + 1) v
  | 0, v, h => by
    have h : v < 10 := by simpa using h
    rw [dec_great _ (by omega), show (10 ^ (0 + 1) + v) / 10 = 1 by omega, show (10 ^ (0 + 1) + v) % 10 = v by omega, dec_small 1 (by omega)]
    unfold padL
    rw [dec_small v h]
    rfl
  | k + 1, v, h => by
    have hp : 10 ^ (k + 1 + 1) = 10 * 10 ^ (k + 1) := by rw [Nat.pow_succ]; omega
    have h1 : 1 ≤ 10 ^ (k + 1) := Nat.one_le_pow _ _ (by decide)
    have ih := tail_pad k (v / 10) (by omega)
    have hl := digs_len k (v / 10) (by omega)
    rw [dec_great _ (by omega), show (10 ^ (k + 1 + 1) + v) / 10 = 10 ^ (k + 1) + v / 10 by omega, show (10 ^ (k + 1 + 1) + v) % 10 = v % 10 by omega, tail_app _ _ (dec_ne _), ih, pad_succ (k + 1) v hl (by omega)]
/-- a step that leads past a number lies somewhere -/
theorem step_ex (f : Nat → Int) (n : Int) (h0 : f 0 ≤ n) : ∀ k : Nat, n < f k → ∃ i, i < k ∧ f i ≤ n ∧ n < f (i + 1)
  | 0, h => by omega
  | k + 1, h => by
    by_cases hk : f k ≤ n
    · exact ⟨k, by omega, hk, h⟩
    · obtain ⟨i, h1, h2⟩ := step_ex f n h0 k (by omega)
      exact ⟨i, by omega, h2⟩
theorem day_ex (q : Int) (h0 : -719162 ≤ q) (h1 : q ≤ 2932896) : ∃ Y M D : Nat, mayB Y M D = true ∧ numI Y M D = q := by
  obtain ⟨i, hi, a1, a2⟩ := step_ex (fun i => aheadI ((i : Int) + 1)) (q + 719162) (by show aheadI ((0 : Nat) + 1) ≤ _; unfold aheadI; omega) 9999 (by show _ < aheadI ((9999 : Nat) + 1); unfold aheadI; omega)
  have a1 : aheadI ((i : Int) + 1) ≤ q + 719162 := a1
  have a2 : q + 719162 < aheadI (((i + 1 : Nat) : Int) + 1) := a2
  have hs := ahead_succ ((i : Int) + 1) (by omega)
  have e2 : ((i + 1 : Nat) : Int) + 1 = (i : Int) + 1 + 1 := by omega
  rw [e2, hs] at a2
  obtain ⟨Y, hY⟩ : ∃ Y : Nat, Y = i + 1 := ⟨_, rfl⟩
  have hY2 : (i : Int) + 1 = (Y : Int) := by omega
  rw [hY2] at a1 a2
  have hf := feb_bd (Y : Int)
  obtain ⟨j, hj, b1, b2⟩ := step_ex (fun j => cumI (febI Y) j) (q + 719162 - aheadI Y) (by show cumI (febI Y) 0 ≤ _; rw [cum_0]; omega) 12 (by show _ < cumI (febI Y) 12; rw [cum_12]; omega)
  have b1 : cumI (febI Y) j ≤ q + 719162 - aheadI Y := b1
  have b2 : q + 719162 - aheadI Y < cumI (febI Y) (j + 1) := b2
  rw [cum_succ _ _ hj] at b2
  have hm := mon_bd (febI Y) j hf hj
  refine ⟨Y, j + 1, (q + 719162 - aheadI Y - cumI (febI Y) j + 1).toNat, (may_iff _ _ _).2 ⟨by omega, by omega, by omega, by omega, by omega, ?_⟩, ?_⟩
  · rw [len_mon _ _ (by omega) (by omega), show ((j + 1 : Nat) : Int).toNat - 1 = j by omega]
    omega
  · unfold numI
    rw [show ((j + 1 : Nat) : Int).toNat - 1 = j by omega]
    omega
theorem cum_mono (f : Int) (hf : 28 ≤ f ∧ f ≤ 29) (a : Nat) : ∀ b : Nat, a ≤ b → b ≤ 12 → cumI f a ≤ cumI f b
  | 0, h, _ => by have : a = 0 := by omega
                  subst this; exact Int.le_refl _
  | b + 1, h, hb => by
    by_cases e : a = b + 1
    · subst e; exact Int.le_refl _
    · have := cum_mono f hf a b (by omega) (by omega)
      have h2 := mon_bd f b hf (by omega)
      rw [cum_succ f b (by omega)]; omega
/-- years that begin by a day are those up to its own -/
theorem year_le (q : Int) (Y M D : Nat) (h : mayB Y M D = true) (hn : numI Y M D = q) (y : Int) (h1 : 1 ≤ y) : refNum y 1 1 ≤ q ↔ y ≤ Y := by
  obtain ⟨b1, b2, _, _⟩ := num_bd _ _ _ h
  rw [hn] at b1 b2
  have e : refNum y 1 1 = aheadI y - 719162 := by
    rw [← num_ref y 1 1 h1 (by omega) (by omega)]
    unfold numI
    rw [show (1 : Int).toNat - 1 = 0 from rfl, cum_0]; omega
  obtain ⟨m1, m2, _⟩ := (may_iff _ _ _).1 h
  rw [e]
  constructor
  · intro hle
    rcases Int.lt_or_le (Y : Int) y with h | h
    · have := ahead_mono (Y + 1) y (by omega) (by omega); omega
    · exact h
  · intro hle
    have := ahead_mono y Y h1 hle; omega
theorem month_le (q : Int) (Y M D : Nat) (h : mayB Y M D = true) (hn : numI Y M D = q) (m : Nat) (h1 : 1 ≤ m) (h2 : m ≤ 12) : refNum Y m 1 ≤ q ↔ m ≤ M := by
  obtain ⟨m1, m2, m3, m4, m5, m6⟩ := (may_iff _ _ _).1 h
  rw [len_mon _ _ m3 m4] at m6
  have hf := feb_bd (Y : Int)
  rw [← num_ref Y m 1 m1 (by omega) (by omega), ← hn]
  unfold numI
  rw [show ((m : Int)).toNat - 1 = m - 1 by omega]
  rw [show ((M : Int)).toNat - 1 = M - 1 by omega] at m6 ⊢
  constructor
  · intro hle
    rcases Nat.lt_or_ge M m with h | h
    · have c1 := cum_mono (febI Y) hf M (m - 1) (by omega) (by omega)
      have c2 := cum_succ (febI Y) (M - 1) (by omega)
      rw [show M - 1 + 1 = M by omega] at c2
      omega
    · exact h
  · intro hle
    have c1 := cum_mono (febI Y) hf (m - 1) (M - 1) (by omega) (by omega)
    omega
theorem day_of (q : Int) (Y M D : Nat) (h : mayB Y M D = true) (hn : numI Y M D = q) : q - refNum Y M 1 + 1 = D := by
  obtain ⟨m1, m2, m3, m4, m5, m6⟩ := (may_iff _ _ _).1 h
  rw [← num_ref Y M 1 m1 m3 m4, ← hn]
  unfold numI
  omega
theorem trim_keep (l : List UInt8) (h : ∀ c, l.getLast? = some c → c ≠ 48) : trimRightB l 48 = l := by
  unfold trimRightB
  cases hr : l.reverse with
  | nil => rw [List.reverse_eq_nil_iff.1 hr]; rfl
  | cons a r =>
    have hl : l = r.reverse ++ [a] := by rw [← List.reverse_reverse l, hr]; simp
    have ha : a ≠ 48 := h a (by rw [hl]; simp)
    rw [List.dropWhile_cons, if_neg (by simpa using ha), ← hr, List.reverse_reverse]
theorem trim_drop (l : List UInt8) : trimRightB (l ++ [48]) 48 = trimRightB l 48 := by
  unfold trimRightB
  rw [List.reverse_append]
  rfl
end Go.Proofs.YtjldphpdfckjnaaDoor
namespace Go.Proofs.YtjldphpdfckjnaaDoor
open Go.RowKit Go.Lib

set_option maxRecDepth 100000 in
theorem rneg_any : ∀ (k a : Nat), a < 10 ^ (k + 1) → k ≤ 18 → 0 < a → a ≤ 9223372036854775808 → ∀ w : World, Calls Tryd.prog 38 #[.int .i64 (-(a : Int))] w fun e w' => e = .returned (.string (S (45 :: decDigits a))) ∧ ∃ m, w' = w.drewN m := by
  intro k
  induction k with
  | zero =>
    intro a ha _ h0 _ w
    have ha : a < 10 := by simpa using ha
    have HD := Lib.hid (fun w => rdig_wide 0 a (by simpa using ha) (by omega) (by omega) w)
    have hl := digs_len 0 a (by simpa using ha)
    have e0 : ¬ (0 : Int) ≤ -(a : Int) := by omega
    have e1 : (-10 : Int) < -(a : Int) := by omega
    go_enter Tryd.func38, Tryd.ntmps38
    go_wp2_with fail
    refine (HD.out _).mono ?_
    rintro e w1 ⟨rfl, q, rfl⟩
    have k1 := k1_cat 45 (decDigits a) (45 :: decDigits a) rfl (by omega)
    go_wp2_with fail
    go_ret
    exact ⟨rfl, q, rfl⟩
  | succ k ih =>
    intro a ha hk h0 hw w
    by_cases h10 : a < 10
    · have HD := Lib.hid (fun w => rdig_wide 0 a (by simpa using h10) (by omega) (by omega) w)
      have hl := digs_len 0 a (by simpa using h10)
      have e0 : ¬ (0 : Int) ≤ -(a : Int) := by omega
      have e1 : (-10 : Int) < -(a : Int) := by omega
      clear hw ih ha
      go_enter Tryd.func38, Tryd.ntmps38
      go_wp2_with fail
      refine (HD.out _).mono ?_
      rintro e w1 ⟨rfl, q, rfl⟩
      have k1 := k1_cat 45 (decDigits a) (45 :: decDigits a) rfl (by omega)
      go_wp2_with fail
      go_ret
      exact ⟨rfl, q, rfl⟩
    · have HI := Lib.hid (fun w => ih (a / 10) (by rw [Nat.pow_succ] at ha; omega) (by omega) (by omega) (by omega) w)
      have HD := Lib.hid (fun w => rdig_wide 0 (a % 10) (by simpa using Nat.mod_lt a (by decide)) (by omega) (by omega) w)
      have e0 : ¬ (0 : Int) ≤ -(a : Int) := by omega
      have e1 : ¬ (-10 : Int) < -(a : Int) := by omega
      have d1 : (-(a : Int)).tdiv 10 = -((a / 10 : Nat) : Int) := by rw [Int.neg_tdiv]; rfl
      have d2 : (-(a : Int)).tmod 10 = -((a % 10 : Nat) : Int) := by rw [Int.neg_tmod]; rfl
      have l1 := digs_len k (a / 10) (by rw [Nat.pow_succ] at ha; omega)
      have l2 := digs_len 0 (a % 10) (by simpa using Nat.mod_lt a (by decide))
      have HE := Lib.hid (show 45 :: decDigits a = (45 :: decDigits (a / 10)) ++ decDigits (a % 10) by
        have h2 : decDigits (a % 10) = [UInt8.ofNat (48 + a % 10)] := by rw [decDigits, dif_pos (Nat.mod_lt a (by decide))]
        rw [decDigits.eq_1 a, dif_neg h10, h2]; rfl)
      have hr : ((a % 10 : Nat) : Int) < 10 := by omega
      have hr0 : 0 ≤ ((a % 10 : Nat) : Int) := by omega
      have hq0 : 0 ≤ ((a / 10 : Nat) : Int) := by omega
      have hwr : wrap64 (-((a / 10 : Nat) : Int)) = -((a / 10 : Nat) : Int) := IntWalk.wrap64_in _ (by omega)
      clear ih ha hw h10 h0
      generalize a / 10 = b at *
      generalize a % 10 = c at *
      generalize decDigits a = A at *
      go_enter Tryd.func38, Tryd.ntmps38
      go_wp2_with fail
      refine (HI.out _).mono ?_
      rintro e w1 ⟨rfl, q, rfl⟩
      go_wp2_with fail
      refine (HD.out _).mono ?_
      rintro e w2 ⟨rfl, q2, rfl⟩
      obtain ⟨z, hz⟩ : ∃ z, z = (45 :: decDigits b) ++ decDigits c := ⟨_, rfl⟩
      have k1 := cat_s (45 :: decDigits b) (decDigits c) z hz (by rw [List.length_cons]; omega)
      have HZ := Lib.hid hz
      clear hz
      generalize decDigits c = C at *
      generalize 45 :: decDigits b = D at *
      go_wp2_with fail
      go_ret
      exact ⟨by rw [HE.out, ← HZ.out]; rfl, q + q2, by simp⟩
theorem rnumber_any (n : Int) (h : I64 n) (w : World) :
    Calls Tryd.prog 38 #[.int .i64 n] w fun e w' => e = .returned (.string (S (itoa n))) ∧ ∃ m, w' = w.drewN m := by
  obtain ⟨h0, h1⟩ := h
  by_cases hn : n < 0
  · have e : n = -((n.natAbs : Nat) : Int) := by omega
    have hi : itoa n = 45 :: decDigits n.natAbs := by unfold itoa; rw [if_pos hn]
    rw [hi]
    have hb : n.natAbs ≤ 9223372036854775808 := by omega
    have hp : 0 < n.natAbs := by omega
    generalize n.natAbs = a at *
    subst e
    exact rneg_any 18 a (by omega) (by omega) hp hb w
  · have e : n = ((n.toNat : Nat) : Int) := by omega
    have hi : itoa n = decDigits n.toNat := by unfold itoa; rw [if_neg hn]
    rw [hi]
    have hb : n.toNat ≤ 9223372036854775807 := by omega
    generalize n.toNat = a at *
    subst e
    have HD := Lib.hid (fun w => rdig_wide 18 a (by omega) (by omega) hb w)
    have e0 : (0 : Int) ≤ (a : Int) := by omega
    clear hn hi h0 h1 hb
    go_enter Tryd.func38, Tryd.ntmps38
    go_wp2_with fail
    refine (HD.out _).mono ?_
    rintro e w1 ⟨rfl, q, rfl⟩
    go_wp2_with fail
    go_ret
    exact ⟨rfl, q, rfl⟩
end Go.Proofs.YtjldphpdfckjnaaDoor
namespace Go.Proofs.YtjldphpdfckjnaaDoor
open Go.RowKit Go.Lib

theorem ext_tail1 (l : List UInt8) : (S l).extract 1 l.length = S l.tail := by rw [S_extract, List.take_of_length_le (by rw [List.length_drop]; exact Nat.le_refl _), List.drop_one]
theorem dig_tail (k v : Nat) (h : v < 10 ^ (k + 1)) : ∃ d : List UInt8, decDigits (10 ^ (k + 1) + v) = d ∧ d.length = k + 2 ∧ (S d).extract 1 d.length = S (padL (k + 1) v) := by
  refine ⟨_, rfl, ?_, by rw [ext_tail1, tail_pad k v h]⟩
  have hl := pad_len (k + 1) v (digs_len k v h)
  rw [← tail_pad k v h] at hl
  have hne := dec_ne (10 ^ (k + 1) + v)
  cases hd : decDigits (10 ^ (k + 1) + v) with
  | nil => exact absurd hd hne
  | cons a r => rw [hd, List.tail_cons] at hl; rw [List.length_cons, hl]
set_option maxRecDepth 100000 in
theorem two_any (v : Nat) (h : v < 100) (w : World) :
    Calls Tryd.prog 82 #[.int .i64 v] w fun e w' => e = .returned (.string (S (padL 2 v))) ∧ ∃ m, w' = w.drewN m := by
  obtain ⟨d, hd, hl, hx⟩ := dig_tail 1 v h
  have HD := Lib.hid (fun w => rdig_wide 2 (10 ^ (1 + 1) + v) (by omega) (by omega) (by omega) w)
  rw [hd] at HD
  have e : ((10 ^ (1 + 1) + v : Nat) : Int) = (v : Int) + 100 := by omega
  rw [e] at HD
  have h1 : (1 : Int) ≤ (d.length : Int) := by omega
  have h2 : (d.length : Int) ≤ 3 := by omega
  clear hl hd e
  go_enter Tryd.func82, Tryd.ntmps82
  go_wp2_with fail
  refine (HD.out _).mono ?_
  rintro e w1 ⟨rfl, q, rfl⟩
  go_wp2_with fail
  go_ret
  exact ⟨rfl, q, rfl⟩
/-- half of a power of two, or none -/
def hlf : Nat → Nat
  | 0 => 0
  | k + 1 => 2 ^ k
theorem hlf_half (k : Nat) : hlf (k + 1) / 2 = hlf k := by
  cases k with
  | zero => rfl
  | succ k =>
    show 2 ^ (k + 1) / 2 = 2 ^ k
    rw [Nat.pow_succ]; omega
theorem hlf_lt (k : Nat) : hlf k < hlf (k + 1) := by
  cases k with
  | zero => decide
  | succ k =>
    have : 1 ≤ 2 ^ k := Nat.one_le_pow _ _ (by decide)
    show 2 ^ k < 2 ^ (k + 1)
    rw [Nat.pow_succ]; omega
theorem hlf_le (k : Nat) (h : k ≤ 14) : hlf k ≤ 8192 := by
  cases k with
  | zero => simp [hlf]
  | succ k =>
    have : 2 ^ k ≤ 2 ^ 13 := Nat.pow_le_pow_right (by decide) (by omega)
    unfold hlf; omega
theorem clkR_err (s n : Int) (h : dayB s n = false) : rightB s n = false ∨ (rightB s n = true ∧ s < -62135596800) ∨ (rightB s n = true ∧ -62135596800 ≤ s ∧ 253402300799 < s) := by
  cases hr : rightB s n
  · exact .inl rfl
  · unfold dayB at h
    rw [hr, Bool.true_and, Bool.and_eq_false_iff, decide_eq_false_iff_not, decide_eq_false_iff_not] at h
    by_cases h1 : s < -62135596800
    · exact .inr (.inl ⟨rfl, h1⟩)
    · exact .inr (.inr ⟨rfl, by omega, by omega⟩)
set_option maxRecDepth 100000 in
set_option maxHeartbeats 4000000 in
theorem rClock_err (s n : Int) (hs : I64 s) (hn : I64 n) (hd : dayB s n = false) (w : World) :
    Calls Tryd.prog 41 #[.int .i64 s, .int .i64 n] w fun e w' => ClkE s n e ∧ ∃ m, w' = w.drewN m := by
  have HN1 := Lib.hid (fun w => rnum_any 1 1 1 w (by decide) (by decide) (by decide) (by decide) (by decide) (by decide))
  have HN2 := Lib.hid (fun w => rnum_any 9999 12 31 w (by decide) (by decide) (by decide) (by decide) (by decide) (by decide))
  rw [show refNum 1 1 1 = -719162 from rfl] at HN1
  rw [show refNum 9999 12 31 = 2932896 from rfl] at HN2
  have HR := Lib.hid (fun w => rRight_any s n w)
  have HS := Lib.hid (fun W => rnumber_any s hs W)
  have HN := Lib.hid (fun W => rnumber_any n hn W)
  have l1 := itoa_len s hs.1 hs.2
  have l2 := itoa_len n hn.1 hn.2
  have HP : ClkP s n (64 :: (itoa s ++ 46 :: itoa n)) := Or.inr ⟨hd, rfl⟩
  have hcs := clkR_err s n hd
  clear hs hn hd
  generalize itoa s = x at *
  generalize itoa n = y at *
  obtain ⟨z1, hz1⟩ : ∃ z, z = 64 :: x := ⟨_, rfl⟩
  obtain ⟨z2, hz2⟩ : ∃ z, z = z1 ++ [46] := ⟨_, rfl⟩
  obtain ⟨z3, hz3⟩ : ∃ z, z = z2 ++ y := ⟨_, rfl⟩
  have k1 := k1_cat 64 x z1 hz1 (by omega)
  have m1 : z1.length ≤ 21 := by rw [hz1, List.length_cons]; omega
  have k2 := cat_k1 z1 46 z2 hz2 (by omega)
  have m2 : z2.length ≤ 22 := by rw [hz2, List.length_append, List.length_singleton]; omega
  have k3 := cat_s z2 y z3 hz3 (by omega)
  have HP : Hid (ClkP s n z3) := by
    have e : z3 = 64 :: (x ++ 46 :: y) := by rw [hz3, hz2, hz1]; simp
    unfold Hid; rw [e]; exact HP
  clear hz1 hz2 hz3
  rcases hcs with hr | ⟨hr, h1⟩ | ⟨hr, h1, h2⟩
  all_goals
    rw [hr] at HR
    clear hr
    go_enter Tryd.func41, Tryd.ntmps41
    go_wp2_with fail
    refine (HN1.out _).mono ?_
    rintro e w' ⟨rfl, rfl⟩
    go_wp2_with fail
    refine (HN2.out _).mono ?_
    rintro e w' ⟨rfl, rfl⟩
    go_wp2_with fail
    refine (HR.out _).mono ?_
    rintro e w' ⟨rfl, hw'⟩
    subst hw'
    go_wp2_with fail
    refine (HS.out _).mono ?_
    rintro e w1 ⟨rfl, q1, rfl⟩
    go_wp2_with fail
    refine (HN.out _).mono ?_
    rintro e w2 ⟨rfl, q2, rfl⟩
    go_wp2_with fail
    go_ret
    exact ⟨ClkE.mk HP.out rfl, q1 + q2, by simp⟩
end Go.Proofs.YtjldphpdfckjnaaDoor
namespace Go.Proofs.YtjldphpdfckjnaaDoor
open Go.RowKit Go.Lib

theorem base_parts (y4 m2 d2 h2 i2 s2 t : List UInt8) (z1 z2 z3 z4 z5 z6 z7 z8 z9 z10 z11 : List UInt8) (h1 : z1 = y4 ++ [45]) (h_2 : z2 = z1 ++ m2) (h3 : z3 = z2 ++ [45]) (h4 : z4 = z3 ++ d2) (h5 : z5 = z4 ++ [84]) (h6 : z6 = z5 ++ h2) (h7 : z7 = z6 ++ [58]) (h8 : z8 = z7 ++ i2) (h9 : z9 = z8 ++ [58]) (h10 : z10 = z9 ++ s2) (h11 : z11 = z10 ++ t) :
    z11 = (y4 ++ (45 :: (m2 ++ (45 :: d2)))) ++ (84 :: (h2 ++ (58 :: (i2 ++ (58 :: (s2 ++ t)))))) := by
  subst h1 h_2 h3 h4 h5 h6 h7 h8 h9 h10 h11
  simp
theorem tm_rest (s : Int) (R : Nat) (h : s % 86400 = R) : ∃ t0 : Int, s.tmod 86400 = t0 ∧ -86400 ≤ t0 ∧ t0 < 86400 ∧ (t0 + 86400) % 86400 = R ∧ (t0 + 86400).tmod 86400 = R := by
  obtain ⟨hm, _⟩ := tm_parts s
  obtain ⟨t0, ht⟩ : ∃ t0, s.tmod 86400 = t0 := ⟨_, rfl⟩
  rw [ht] at hm
  have he : (t0 + 86400) % 86400 = R := by omega
  exact ⟨t0, ht, by omega, by omega, he, by rw [Int.tmod_eq_emod_of_nonneg (by omega)]; exact he⟩
def lenV (v : Value) : Nat := match v with
  | .string s => s.size
  | _ => 0
set_option maxRecDepth 100000 in
set_option maxHeartbeats 8000000 in
theorem rClock_ok (s : Int) (N : Nat) (hr : rightB s N = true) (h0 : -719162 ≤ s / 86400) (h1 : s / 86400 ≤ 2932896) (w : World) :
    Calls Tryd.prog 41 #[.int .i64 s, .int .i64 N] w fun e w' => ClkE s N e ∧ ∃ m, w' = w.drewN m := by
  obtain ⟨Y, M, D, hm, hq⟩ := day_ex (s / 86400) h0 h1
  obtain ⟨m1, m2, m3, m4, m5, m6⟩ := (may_iff _ _ _).1 hm
  have hD31 := lenI_31 Y M
  obtain ⟨g1, g2, g3, g4⟩ := (right_iff s N).1 hr
  obtain ⟨R, hR⟩ : ∃ R : Nat, s % 86400 = R := ⟨(s % 86400).toNat, by omega⟩
  have hRb : R < 86400 := by omega
  obtain ⟨t0, ht0, t1, t2, t3, t4⟩ := tm_rest s R hR
  have hd5 : (s - (R : Int)).tdiv 86400 = s / 86400 := by rw [← hR]; exact (tm_parts s).2
  have HP : ∀ l, l = textT Y M D (R / 3600) (R / 60 % 60) (R % 60) N → ClkP s N l := by
    intro l hl
    refine Or.inl ⟨dayB_yes s N hr h0 h1, Y, M, D, hm, hq, ?_⟩
    rw [hR, Int.toNat_natCast, Int.toNat_natCast, hl]
  have HPZ := Lib.hid HP
  clear HP
  have HYL := Lib.hid (year_le (s / 86400) Y M D hm hq)
  have HML := Lib.hid (month_le (s / 86400) Y M D hm hq)
  have HDO := Lib.hid (day_of (s / 86400) Y M D hm hq)
  have HR := Lib.hid (fun w => (rRight_any s N w).mono (fun e w' h => (⟨h.1, h.2.symm⟩ : e = .returned (.bool (rightB s N)) ∧ w = w')))
  rw [hr] at HR
  have HN1 := Lib.hid (fun w => rnum_any 1 1 1 w (by decide) (by decide) (by decide) (by decide) (by decide) (by decide))
  have HN2 := Lib.hid (fun w => rnum_any 9999 12 31 w (by decide) (by decide) (by decide) (by decide) (by decide) (by decide))
  rw [show refNum 1 1 1 = -719162 from rfl] at HN1
  rw [show refNum 9999 12 31 = 2932896 from rfl] at HN2
  have s0 : -62135596800 ≤ s := by omega
  have s1 : s ≤ 253402300799 := by omega
  have hqb0 := h0
  have hqb1 := h1
  clear h0 h1 hr hR hm hq
  generalize s / 86400 = q at *
  have y1 : 1 ≤ Y := by omega
  have y2 : Y ≤ 9999 := by omega
  have M1 : 1 ≤ M := by omega
  have M2 : M ≤ 12 := by omega
  have D1 : 1 ≤ D := by omega
  have D2 : D ≤ 31 := by omega
  have HNb := Lib.hid (show N < 1000000000 by omega)
  clear m1 m2 m3 m4 m5 m6 hD31 g1 g2 g3 g4
  go_enter Tryd.func41, Tryd.ntmps41
  go_wp2_with fail
  refine (HN1.out _).mono ?_
  rintro e w' ⟨rfl, rfl⟩
  go_wp2_with fail
  refine (HN2.out _).mono ?_
  rintro e w' ⟨rfl, rfl⟩
  go_wp2_with fail
  refine (HR.out _).mono ?_
  rintro e w' ⟨rfl, rfl⟩
  go_wp2_with fail
  clear HN1 HN2 HR ht0 t1 t2 t3 t4 hd5
  go_loop [9, 11] (fun y st => ∃ a k : Nat, k ≤ 14 ∧ 1 ≤ a ∧ a ≤ Y ∧ Y < a + 2 ^ k ∧ y = .int .i64 a ∧ st = .int .i64 (hlf k)) (fun _ st => (RowKit.intOf st).toNat)
  case atStart => exact ⟨1, 14, Nat.le_refl _, by omega, by omega, by omega, rfl, rfl⟩
  case round =>
    obtain ⟨a, k, hk, ha1, haY, hYa, rfl, rfl⟩ := hrel
    cases k with
    | succ k =>
      have hp2 : ((hlf (k + 1) : Nat) : Int) / 2 = ((hlf k : Nat) : Int) := by rw [← hlf_half k]; omega
      have hlt := hlf_lt k
      have hle := hlf_le (k + 1) hk
      have e2 : 2 ^ (k + 1) = hlf (k + 1) + 2 ^ k := by show 2 ^ (k + 1) = 2 ^ k + 2 ^ k; rw [Nat.pow_succ]; omega
      have e3 : 2 ^ k = hlf (k + 1) := rfl
      rw [e2, e3] at hYa
      have HK := Lib.hid e3
      clear e2 e3
      generalize hlf (k + 1) = p at *
      obtain ⟨p2, HP2⟩ : ∃ p2, Hid (hlf k = p2) := ⟨_, rfl⟩
      rw [HP2.out] at hp2 hlt
      have hp0 : (0 : Int) < (p : Int) := by omega
      have hpb : (p : Int) ≤ 8192 := by omega
      have hab : (a : Int) ≤ 9999 := by omega
      have HYL2 := Lib.hid (HYL.out ((a : Int) + (p : Int)) (by omega))
      have HNu := Lib.hid (fun w (h : (a : Int) + (p : Int) ≤ 9999) => rnum_any ((a : Int) + (p : Int)) 1 1 w (by omega) h (by decide) (by decide) (by decide) (by decide))
      generalize refNum ((a : Int) + (p : Int)) 1 1 = r at *
      by_cases hc : a + p ≤ Y
      · have c1 : (a : Int) + (p : Int) ≤ 9999 := by omega
        have c2 : r ≤ q := HYL2.out.2 (by omega)
        go_wp2_with fail
        refine (HNu.out _ c1).mono ?_
        rintro e w' ⟨rfl, rfl⟩
        go_wp2_with fail
        go_round
        case rel => exact ⟨a + p, k, by omega, by omega, hc, by rw [HK.out]; omega, by go_num, by rw [HP2.out]⟩
        case measure => simp [RowKit.intOf]; omega
      · have c2 : ¬ r ≤ q := fun h => by have := HYL2.out.1 h; omega
        by_cases c1 : (a : Int) + (p : Int) ≤ 9999
        · go_wp2_with fail
          refine (HNu.out _ c1).mono ?_
          rintro e w' ⟨rfl, rfl⟩
          go_wp2_with fail
          go_round
          case rel => exact ⟨a, k, by omega, by omega, haY, by rw [HK.out]; omega, rfl, by rw [HP2.out]⟩
          case measure => simp [RowKit.intOf]; omega
        · go_wp2_with fail
          go_round
          case rel => exact ⟨a, k, by omega, by omega, haY, by rw [HK.out]; omega, rfl, by rw [HP2.out]⟩
          case measure => simp [RowKit.intOf]; omega
    | zero =>
      have haY2 : a = Y := by
        have : 2 ^ 0 = 1 := rfl
        omega
      subst haY2
      have h00 : ((hlf 0 : Nat) : Int) = 0 := rfl
      clear hk ha1 haY hYa
      go_wp2_with fail
      go_loop [10] (fun m => ∃ b : Nat, 1 ≤ b ∧ b ≤ M ∧ m = .int .i64 b) (fun m => (12 - RowKit.intOf m).toNat)
      case atStart => exact ⟨1, Nat.le_refl _, M1, rfl⟩
      case round =>
        obtain ⟨b, hb1, hbM, rfl⟩ := hrel
        have hb12 : (b : Int) ≤ 12 := by omega
        have HML2 := Lib.hid (fun h => HML.out (b + 1) (by omega) h)
        have eb : ((b + 1 : Nat) : Int) = (b : Int) + 1 := by omega
        rw [eb] at HML2
        have HNu := Lib.hid (fun w (h : b < 12) => rnum_any (a : Int) ((b : Int) + 1) 1 w (by omega) (by omega) (by omega) (by omega) (by decide) (by decide))
        clear eb
        generalize refNum (a : Int) ((b : Int) + 1) 1 = r at *
        go_upto_region 12 with (fail)
        go_cut [77] (fun v wx => v = .bool (decide (b + 1 ≤ M)) ∧ w = wx)
        case first =>
          by_cases hc : b + 1 ≤ M
          · have HD := Lib.hid (decide_eq_true hc)
            have c1 : (b : Int) < 12 := by omega
            have c2 : r ≤ q := HML2.out (by omega) |>.2 hc
            clear HML2 HML HYL
            go_wp2_with fail
            refine (HNu.out _ (by omega)).mono ?_
            rintro e w' ⟨rfl, rfl⟩
            go_wp2_with fail
            go_meet
            exact ⟨by rw [HD.out], rfl⟩
          · have HD := Lib.hid (decide_eq_false hc)
            by_cases c1 : (b : Int) < 12
            · have c2 : decide (r ≤ q) = false := decide_eq_false (fun h => hc ((HML2.out (by omega)).1 h))
              clear HML2 HML HYL
              go_wp2_with fail
              refine (HNu.out _ (by omega)).mono ?_
              rintro e w' ⟨rfl, rfl⟩
              go_wp2_with fail
              go_meet
              exact ⟨by rw [HD.out], rfl⟩
            · clear HML2 HML HYL
              go_wp2_with fail
              go_meet
              exact ⟨by rw [HD.out], rfl⟩
        case rest =>
          obtain ⟨rfl, rfl⟩ := hcut
          clear HML2 HNu
          by_cases hc : b + 1 ≤ M
          · have hcd : decide (b + 1 ≤ M) = true := decide_eq_true hc
            go_wp2_with fail
            go_round
            case rel => exact ⟨b + 1, by omega, hc, by go_num⟩
            case measure => simp [RowKit.intOf]; omega
          have hcd : decide (b + 1 ≤ M) = false := decide_eq_false hc
          have hbm : b = M := by omega
          subst hbm
          have hdd := HDO.out
          have HN3 := Lib.hid (fun w => rnum_any (a : Int) (b : Int) 1 w (by omega) (by omega) (by omega) (by omega) (by decide) (by decide))
          generalize refNum (a : Int) (b : Int) 1 = r3 at *
          have r30 : -800000 ≤ r3 := by omega
          have r31 : r3 ≤ 3000000 := by omega
          skip
          obtain ⟨d4, hd4, l4, x4⟩ := dig_tail 3 a (by omega)
          have HG4 := Lib.hid (fun w => rdig_wide 4 (10 ^ (3 + 1) + a) (by omega) (by omega) (by omega) w)
          rw [hd4, show ((10 ^ (3 + 1) + a : Nat) : Int) = 10000 + (a : Int) by omega] at HG4
          have HTM := Lib.hid (fun w => two_any b (by omega) w)
          have HTD := Lib.hid (fun w => two_any D (by omega) w)
          have HTH := Lib.hid (fun w => two_any (R / 3600) (by omega) w)
          have HTI := Lib.hid (fun w => two_any (R / 60 % 60) (by omega) w)
          have HTS := Lib.hid (fun w => two_any (R % 60) (by omega) w)
          have p4 := pad_len 4 a (digs_len 3 a (by omega))
          have p2 := pad_len 2 b (digs_len 1 b (by omega))
          have pD := pad_len 2 D (digs_len 1 D (by omega))
          have pH := pad_len 2 (R / 3600) (digs_len 1 _ (by omega))
          have pI := pad_len 2 (R / 60 % 60) (digs_len 1 _ (by omega))
          have pS := pad_len 2 (R % 60) (digs_len 1 _ (by omega))
          have HPT := Lib.hid (show ∀ l, l = (padL 4 a ++ (45 :: (padL 2 b ++ (45 :: padL 2 D)))) ++ (84 :: (padL 2 (R / 3600) ++ (58 :: (padL 2 (R / 60 % 60) ++ (58 :: (padL 2 (R % 60) ++ tailW N)))))) → ClkP s N l from fun l h => HPZ.out l h)
          have eH : ((R : Int)).tdiv 3600 = ((R / 3600 : Nat) : Int) := rfl
          have eM : ((R : Int)).tdiv 60 = ((R / 60 : Nat) : Int) := rfl
          have eI : (((R / 60 : Nat) : Int)).tmod 60 = ((R / 60 % 60 : Nat) : Int) := rfl
          have eS : ((R : Int)).tmod 60 = ((R % 60 : Nat) : Int) := rfl
          have eH' : (R : Int) / 3600 = ((R / 3600 : Nat) : Int) := rfl
          have eM' : (R : Int) / 60 = ((R / 60 : Nat) : Int) := rfl
          have eI' : ((R / 60 : Nat) : Int) % 60 = ((R / 60 % 60 : Nat) : Int) := rfl
          have eS' : (R : Int) % 60 = ((R % 60 : Nat) : Int) := rfl
          have hw4 : IntKind.i64.wrap (10000 + (a : Int)) = 10000 + (a : Int) := IntWalk.i64_in _ (by omega)
          clear HPZ hd4 HML HYL HDO
          generalize padL 4 a = y4 at *
          generalize padL 2 b = m2 at *
          generalize padL 2 D = d2 at *
          generalize padL 2 (R / 3600) = h2 at *
          generalize padL 2 (R / 60 % 60) = i2 at *
          generalize padL 2 (R % 60) = s2 at *
          generalize R / 60 % 60 = RI at *
          generalize R / 60 = RM at *
          generalize R / 3600 = RH at *
          generalize R % 60 = RS at *
          obtain ⟨z1, hz1⟩ : ∃ z, z = y4 ++ [45] := ⟨_, rfl⟩
          have k1 := cat_k1 y4 45 z1 hz1 (by omega)
          have n1 : z1.length = y4.length + 1 := by rw [hz1, List.length_append, List.length_singleton]
          obtain ⟨z2, hz2⟩ : ∃ z, z = z1 ++ m2 := ⟨_, rfl⟩
          have k2 := cat_s z1 m2 z2 hz2 (by omega)
          have n2 : z2.length = z1.length + m2.length := by rw [hz2, List.length_append]
          obtain ⟨z3, hz3⟩ : ∃ z, z = z2 ++ [45] := ⟨_, rfl⟩
          have k3 := cat_k1 z2 45 z3 hz3 (by omega)
          have n3 : z3.length = z2.length + 1 := by rw [hz3, List.length_append, List.length_singleton]
          obtain ⟨z4, hz4⟩ : ∃ z, z = z3 ++ d2 := ⟨_, rfl⟩
          have k4 := cat_s z3 d2 z4 hz4 (by omega)
          have n4 : z4.length = z3.length + d2.length := by rw [hz4, List.length_append]
          obtain ⟨z5, hz5⟩ : ∃ z, z = z4 ++ [84] := ⟨_, rfl⟩
          have k5 := cat_k1 z4 84 z5 hz5 (by omega)
          have n5 : z5.length = z4.length + 1 := by rw [hz5, List.length_append, List.length_singleton]
          obtain ⟨z6, hz6⟩ : ∃ z, z = z5 ++ h2 := ⟨_, rfl⟩
          have k6 := cat_s z5 h2 z6 hz6 (by omega)
          have n6 : z6.length = z5.length + h2.length := by rw [hz6, List.length_append]
          obtain ⟨z7, hz7⟩ : ∃ z, z = z6 ++ [58] := ⟨_, rfl⟩
          have k7 := cat_k1 z6 58 z7 hz7 (by omega)
          have n7 : z7.length = z6.length + 1 := by rw [hz7, List.length_append, List.length_singleton]
          obtain ⟨z8, hz8⟩ : ∃ z, z = z7 ++ i2 := ⟨_, rfl⟩
          have k8 := cat_s z7 i2 z8 hz8 (by omega)
          have n8 : z8.length = z7.length + i2.length := by rw [hz8, List.length_append]
          obtain ⟨z9, hz9⟩ : ∃ z, z = z8 ++ [58] := ⟨_, rfl⟩
          have k9 := cat_k1 z8 58 z9 hz9 (by omega)
          have n9 : z9.length = z8.length + 1 := by rw [hz9, List.length_append, List.length_singleton]
          obtain ⟨z10, hz10⟩ : ∃ z, z = z9 ++ s2 := ⟨_, rfl⟩
          have k10 := cat_s z9 s2 z10 hz10 (by omega)
          have n10 : z10.length = z9.length + s2.length := by rw [hz10, List.length_append]
          have HBP := Lib.hid (show ∀ t z11, z11 = z10 ++ t → z11 = (y4 ++ (45 :: (m2 ++ (45 :: d2)))) ++ (84 :: (h2 ++ (58 :: (i2 ++ (58 :: (s2 ++ t)))))) from fun t z11 h => base_parts y4 m2 d2 h2 i2 s2 t z1 z2 z3 z4 z5 z6 z7 z8 z9 z10 z11 hz1 hz2 hz3 hz4 hz5 hz6 hz7 hz8 hz9 hz10 h)
          have n11 : z10.length ≤ 100 := by omega
          have l41 : (1 : Int) ≤ (d4.length : Int) := by omega
          have l42 : (d4.length : Int) ≤ 10 := by omega
          clear hz1 hz2 hz3 hz4 hz5 hz6 hz7 hz8 hz9 hz10 n1 n2 n3 n4 n5 n6 n7 n8 n9 n10 p4 p2 pD pH pI pS l4
          have L41 := Lib.hid l41
          go_wp2_with fail
          refine (HN3.out _).mono ?_
          rintro e w' ⟨rfl, rfl⟩
          have HNN := Lib.hid (show (0 : Int) ≤ (N : Int) by omega)
          go_upto_region 15 with (fail)
          go_cut [13] (fun v wx => v = .string (S z10) ∧ ∃ nq, wx = w.drewN nq)
          case first =>
            clear HPT HBP HNN HNb
            go_quiet ((first
              | (go_at_call 77; (with_reducible exact Calls.quiet_of (HG4.out _)))
              | (go_at_call 82; (with_reducible exact Calls.quiet_of (HTM.out _)))
              | (go_at_call 82; (with_reducible exact Calls.quiet_of (HTD.out _)))
              | (go_at_call 82; (with_reducible exact Calls.quiet_of (HTH.out _)))
              | (go_at_call 82; (with_reducible exact Calls.quiet_of (HTI.out _)))
              | (go_at_call 82; (with_reducible exact Calls.quiet_of (HTS.out _)))))
            go_wp2_with fail
            go_meet
            exact ⟨rfl, _, rfl⟩
          case rest =>
            obtain ⟨rfl, nq, rfl⟩ := hcut
            clear k1 k2 k3 k4 k5 k6 k7 k8 k9 k10 HG4 HTM HTD HTH HTI HTS eH eM eI eS eH' eM' eI' eS' hw4 x4 l41 l42 L41 HN3 hcd hdd r30 r31 hb12 hqb0 hqb1 s0 s1
            have HPZ : Hid (∀ z11, z11 = z10 ++ tailW N → ClkP s N z11) := fun z11 h => HPT.out z11 (HBP.out _ _ h)
            clear HPT HBP
            by_cases hN : N = 0
            · have HF := Lib.hid (HPZ.out z10 (by rw [hN]; simp [tailW]))
              have hN0 : ¬ (0 : Int) < (N : Int) := by omega
              clear hN HPZ HNN
              go_wp2_with fail
              go_ret
              exact ⟨ClkE.mk HF.out rfl, nq, rfl⟩
            · have hN0 : (0 : Int) < (N : Int) := by omega
              have hN9 := HNb.out
              obtain ⟨d9, hd9, l9, x9⟩ := dig_tail 8 N (by omega)
              have HG9 := Lib.hid (fun w => rdig_wide 9 (10 ^ (8 + 1) + N) (by omega) (by omega) (by omega) w)
              rw [hd9, show ((10 ^ (8 + 1) + N : Nat) : Int) = 1000000000 + (N : Int) by omega] at HG9
              have hw9 : wrap64 (1000000000 + (N : Int)) = 1000000000 + (N : Int) := IntWalk.wrap64_in _ (by omega)
              have HFR := Lib.hid (pad_frac N hN9)
              have hp9 := pad_len 9 N (digs_len 8 N (by omega))
              have hFL := frac_len9 N hN9
              have hFne : fracT N ≠ [] := by
                obtain ⟨hb, _⟩ := fracT_ok N hN9 hN
                exact ((digB_iff _ _).1 hb).1
              have HFne := Lib.hid hFne
              have HPY := Lib.hid (fun z z' (h1 : z = 46 :: fracT N) (h2 : z' = z10 ++ z) => HPZ.out z' (by rw [h2, h1]; unfold tailW; rw [if_neg hN]))
              have l91 : (1 : Int) ≤ (d9.length : Int) := by omega
              have l92 : (d9.length : Int) ≤ 10 := by omega
              clear hN hd9 l9 HNb HNN HPZ hN9 hFne
              generalize fracT N = F at *
              generalize padL 9 N = p9 at *
              go_wp2_with fail
              refine (HG9.out _).mono ?_
              rintro e w1 ⟨rfl, q1, rfl⟩
              go_wp2_with fail
              clear x9 l91 l92 HG9 hw9
              have HL0 : Hid (p9 ≠ [] ∧ p9.length ≤ 9 ∧ trimRightB p9 48 = F) := ⟨(by intro e; rw [e] at hp9; cases hp9), (by omega), HFR.out⟩
              clear HFR hp9
              go_loop [14] (fun t => ∃ l : List UInt8, t = .string (S l) ∧ Hid (l ≠ [] ∧ l.length ≤ 9 ∧ trimRightB l 48 = F)) (fun t => lenV t)
              case atStart => exact ⟨p9, rfl, HL0.out⟩
              case round =>
                obtain ⟨l, rfl, HL⟩ := hrel
                clear HL0
                obtain ⟨l', c, hlc⟩ : ∃ l' c, l = l' ++ [c] := ⟨l.dropLast, l.getLast HL.out.1, (List.dropLast_concat_getLast HL.out.1).symm⟩
                have hll : l.length = l'.length + 1 := by rw [hlc, List.length_append, List.length_singleton]
                have hlb := HL.out.2.1
                have hnb : l'.length < (S l).size := by rw [S_size]; omega
                have hidx : (S l)[l'.length]'hnb = c := by
                  rw [S_get]
                  simp [hlc]
                have hext : (S l).extract 0 l'.length = S l' := by rw [S_extract, hlc, List.drop_zero, Nat.sub_zero, List.take_left]
                have HLC := Lib.hid hlc
                have hl1 : (l.length : Int) - 1 = ((l'.length : Nat) : Int) := by omega
                have hl2 : ((l'.length : Nat) : Int) < (l.length : Int) := by omega
                have hl3 : (1 : Int) ≤ (l.length : Int) := by omega
                have hl9 : (l.length : Int) ≤ 9 := by omega
                have hl8 : l.length ≤ 9 := by omega
                clear hll hlb hlc
                by_cases hc : c = 48
                · have t1 : ((c.toNat : Int) == 48) = true := byte_beq _ 48 _ rfl hc
                  have hne : l' ≠ [] := by
                    intro e
                    apply HFne.out
                    rw [← HL.out.2.2, HLC.out, e, hc]
                    rfl
                  have HN : Hid (l' ≠ [] ∧ l'.length ≤ 9 ∧ trimRightB l' 48 = F) := ⟨hne, (by omega), (by rw [← HL.out.2.2, HLC.out, hc, trim_drop])⟩
                  clear hc hne HL HLC
                  generalize hk : l'.length = k at *
                  go_wp2_with fail
                  go_round
                  case rel => exact ⟨l', rfl, by rw [hk]; exact HN.out⟩
                  case measure => unfold lenV; simp; omega
                · have t1 : ((c.toNat : Int) == 48) = false := byte_beq' _ 48 _ rfl hc
                  have HLF : Hid (l = F) := by
                    unfold Hid
                    rw [← HL.out.2.2, trim_keep l]
                    intro x hx
                    rw [HLC.out, List.getLast?_concat] at hx
                    cases hx
                    exact hc
                  obtain ⟨z11, hz11⟩ : ∃ z, z = 46 :: l := ⟨_, rfl⟩
                  obtain ⟨z12, hz12⟩ : ∃ z, z = z10 ++ z11 := ⟨_, rfl⟩
                  have k11 := k1_cat 46 l z11 hz11 (by omega)
                  have k12 := cat_s z10 z11 z12 hz12 (by rw [hz11, List.length_cons]; omega)
                  have HF := Lib.hid (HPY.out z11 z12 (by rw [hz11, HLF.out]) hz12)
                  clear hc HL HLC HPY hz11 hz12 HLF
                  generalize hk : l'.length = k at *
                  go_wp2_with fail
                  go_ret
                  exact ⟨ClkE.mk HF.out rfl, nq + q1, by simp⟩
theorem rClock_any (s n : Int) (hs : I64 s) (hn : I64 n) (w : World) :
    Calls Tryd.prog 41 #[.int .i64 s, .int .i64 n] w fun e w' => ClkE s n e ∧ ∃ m, w' = w.drewN m := by
  cases hd : dayB s n
  · exact rClock_err s n hs hn hd w
  · have h := hd
    unfold dayB at h
    simp only [Bool.and_eq_true, decide_eq_true_eq] at h
    obtain ⟨_, _, g3, _⟩ := (right_iff s n).1 h.1.1
    obtain ⟨N, rfl⟩ : ∃ N : Nat, n = (N : Int) := ⟨n.toNat, by omega⟩
    exact rClock_ok s N h.1.1 h.1.2 h.2 w
end Go.Proofs.YtjldphpdfckjnaaDoor
namespace Go.Proofs.YtjldphpdfckjnaaDoor
open Go.RowKit Go.Lib

theorem drewBelow (w : World) (m : Nat) : Below w.heap.size w (w.drewN m) := belowDrewN (Below.refl _ _)
theorem rnumberB_any (n : Int) (h : I64 n) (w : World) :
    Calls Tryd.prog 38 #[.int .i64 n] w fun e w' => e = .returned (.string (S (itoa n))) ∧ Below w.heap.size w w' := by
  refine (rnumber_any n h w).mono ?_
  rintro e w' ⟨h, m, rfl⟩
  exact ⟨h, drewBelow w m⟩
theorem rClockB_any (s n : Int) (hs : I64 s) (hn : I64 n) (w : World) :
    Calls Tryd.prog 41 #[.int .i64 s, .int .i64 n] w fun e w' => ClkE s n e ∧ Below w.heap.size w w' := by
  refine (rClock_any s n hs hn w).mono ?_
  rintro e w' ⟨h, m, rfl⟩
  exact ⟨h, drewBelow w m⟩
set_option maxRecDepth 100000 in
theorem rowner_any (name : List UInt8) (id : Int) (hl : name.length ≤ 1000000) (hi : I64 id) (w : World) :
    Calls Tryd.prog 40 #[.string (S name), .int .i64 id] w fun e w' => e = .returned (.string (S (ownerL name id))) ∧ Below w.heap.size w w' := by
  have HI := Lib.hid (rnumberB_any id hi w)
  have HQ := Lib.hid (rquote_any (S name) false w (by rw [S_size]; exact hl))
  clear hi
  by_cases hn : name = []
  · have h0 : name.isEmpty = true := by rw [hn]; rfl
    have H := Lib.hid (show itoa id = ownerL name id by unfold ownerL; rw [if_pos hn])
    clear hn
    go_enter Tryd.func40, Tryd.ntmps40
    go_wp2_with fail
    refine HI.out.mono ?_
    rintro e w1 ⟨rfl, hb1⟩
    go_wp2_with fail
    go_ret
    exact ⟨by rw [← H.out]; rfl, hb1⟩
  · have h0 : name.isEmpty = false := by simpa using hn
    have H := Lib.hid (show quoteF false name = ownerL name id by unfold ownerL; rw [if_neg hn])
    clear hn
    go_enter Tryd.func40, Tryd.ntmps40
    go_wp2_with fail
    refine HQ.out.mono ?_
    rintro e w1 ⟨rfl, hb1⟩
    go_wp2_with fail
    go_ret
    exact ⟨by rw [← H.out]; rfl, hb1⟩
set_option maxRecDepth 100000 in
set_option maxHeartbeats 8000000 in
theorem rline_any (m : MemL) (size : Int) (hm : OkM m) (hsz : I64 size) (w : World) :
    Calls Tryd.prog 20 #[.agg (MC m).toArray, .int .i64 size] w fun e w' => LineE m size e ∧ Below w.heap.size w w' := by
  have HA := Lib.hid (AtB.new w 55 (MC m))
  have HB := Lib.hid ((Below.refl w.heap.size w).alloc (Nat.le_refl _) (.cells (MC m).toArray 55))
  have HI := Lib.hid (fun n (h : I64 n) W (_ : Below w.heap.size w W) => rnumberB_any n h W)
  have hBs : w.heap.size ≤ w.heap.size := Nat.le_refl _
  have HM := Lib.hid hm
  have HS := Lib.hid hsz
  clear hm hsz
  go_enter Tryd.func20, Tryd.ntmps20
  go_wp2_with fail
  refine (HI.out size HS.out _ HB.out).mono ?_
  rintro e w1 ⟨rfl, hb1⟩
  have x0 : AtB w1 w.heap.size 55 (MC m) ∧ Below w.heap.size w w1 := ⟨HA.out.below hb1, chain HB.out hb1⟩
  generalize hg : w.heap.size = g at *
  have hg2 : g ≤ w.heap.size := by omega
  clear HA HB hb1 hBs
  have lS := itoa_len size HS.out.1 HS.out.2
  have lA := itoa_len m.major HM.out.major.1 HM.out.major.2
  have lI := itoa_len m.minor HM.out.minor.1 HM.out.minor.2
  have HMU := Lib.hid (show ∀ k, muchL k size m.major m.minor = if k = 51 ∨ k = 52 then itoa m.major ++ 44 :: itoa m.minor else itoa size from fun k => rfl)
  obtain ⟨-, c2, -⟩ := mem_keep x0
  have HX := Lib.hid x0
  clear x0
  go_upto_region 2 with (fail)
  go_cut [16] (fun v wx => v = .bool (devB m.kind) ∧ wx = w1)
  case first =>
    rcases dev_cases m.kind with ⟨hd, t1⟩ | ⟨hd, t1, t2⟩ | ⟨hd, t1, t2⟩
    all_goals
      have HD := Lib.hid hd
      clear hd
      go_wp2_with fail
      go_meet
      exact ⟨by rw [HD.out], rfl⟩
  case rest =>
    obtain ⟨rfl, rfl⟩ := hcut
    clear c2
    go_upto_if 16 with (fail)
    go_cut [5] (fun v wx => v = .string (S (muchL m.kind size m.major m.minor)) ∧ AtB wx g 55 (MC m) ∧ Below g w wx)
    case first =>
      have HIA := Lib.hid (fun W (hW : Below g w W) => HI.out m.major HM.out.major W hW)
      have HII := Lib.hid (fun W (hW : Below g w W) => HI.out m.minor HM.out.minor W hW)
      obtain ⟨z1, hz1⟩ : ∃ z, z = itoa m.major ++ [44] := ⟨_, rfl⟩
      obtain ⟨z2, hz2⟩ : ∃ z, z = z1 ++ itoa m.minor := ⟨_, rfl⟩
      have HZ := Lib.hid (show z2 = itoa m.major ++ 44 :: itoa m.minor by rw [hz2, hz1]; simp)
      have k1 := cat_k1 (itoa m.major) 44 z1 hz1 (by omega)
      have m1 : z1.length ≤ 21 := by rw [hz1, List.length_append, List.length_singleton]; omega
      have k2 := cat_s z1 (itoa m.minor) z2 hz2 (by omega)
      clear hz1 hz2
      generalize itoa m.major = A at *
      generalize itoa m.minor = I at *
      generalize itoa size = Z at *
      cases hd : devB m.kind
      · have HU := Lib.hid (show Z = muchL m.kind size m.major m.minor by rw [HMU.out, if_neg (dev_not _ hd)])
        clear HMU HZ k1 k2
        go_wp2_with fail
        go_meet
        exact ⟨by rw [← HU.out], HX.out⟩
      · have HU := Lib.hid (show z2 = muchL m.kind size m.major m.minor by rw [HMU.out, if_pos (dev_yes _ hd), HZ.out])
        clear HMU HZ
        go_wp2_with fail
        have x0 : AtB wc.drew g 55 (MC m) ∧ Below g w wc.drew := ⟨HX.out.1.drew, HX.out.2.drew⟩
        clear HX
        go_region_held3 (fun W => W.cell? ⟨g, 8, none⟩ = some (.int .i64 m.major) ∧ W.cell? ⟨g, 9, none⟩ = some (.int .i64 m.minor) ∧ AtB W g 55 (MC m) ∧ Below g w W) (exact ((mem_keep (by assumption)).2.2.2.2.2.2.2 |> fun h => ⟨h.1, h.2.1, h.2.2.2.2⟩)) (first
          | (go_at_call 38; (with_reducible refine (HIA.out _ x0.2).mono ?_); rintro e w2 ⟨rfl, hb2⟩; have x0 := at_next x0 hb2 hg2)
          | (go_at_call 38; (with_reducible refine (HII.out _ x0.2).mono ?_); rintro e w2 ⟨rfl, hb2⟩; have x0 := at_next x0 hb2 hg2))
        go_wp2_with fail
        go_meet
        exact ⟨by rw [← HU.out], x0⟩
    case rest =>
      obtain ⟨rfl, x0⟩ := hcut
      clear HX HMU lS lA lI HI
      have lR := rights_len m.mode m.kind
      have HRI := Lib.hid (fun W => rrights_any m.mode m.kind W)
      have HOU := Lib.hid (fun W (_ : Below g w W) => rowner_any m.uname m.uid (by have := HM.out.uname; omega) HM.out.uid W)
      have HOG := Lib.hid (fun W (_ : Below g w W) => rowner_any m.gname m.gid (by have := HM.out.gname; omega) HM.out.gid W)
      have HCK := Lib.hid (fun W (_ : Below g w W) => rClockB_any m.sec m.nsec HM.out.sec HM.out.nsec W)
      have HQN := Lib.hid (fun W => rquote_any (S m.name) true W (by rw [S_size]; have := HM.out.name; omega))
      have HQL := Lib.hid (fun W => rquote_any (S m.link) true W (by rw [S_size]; have := HM.out.link; omega))
      have lU := ownerL_len m.uname m.uid HM.out.uid.1 HM.out.uid.2
      have lG := ownerL_len m.gname m.gid HM.out.gid.1 HM.out.gid.2
      have lM := muchL_len m.kind size m.major m.minor HS.out HM.out.major HM.out.minor
      have lN := quoteF_len true m.name
      have lL := quoteF_len true m.link
      have l1 := HM.out.name
      have l2 := HM.out.link
      have l3 := HM.out.uname
      have l4 := HM.out.gname
      have lC := clkL_len m.sec m.nsec HM.out.sec HM.out.nsec
      have HLN := Lib.hid (show ∀ k, linkL m = k → lineL m size = rightsL m.mode m.kind ++ 32 :: (ownerL m.uname m.uid ++ 47 :: (ownerL m.gname m.gid ++ 32 :: (muchL m.kind size m.major m.minor ++ 32 :: (clkL m.sec m.nsec ++ 32 :: (quoteF true m.name ++ k))))) from fun k hk => by rw [← hk]; rfl)
      have HLK := Lib.hid (show linkL m = if arrowL m.kind = [] then [] else arrowL m.kind ++ quoteF true m.link from rfl)
      have HCE := Lib.hid (show ∀ e, ClkE m.sec m.nsec e → ClkP m.sec m.nsec (clkL m.sec m.nsec) ∧ e = .returned (.string (S (clkL m.sec m.nsec))) from fun e h => h)
      have HLE := Lib.hid (show ∀ e l, ClkP m.sec m.nsec (clkL m.sec m.nsec) → lineL m size = l → e = .returned (.string (S l)) → LineE m size e from fun e l h1 h2 h3 => ⟨h1, by rw [h2]; exact h3⟩)
      rw [S_data] at HQN HQL
      clear HS
      generalize ClkP m.sec m.nsec (clkL m.sec m.nsec) = PC at *
      generalize rightsL m.mode m.kind = r at *
      generalize ownerL m.uname m.uid = o at *
      generalize ownerL m.gname m.gid = q at *
      generalize muchL m.kind size m.major m.minor = u at *
      generalize clkL m.sec m.nsec = c at *
      generalize quoteF true m.name = n at *
      generalize quoteF true m.link = k at *
      obtain ⟨z1, hz1⟩ : ∃ z, z = r ++ [32] := ⟨_, rfl⟩
      have k1 := cat_k1 r 32 z1 hz1 (by omega)
      have m1 : z1.length = r.length + 1 := by rw [hz1, List.length_append, List.length_singleton]
      obtain ⟨z2, hz2⟩ : ∃ z, z = z1 ++ o := ⟨_, rfl⟩
      have k2 := cat_s z1 o z2 hz2 (by omega)
      have m2 : z2.length = z1.length + o.length := by rw [hz2, List.length_append]
      obtain ⟨z3, hz3⟩ : ∃ z, z = z2 ++ [47] := ⟨_, rfl⟩
      have k3 := cat_k1 z2 47 z3 hz3 (by omega)
      have m3 : z3.length = z2.length + 1 := by rw [hz3, List.length_append, List.length_singleton]
      obtain ⟨z4, hz4⟩ : ∃ z, z = z3 ++ q := ⟨_, rfl⟩
      have k4 := cat_s z3 q z4 hz4 (by omega)
      have m4 : z4.length = z3.length + q.length := by rw [hz4, List.length_append]
      obtain ⟨z5, hz5⟩ : ∃ z, z = z4 ++ [32] := ⟨_, rfl⟩
      have k5 := cat_k1 z4 32 z5 hz5 (by omega)
      have m5 : z5.length = z4.length + 1 := by rw [hz5, List.length_append, List.length_singleton]
      obtain ⟨z6, hz6⟩ : ∃ z, z = z5 ++ u := ⟨_, rfl⟩
      have k6 := cat_s z5 u z6 hz6 (by omega)
      have m6 : z6.length = z5.length + u.length := by rw [hz6, List.length_append]
      obtain ⟨z7, hz7⟩ : ∃ z, z = z6 ++ [32] := ⟨_, rfl⟩
      have k7 := cat_k1 z6 32 z7 hz7 (by omega)
      have m7 : z7.length = z6.length + 1 := by rw [hz7, List.length_append, List.length_singleton]
      obtain ⟨z8, hz8⟩ : ∃ z, z = z7 ++ c := ⟨_, rfl⟩
      have k8 := cat_s z7 c z8 hz8 (by omega)
      have m8 : z8.length = z7.length + c.length := by rw [hz8, List.length_append]
      obtain ⟨z9, hz9⟩ : ∃ z, z = z8 ++ [32] := ⟨_, rfl⟩
      have k9 := cat_k1 z8 32 z9 hz9 (by omega)
      have m9 : z9.length = z8.length + 1 := by rw [hz9, List.length_append, List.length_singleton]
      obtain ⟨z10, hz10⟩ : ∃ z, z = z9 ++ n := ⟨_, rfl⟩
      have k10 := cat_s z9 n z10 hz10 (by omega)
      have m10 : z10.length = z9.length + n.length := by rw [hz10, List.length_append]
      have HPT := Lib.hid (show ∀ k z11, z11 = z10 ++ k → z11 = r ++ 32 :: (o ++ 47 :: (q ++ 32 :: (u ++ 32 :: (c ++ 32 :: (n ++ k))))) from fun k z11 h => line_parts r o q u c n k z1 z2 z3 z4 z5 z6 z7 z8 z9 z10 z11 hz1 hz2 hz3 hz4 hz5 hz6 hz7 hz8 hz9 hz10 h)
      have m11 : z10.length ≤ 10000 := by omega
      clear hz1 hz2 hz3 hz4 hz5 hz6 hz7 hz8 hz9 hz10
      have HL10 := Lib.hid m11
      clear m1 m2 m3 m4 m5 m6 m7 m8 m9 m10 m11
      have HX := Lib.hid x0
      clear x0
      go_upto_region 4 with (fail)
      go_cut [6] (fun v wx => PC ∧ v = .string (S z10) ∧ AtB wx g 55 (MC m) ∧ Below g w wx)
      case first =>
        clear HLN HLK HLE HPT HL10 HQL lL HM l1 l2 l3 l4 lU lG lM lC lR lN
        have x0 : AtB wc.drew g 55 (MC m) ∧ Below g w wc.drew := ⟨HX.out.1.drew, HX.out.2.drew⟩
        clear HX
        go_region_held3 (fun W => W.cell? ⟨g, 0, none⟩ = some (.string (S m.name)) ∧ W.cell? ⟨g, 2, none⟩ = some (.int .u8 m.kind.toNat) ∧ W.cell? ⟨g, 3, none⟩ = some (.int .i64 m.mode) ∧ W.cell? ⟨g, 4, none⟩ = some (.int .i64 m.uid) ∧ W.cell? ⟨g, 5, none⟩ = some (.int .i64 m.gid)
            ∧ W.cell? ⟨g, 6, none⟩ = some (.string (S m.uname)) ∧ W.cell? ⟨g, 7, none⟩ = some (.string (S m.gname)) ∧ W.cell? ⟨g, 8, none⟩ = some (.int .i64 m.major) ∧ W.cell? ⟨g, 9, none⟩ = some (.int .i64 m.minor) ∧ W.cell? ⟨g, 10, none⟩ = some (.int .i64 m.sec) ∧ W.cell? ⟨g, 11, none⟩ = some (.int .i64 m.nsec) ∧ AtB W g 55 (MC m) ∧ Below g w W) (exact mem_keep (by assumption)) (first
          | (go_at_call 39; (with_reducible refine (HRI.out _).mono ?_); rintro e w2 ⟨rfl, hb2⟩; have x0 := at_next x0 hb2 hg2)
          | (go_at_call 40; (with_reducible refine (HOU.out _ x0.2).mono ?_); rintro e w2 ⟨rfl, hb2⟩; have x0 := at_next x0 hb2 hg2)
          | (go_at_call 40; (with_reducible refine (HOG.out _ x0.2).mono ?_); rintro e w2 ⟨rfl, hb2⟩; have x0 := at_next x0 hb2 hg2)
          | (go_at_call 41; (with_reducible refine (HCK.out _ x0.2).mono ?_); rintro e w2 ⟨hce, hb2⟩; obtain ⟨hPC, rfl⟩ := HCE.out _ hce; have x0 := at_next x0 hb2 hg2)
          | (go_at_call 42; (with_reducible refine (HQN.out _).mono ?_); rintro e w2 ⟨rfl, hb2⟩; have x0 := at_next x0 hb2 hg2))
        go_wp2_with fail
        go_meet
        exact ⟨hPC, rfl, x0⟩
      case rest =>
        obtain ⟨hPC, rfl, x0⟩ := hcut
        clear HX HRI HOU HOG HCK HQN HCE k1 k2 k3 k4 k5 k6 k7 k8 k9 k10
        obtain ⟨c0, c2, -⟩ := mem_keep x0
        have c1 : wc.cell? ⟨g, 1, none⟩ = some (.string (S m.link)) := x0.1.cell 1
        have HX := Lib.hid x0
        clear x0
        by_cases h50 : m.kind = 50
        · have t1 : ((m.kind.toNat : Int) == 50) = true := byte_beq _ 50 _ rfl h50
          have t2 : ((m.kind.toNat : Int) == 49) = false := byte_beq' _ 49 _ rfl (by rw [h50]; decide)
          have ha : arrowL m.kind = [32, 45, 62, 32] := by unfold arrowL; rw [if_pos h50]
          obtain ⟨z11, hz11⟩ : ∃ z, z = 32 :: 45 :: 62 :: 32 :: k := ⟨_, rfl⟩
          obtain ⟨z12, hz12⟩ : ∃ z, z = z10 ++ z11 := ⟨_, rfl⟩
          have k11 := k4_cat 32 45 62 32 k z11 hz11 (by omega)
          have m11 : z11.length = k.length + 4 := by rw [hz11]; rfl
          have k12 := cat_s z10 z11 z12 hz12 (by have := HL10.out; omega)
          have HF := Lib.hid (show lineL m size = z12 by
            rw [HLN.out z11 (by rw [HLK.out, ha, if_neg (by decide), hz11]; rfl), ← HPT.out z11 z12 hz12])
          clear ha HLN HLK HPT hz11 hz12 h50
          go_wp2_with fail
          refine (HQL.out _).mono ?_
          rintro e w2 ⟨rfl, hb2⟩
          have c2b : w2.cell? ⟨g, 2, none⟩ = some (.int .u8 m.kind.toNat) := (HX.out.1.below hb2).cell 2
          go_wp2_with fail
          go_ret
          exact ⟨HLE.out _ _ hPC HF.out rfl, by rw [hg]; exact HX.out.2.trans (hb2.mono (by have := HX.out.2.size; omega))⟩
        have t1 : ((m.kind.toNat : Int) == 50) = false := byte_beq' _ 50 _ rfl h50
        by_cases h49 : m.kind = 49
        · have t2 : ((m.kind.toNat : Int) == 49) = true := byte_beq _ 49 _ rfl h49
          have ha : arrowL m.kind = [32, 61, 61, 32] := by unfold arrowL; rw [if_neg h50, if_pos h49]
          obtain ⟨z11, hz11⟩ : ∃ z, z = 32 :: 61 :: 61 :: 32 :: k := ⟨_, rfl⟩
          obtain ⟨z12, hz12⟩ : ∃ z, z = z10 ++ z11 := ⟨_, rfl⟩
          have k11 := k4_cat 32 61 61 32 k z11 hz11 (by omega)
          have m11 : z11.length = k.length + 4 := by rw [hz11]; rfl
          have k12 := cat_s z10 z11 z12 hz12 (by have := HL10.out; omega)
          have HF := Lib.hid (show lineL m size = z12 by
            rw [HLN.out z11 (by rw [HLK.out, ha, if_neg (by decide), hz11]; rfl), ← HPT.out z11 z12 hz12])
          clear ha HLN HLK HPT hz11 hz12 h50 h49
          go_wp2_with fail
          refine (HQL.out _).mono ?_
          rintro e w2 ⟨rfl, hb2⟩
          go_wp2_with fail
          go_ret
          exact ⟨HLE.out _ _ hPC HF.out rfl, by rw [hg]; exact HX.out.2.trans (hb2.mono (by have := HX.out.2.size; omega))⟩
        have t2 : ((m.kind.toNat : Int) == 49) = false := byte_beq' _ 49 _ rfl h49
        have ha : arrowL m.kind = [] := by unfold arrowL; rw [if_neg h50, if_neg h49]
        have HF := Lib.hid (show lineL m size = z10 by
          rw [HLN.out [] (by rw [HLK.out, if_pos ha]), ← HPT.out [] z10 (by simp)])
        clear ha HLN HLK HPT h50 h49
        go_wp2_with fail
        go_ret
        exact ⟨HLE.out _ _ hPC HF.out rfl, by rw [hg]; exact HX.out.2⟩
end Go.Proofs.YtjldphpdfckjnaaDoor
namespace Go.Proofs.YtjldphpdfckjnaaDoor
open Go.RowKit Go.Lib

def longE (p : PR) : Bool := decide (300 < p.1.length) || decide (300 < p.2.length)
def longP (l : List PR) : Bool := decide (12 < l.length) || l.any longE
theorem longP_big (l : List PR) (h : 12 < l.length) : longP l = true := by unfold longP; rw [decide_eq_true h]; rfl
theorem longP_at (l : List PR) (k : Nat) (h : k < l.length) (hl : longE l[k] = true) : longP l = true := by
  unfold longP
  rw [List.any_eq_true.2 ⟨_, List.getElem_mem h, hl⟩, Bool.or_true]
theorem any_take (l : List PR) (k : Nat) (h : k < l.length) (ha : (l.take k).any longE = false) (hl : longE l[k] = false) : (l.take (k + 1)).any longE = false := by
  rw [List.take_succ_eq_append_getElem h, List.any_append, ha]; simp [hl]
theorem longP_no (l : List PR) (h : ¬ 12 < l.length) (ha : l.any longE = false) : longP l = false := by
  unfold longP
  rw [ha, decide_eq_false h]; rfl
set_option maxRecDepth 100000 in
set_option maxHeartbeats 1000000 in
theorem long_any (l : List PR) (v : Value) (hm : ∀ p ∈ l, p.1.length ≤ 140737488355328 ∧ p.2.length ≤ 140737488355328) (w : World) (hv : PairsV w v l) :
    Calls Tryd.prog 37 #[v] w fun e w' => e = .returned (.bool (longP l)) ∧ w = w' := by
  obtain ⟨a, c, rfl, hc⟩ := hv
  by_cases h12 : 12 < l.length
  · have H := Lib.hid (longP_big l h12)
    have hI : (12 : Int) < (l.length : Int) := by omega
    clear hc h12 hm
    go_enter Tryd.func37, Tryd.ntmps37
    go_wp2_with fail
    go_ret
    exact ⟨by rw [H.out]; rfl, rfl⟩
  · have HC := Lib.hid hc
    have HM := Lib.hid hm
    have hI : ¬ (12 : Int) < (l.length : Int) := by omega
    have H12 := Lib.hid h12
    clear hc h12 hm
    go_enter Tryd.func37, Tryd.ntmps37
    go_wp2_with fail
    go_loop [3] (fun i => ∃ k : Nat, i = .int .i64 k ∧ k ≤ l.length ∧ Hid ((l.take k).any longE = false)) (fun i => l.length - (RowKit.intOf i).toNat)
    case atStart => exact ⟨0, rfl, Nat.zero_le _, rfl⟩
    case round =>
      obtain ⟨k, rfl, hk, HA⟩ := hrel
      by_cases hlt : k < l.length
      · obtain ⟨b, off, rfl, hb, hcell⟩ := HC.out (by omega)
        have c0 : w.cell? ⟨b, off + k * 2, none⟩ = some (.string (S l[k].1)) := hcell k hlt 0 _ rfl
        have c1 : w.cell? ⟨b, off + k * 2 + 1, none⟩ = some (.string (S l[k].2)) := hcell k hlt 1 _ rfl
        obtain ⟨m0, m1⟩ := HM.out l[k] (List.getElem_mem hlt)
        have HLA := Lib.hid (longP_at l k hlt)
        have HTK := Lib.hid (any_take l k hlt HA.out)
        have HE := Lib.hid (show longE l[k] = (decide (300 < l[k].1.length) || decide (300 < l[k].2.length)) from rfl)
        generalize l[k] = p at *
        obtain ⟨x, y⟩ := p
        clear hcell HC
        by_cases h0 : 300 < x.length
        · have h0I : (300 : Int) < (x.length : Int) := by omega
          have H := Lib.hid (HLA.out (by rw [HE.out, decide_eq_true h0]; rfl))
          clear h0
          go_wp2_with fail
          go_ret
          exact ⟨by rw [H.out]; rfl, rfl⟩
        have h0I : ¬ (300 : Int) < (x.length : Int) := by omega
        by_cases h1 : 300 < y.length
        · have h1I : (300 : Int) < (y.length : Int) := by omega
          have H := Lib.hid (HLA.out (by rw [HE.out, decide_eq_true h1]; simp))
          clear h0 h1
          go_wp2_with fail
          go_ret
          exact ⟨by rw [H.out]; rfl, rfl⟩
        have h1I : ¬ (300 : Int) < (y.length : Int) := by omega
        have H := Lib.hid (HTK.out (by rw [HE.out, decide_eq_false h0, decide_eq_false h1]; rfl))
        clear h0 h1
        go_wp2_with fail
        go_round
        case rel => exact ⟨k + 1, by go_num, hlt, H.out⟩
        case measure => simp [RowKit.intOf]; omega
      · have hkl : k = l.length := by omega
        subst hkl
        have H := Lib.hid (longP_no l H12.out (by have := HA.out; rw [List.take_length] at this; exact this))
        clear HC
        go_wp2_with fail
        go_ret
        exact ⟨by rw [H.out]; rfl, rfl⟩
/-- may a member be gone through? -/
def longM (m : MemL) (x : List PR) : Bool := longP x || decide (600 < m.name.length) || decide (600 < m.link.length) || decide (100 < m.uname.length) || decide (100 < m.gname.length) || decide (2000 < m.data.length)
theorem longM_no (m : MemL) (x : List PR) (h : longM m x = false) : m.name.length ≤ 600 ∧ m.link.length ≤ 600 ∧ m.uname.length ≤ 100 ∧ m.gname.length ≤ 100 ∧ m.data.length ≤ 2000 := by
  unfold longM at h
  simp only [Bool.or_eq_false_iff, decide_eq_false_iff_not] at h
  omega
set_option maxRecDepth 100000 in
set_option maxHeartbeats 2000000 in
theorem Long_any (m : MemL) (x : List PR) (hm : ∀ p ∈ x, p.1.length ≤ 140737488355328 ∧ p.2.length ≤ 140737488355328) (w : World) (hv : PairsV w m.extra x) :
    Calls Tryd.prog 19 #[.agg (MC m).toArray] w fun e w' => e = .returned (.bool (longM m x)) ∧ Below w.heap.size w w' := by
  have HA := Lib.hid (AtB.new w 55 (MC m))
  have HB := Lib.hid ((Below.refl w.heap.size w).alloc (Nat.le_refl _) (.cells (MC m).toArray 55))
  have HL := long_any x m.extra hm _ (RowsV.below hv HB.out (Nat.le_refl _))
  obtain ⟨ea, ec, he, -⟩ := hv
  rw [he] at HL
  have HE := Lib.hid he
  have HL := Lib.hid HL
  have HF := Lib.hid (show longM m x = (longP x || decide (600 < m.name.length) || decide (600 < m.link.length) || decide (100 < m.uname.length) || decide (100 < m.gname.length) || decide (2000 < m.data.length)) from rfl)
  clear hm he
  go_enter Tryd.func19, Tryd.ntmps19
  go_upto_region 1 with (fail)
  generalize w.alloc (.cells (MC m).toArray 55) = W at *
  have hA := HA.out
  have c0 : W.cell? ⟨w.heap.size, 0, none⟩ = some (.string (S m.name)) := hA.cell 0
  have c1 : W.cell? ⟨w.heap.size, 1, none⟩ = some (.string (S m.link)) := hA.cell 1
  have c6 : W.cell? ⟨w.heap.size, 6, none⟩ = some (.string (S m.uname)) := hA.cell 6
  have c7 : W.cell? ⟨w.heap.size, 7, none⟩ = some (.string (S m.gname)) := hA.cell 7
  have c12 : W.cell? ⟨w.heap.size, 12, none⟩ = some (.slice ea x.length ec) := by rw [← HE.out]; exact hA.cell 12
  have c13 : W.cell? ⟨w.heap.size, 13, none⟩ = some (.string (S m.data)) := hA.cell 13
  clear hA
  cases hb0 : longP x
  case true =>
    have H := Lib.hid (show longM m x = true by rw [HF.out, hb0]; rfl)
    rw [hb0] at HL
    clear HF hb0
    go_wp2_with fail
    refine HL.out.mono ?_
    rintro e w' ⟨rfl, rfl⟩
    go_wp2_with fail
    go_ret
    exact ⟨by rw [H.out]; rfl, HB.out⟩
  have HL2 := HL.out
  rw [hb0] at HL2
  have HL2 := Lib.hid HL2
  have HF2 := Lib.hid (show longM m x = (false || decide (600 < m.name.length) || decide (600 < m.link.length) || decide (100 < m.uname.length) || decide (100 < m.gname.length) || decide (2000 < m.data.length)) by rw [HF.out, hb0])
  clear HL HF hb0
  by_cases h0 : 600 < m.name.length
  · have g0 : (600 : Int) < (m.name.length : Int) := by omega
    have H := Lib.hid (show longM m x = true by rw [HF2.out, decide_eq_true h0]; simp)
    clear HF2 h0
    go_wp2_with fail
    refine HL2.out.mono ?_
    rintro e w' ⟨rfl, rfl⟩
    go_wp2_with fail
    go_ret
    exact ⟨by rw [H.out]; rfl, HB.out⟩
  have g0 : ¬ (600 : Int) < (m.name.length : Int) := by omega
  by_cases h1 : 600 < m.link.length
  · have g1 : (600 : Int) < (m.link.length : Int) := by omega
    have H := Lib.hid (show longM m x = true by rw [HF2.out, decide_eq_true h1]; simp)
    clear HF2 h0 h1
    go_wp2_with fail
    refine HL2.out.mono ?_
    rintro e w' ⟨rfl, rfl⟩
    go_wp2_with fail
    go_ret
    exact ⟨by rw [H.out]; rfl, HB.out⟩
  have g1 : ¬ (600 : Int) < (m.link.length : Int) := by omega
  by_cases h2 : 100 < m.uname.length
  · have g2 : (100 : Int) < (m.uname.length : Int) := by omega
    have H := Lib.hid (show longM m x = true by rw [HF2.out, decide_eq_true h2]; simp)
    clear HF2 h0 h1 h2
    go_wp2_with fail
    refine HL2.out.mono ?_
    rintro e w' ⟨rfl, rfl⟩
    go_wp2_with fail
    go_ret
    exact ⟨by rw [H.out]; rfl, HB.out⟩
  have g2 : ¬ (100 : Int) < (m.uname.length : Int) := by omega
  by_cases h3 : 100 < m.gname.length
  · have g3 : (100 : Int) < (m.gname.length : Int) := by omega
    have H := Lib.hid (show longM m x = true by rw [HF2.out, decide_eq_true h3]; simp)
    clear HF2 h0 h1 h2 h3
    go_wp2_with fail
    refine HL2.out.mono ?_
    rintro e w' ⟨rfl, rfl⟩
    go_wp2_with fail
    go_ret
    exact ⟨by rw [H.out]; rfl, HB.out⟩
  have g3 : ¬ (100 : Int) < (m.gname.length : Int) := by omega
  by_cases h4 : 2000 < m.data.length
  · have g4 : (2000 : Int) < (m.data.length : Int) := by omega
    have H := Lib.hid (show longM m x = true by rw [HF2.out, decide_eq_true h4]; simp)
    clear HF2 h0 h1 h2 h3 h4
    go_wp2_with fail
    refine HL2.out.mono ?_
    rintro e w' ⟨rfl, rfl⟩
    go_wp2_with fail
    go_ret
    exact ⟨by rw [H.out]; rfl, HB.out⟩
  have g4 : ¬ (2000 : Int) < (m.data.length : Int) := by omega
  have H := Lib.hid (show longM m x = false by rw [HF2.out, decide_eq_false h0, decide_eq_false h1, decide_eq_false h2, decide_eq_false h3, decide_eq_false h4]; rfl)
  clear HF2 h0 h1 h2 h3 h4
  go_wp2_with fail
  refine HL2.out.mono ?_
  rintro e w' ⟨rfl, rfl⟩
  go_wp2_with fail
  go_ret
  refine ⟨ret_bool ?_, HB.out⟩
  rw [H.out]
  simp
  omega
end Go.Proofs.YtjldphpdfckjnaaDoor
namespace Go.Proofs.YtjldphpdfckjnaaDoor
open Go.RowKit Go.Lib

/-- all blocks but one are as they were -/
structure KeptBut (g : Nat) (w w' : World) : Prop where
  size : w.heap.size ≤ w'.heap.size
  block : ∀ k, k < w.heap.size → k ≠ g → w'.heap[k]? = w.heap[k]?
theorem KeptBut.refl (g : Nat) (w : World) : KeptBut g w w := ⟨Nat.le_refl _, fun _ _ _ => rfl⟩
theorem KeptBut.trans {g : Nat} {w u v : World} (h : KeptBut g w u) (k : KeptBut g u v) : KeptBut g w v :=
  ⟨Nat.le_trans h.size k.size, fun j hj hne => (k.block j (Nat.lt_of_lt_of_le hj h.size) hne).trans (h.block j hj hne)⟩
theorem KeptBut.below {g : Nat} {w w' : World} (h : Below w.heap.size w w') : KeptBut g w w' := ⟨h.size, fun k hk _ => h.block k hk⟩
theorem KeptBut.set (g i : Nat) (v : Value) (w : World) : KeptBut g w (w.setCell ⟨g, i, none⟩ v) := ⟨by simp, fun k _ hne => heap_setCell_other w ⟨g, i, none⟩ k v hne⟩
theorem KeptBut.cell {g b o : Nat} {w w' : World} {u : Value} (h : KeptBut g w w') (hne : b ≠ g) (hc : w.cell? ⟨b, o, none⟩ = some u) : w'.cell? ⟨b, o, none⟩ = some u := by
  have hb := World.block_lt_of_cell? _ _ hc
  have e := h.block b hb hne
  unfold World.cell? at *
  simp only [e]
  exact hc
theorem KeptBut.atB {g b : Nat} {T : TypeId} {C : List Value} {w w' : World} (h : KeptBut g w w') (hne : b ≠ g) (hA : AtB w b T C) : AtB w' b T C := (h.block b hA.lt hne).trans hA
theorem below_set {B g i : Nat} {v : Value} {w w' : World} (h : Below B w w') (hg : B ≤ g) : Below B w (w'.setCell ⟨g, i, none⟩ v) := h.setCell hg v
set_option maxRecDepth 100000 in
set_option maxHeartbeats 2000000 in
theorem texts2_any (name : Bool) (s1 s2 t1 t2 : List UInt8) (h1 : plainR name s1 = (t1, true)) (h2 : plainR name s2 = (t2, true)) (n1 : s1.length ≤ 100000) (n2 : s2.length ≤ 100000)
    (g f1 f2 : Nat) (T : TypeId) (C : List Value) (b1 o1 c1 b2 o2 c2 : Nat) (w : World) (hA : AtB w g T C) (hC1 : f1 < C.length) (hC2 : f2 < C.length)
    (a1 : w.cell? ⟨b1, o1, none⟩ = some (.string (S s1))) (a2 : w.cell? ⟨b1, o1 + 1, none⟩ = some (.string (S s2)))
    (p1 : w.cell? ⟨b2, o2, none⟩ = some (.pointer (some ⟨g, f1, none⟩))) (p2 : w.cell? ⟨b2, o2 + 1, none⟩ = some (.pointer (some ⟨g, f2, none⟩)))
    (e1 : b1 ≠ g) (e2 : b2 ≠ g) (B : Nat) (hB : B ≤ g) :
    Calls Tryd.prog 50 #[.bool name, .slice (some ⟨b1, o1, none⟩) 2 c1, .slice (some ⟨b2, o2, none⟩) 2 c2] w fun e w' =>
      e = .returned (.bool true) ∧ AtB w' g T ((C.set f1 (.string (S t1))).set f2 (.string (S t2))) ∧ Below B w w' ∧ KeptBut g w w' := by
  have HQ1 := Lib.hid (fun w => plainq_any (S s1) name w (by rw [S_size]; omega))
  have HQ2 := Lib.hid (fun w => plainq_any (S s2) name w (by rw [S_size]; omega))
  rw [S_data, h1] at HQ1
  rw [S_data, h2] at HQ2
  have HA := Lib.hid hA
  have HA2 := Lib.hid a2
  have HP1 := Lib.hid p1
  have HP2 := Lib.hid p2
  clear h1 h2 hA a2 p1 p2
  go_enter Tryd.func50, Tryd.ntmps50
  go_wp2_with fail
  refine wp_loop_rounds 3 ?_
  rw [rounds_succ]
  go_wp2_with fail
  refine (HQ1.out _).mono ?_
  rintro e w1 ⟨rfl, hb1⟩
  have hA1 := HA.out.below hb1
  have hB1 : Below B w w1 := hb1.mono (by have := HA.out.lt; omega)
  have hK1 : KeptBut g w w1 := KeptBut.below hb1
  have q1 := hK1.cell e2 HP1.out
  have c1' : w1.cell? ⟨g, f1, none⟩ = some (C[f1]) := by rw [hA1.cell f1, List.getElem?_eq_getElem hC1]
  have z1 := hA1.fz f1
  have HK1 := Lib.hid hK1
  clear a1 hb1 hK1
  generalize C[f1] = old1 at *
  go_wp2_with fail
  have hA2 : AtB (w1.setCell ⟨g, f1, none⟩ (.string (S t1))) g T (C.set f1 (.string (S t1))) := hA1.set f1 _
  have hB2 : Below B w (w1.setCell ⟨g, f1, none⟩ (.string (S t1))) := below_set hB1 hB
  have hK2 : KeptBut g w (w1.setCell ⟨g, f1, none⟩ (.string (S t1))) := HK1.out.trans (KeptBut.set g f1 _ w1)
  clear hA1 hB1 HK1 q1 c1' z1
  generalize w1.setCell ⟨g, f1, none⟩ (.string (S t1)) = w2 at *
  have a2 := hK2.cell e1 HA2.out
  rw [rounds_succ]
  go_wp2_with fail
  refine (HQ2.out _).mono ?_
  rintro e w3 ⟨rfl, hb3⟩
  have hA3 := hA2.below hb3
  have hB3 : Below B w w3 := hB2.trans (hb3.mono (by have := hA2.lt; omega))
  have hK3 : KeptBut g w w3 := hK2.trans (KeptBut.below hb3)
  have q2 := hK3.cell e2 HP2.out
  have hC2' : f2 < (C.set f1 (.string (S t1))).length := by rw [List.length_set]; exact hC2
  have c2' : w3.cell? ⟨g, f2, none⟩ = some ((C.set f1 (.string (S t1)))[f2]) := by rw [hA3.cell f2, List.getElem?_eq_getElem hC2']
  have z2 := hA3.fz f2
  have HK3 := Lib.hid hK3
  clear a2 hb3 hK3 hA2 hB2 hK2
  generalize (C.set f1 (.string (S t1)))[f2] = old2 at *
  go_wp2_with fail
  have hA4 : AtB (w3.setCell ⟨g, f2, none⟩ (.string (S t2))) g T ((C.set f1 (.string (S t1))).set f2 (.string (S t2))) := hA3.set f2 _
  have hB4 : Below B w (w3.setCell ⟨g, f2, none⟩ (.string (S t2))) := below_set hB3 hB
  have hK4 : KeptBut g w (w3.setCell ⟨g, f2, none⟩ (.string (S t2))) := HK3.out.trans (KeptBut.set g f2 _ w3)
  clear hA3 hB3 HK3 q2 c2' z2
  generalize w3.setCell ⟨g, f2, none⟩ (.string (S t2)) = w4 at *
  rw [rounds_succ]
  go_wp2_with fail
  go_ret
  exact ⟨rfl, hA4, hB4, hK4⟩
set_option maxRecDepth 100000 in
set_option maxHeartbeats 2000000 in
theorem texts1_any (name : Bool) (s1 t1 : List UInt8) (h1 : plainR name s1 = (t1, true)) (n1 : s1.length ≤ 100000)
    (g f1 : Nat) (T : TypeId) (C : List Value) (b1 o1 c1 b2 o2 c2 : Nat) (w : World) (hA : AtB w g T C) (hC1 : f1 < C.length)
    (a1 : w.cell? ⟨b1, o1, none⟩ = some (.string (S s1)))
    (p1 : w.cell? ⟨b2, o2, none⟩ = some (.pointer (some ⟨g, f1, none⟩)))
    (e2 : b2 ≠ g) (B : Nat) (hB : B ≤ g) :
    Calls Tryd.prog 50 #[.bool name, .slice (some ⟨b1, o1, none⟩) 1 c1, .slice (some ⟨b2, o2, none⟩) 1 c2] w fun e w' =>
      e = .returned (.bool true) ∧ AtB w' g T (C.set f1 (.string (S t1))) ∧ Below B w w' ∧ KeptBut g w w' := by
  have HQ1 := Lib.hid (fun w => plainq_any (S s1) name w (by rw [S_size]; omega))
  rw [S_data, h1] at HQ1
  have HA := Lib.hid hA
  have HP1 := Lib.hid p1
  clear h1 hA p1
  go_enter Tryd.func50, Tryd.ntmps50
  go_wp2_with fail
  refine wp_loop_rounds 2 ?_
  rw [rounds_succ]
  go_wp2_with fail
  refine (HQ1.out _).mono ?_
  rintro e w1 ⟨rfl, hb1⟩
  have hA1 := HA.out.below hb1
  have hB1 : Below B w w1 := hb1.mono (by have := HA.out.lt; omega)
  have hK1 : KeptBut g w w1 := KeptBut.below hb1
  have q1 := hK1.cell e2 HP1.out
  have c1' : w1.cell? ⟨g, f1, none⟩ = some (C[f1]) := by rw [hA1.cell f1, List.getElem?_eq_getElem hC1]
  have z1 := hA1.fz f1
  have HK1 := Lib.hid hK1
  clear a1 hb1 hK1
  generalize C[f1] = old1 at *
  go_wp2_with fail
  have hA2 : AtB (w1.setCell ⟨g, f1, none⟩ (.string (S t1))) g T (C.set f1 (.string (S t1))) := hA1.set f1 _
  have hB2 : Below B w (w1.setCell ⟨g, f1, none⟩ (.string (S t1))) := below_set hB1 hB
  have hK2 : KeptBut g w (w1.setCell ⟨g, f1, none⟩ (.string (S t1))) := HK1.out.trans (KeptBut.set g f1 _ w1)
  clear hA1 hB1 HK1 q1 c1' z1
  generalize w1.setCell ⟨g, f1, none⟩ (.string (S t1)) = w2 at *
  rw [rounds_succ]
  go_wp2_with fail
  go_ret
  exact ⟨rfl, hA2, hB2, hK2⟩
end Go.Proofs.YtjldphpdfckjnaaDoor
namespace Go.Proofs.YtjldphpdfckjnaaDoor
open Go.RowKit Go.Lib

/-- strings.Split at a blank -/
theorem split_any (l : List UInt8) (hl : l.length ≤ 1000000) (w : World) (hT : MX w) :
    Calls Tryd.prog 47 #[.string (S l), .string ⟨#[32]⟩] w fun e w' => e = .returned (.slice (some ⟨w.heap.size, 0, none⟩) (Lib.split l [32]).length (Lib.split l [32]).length) ∧ w' = w.alloc (.cells ((Lib.split l [32]).map sv).toArray 9) := by
  obtain ⟨m, hm⟩ := hT
  have hlen := Lib.splitB_all (S [32]) (by decide) 0 (Lib.countB (S l) (S [32])) (S l) rfl
  have hdata := Lib.splitB_data (S [32]) 0 (Lib.countB (S l) (S [32])) (S l)
  have hd2 : (Lib.splitB (S [32]) 0 (Lib.countB (S l) (S [32])) (S l)).map (·.data.toList) = Lib.split l [32] := hdata
  have hmap : (Lib.splitB (S [32]) 0 (Lib.countB (S l) (S [32])) (S l)).map Value.string = (Lib.split l [32]).map sv := by
    rw [← hd2, List.map_map]
    rfl
  have hn : (Lib.split l [32]).length = Lib.countB (S l) (S [32]) + 1 := by rw [← hd2, List.length_map, hlen]
  rw [hn, ← hmap]
  exact Go.Proofs.Tryd.strings_Split (S l) (S [32]) m w (by rw [S_size]; omega) hm (by decide)
theorem twC_at (c : UInt8) (A B : List UInt8) (h : c ∉ A) : twC c (A ++ c :: B) = A ∧ dwC c (A ++ c :: B) = c :: B := by
  unfold twC dwC
  induction A with
  | nil => simp
  | cons a A ih =>
    have ha : a ≠ c := fun e => h (e ▸ List.mem_cons_self)
    obtain ⟨i1, i2⟩ := ih (fun m => h (List.mem_cons_of_mem _ m))
    rw [List.cons_append, List.takeWhile_cons, List.dropWhile_cons, if_pos (by simpa using ha), if_pos (by simpa using ha), i1, i2]
    exact ⟨rfl, rfl⟩
def RC (mode : Int) (kind : UInt8) (ow gr si ti nm lk : List UInt8) : List Value := [.int .i64 mode, .int .u8 kind.toNat, .string (S ow), .string (S gr), .string (S si), .string (S ti), .string (S nm), .string (S lk)]
theorem RC_one (mode : Int) (kind : UInt8) (ow gr si ti nm lk : List UInt8) : (RC mode kind ow gr si ti nm lk).toArray.all (·.oneCell') = true := by simp [RC, Value.oneCell']
theorem RC0 : RC 0 0 [] [] [] [] [] [] = [.int .i64 0, .int .u8 0, .string ⟨#[]⟩, .string ⟨#[]⟩, .string ⟨#[]⟩, .string ⟨#[]⟩, .string ⟨#[]⟩, .string ⟨#[]⟩] := rfl
theorem info_row : (Tryd.prog.info? 61).map (·.size) = some 8 := by kernel_rfl
def PLP (v : Value) (B : Nat) (w : World) (e : Ending) (w' : World) : Prop := e = .returned v ∧ Below B w w'
def badV : Value := .tuple #[.agg (RC 0 0 [] [] [] [] [] []).toArray, .int .i64 2]
theorem row_sets (mode : Int) (kind : UInt8) (ow gr si ti nm : List UInt8) :
    (((RC 0 0 [] [] [] [] [] []).set 0 (.int .i64 mode)).set 1 (.int .u8 kind.toNat)) = RC mode kind [] [] [] [] [] [] ∧
    (((RC mode kind [] [] [] [] [] []).set 4 (.string (S si))).set 5 (.string (S ti))) = RC mode kind [] [] si ti [] [] ∧
    (((RC mode kind [] [] si ti [] []).set 2 (.string (S ow))).set 3 (.string (S gr))) = RC mode kind ow gr si ti [] [] ∧
    ((RC mode kind ow gr si ti [] []).set 6 (.string (S nm))) = RC mode kind ow gr si ti nm [] := ⟨rfl, rfl, rfl, rfl⟩
theorem ps_cell {ps : List (List UInt8)} {k : Nat} {p : List UInt8} (h : ps[k]? = some p) {w : World} {g : Nat} {T : TypeId} (hA : AtB w g T (ps.map sv)) : w.cell? ⟨g, k, none⟩ = some (.string (S p)) := by
  rw [hA.cell k, List.getElem?_map, h]; rfl
theorem prF_call (p0 : List UInt8) (mode : Int) (kind : UInt8) (er : Int) (h : prF p0 = (mode, kind, er)) (w : World) :
    Calls Tryd.prog 48 #[.string (S p0)] w fun e w' => e = .returned (.tuple #[.int .i64 mode, .int .u8 kind.toNat, .int .i64 er]) ∧ Below w.heap.size w w' := by
  have := parseRights_any (S p0) w
  rw [S_data, h] at this
  exact this
set_option maxRecDepth 100000 in
set_option maxHeartbeats 4000000 in
/-- where the signs are none -/
theorem parse_bad (l p0 : List UInt8) (ps : List (List UInt8)) (hl : l.length ≤ 1000000) (hps : Lib.split l [32] = ps) (hn : 5 ≤ ps.length) (hn2 : ps.length ≤ 10) (h0 : ps[0]? = some p0) (hp : prF p0 = (0, 0, 2))
    (w : World) (hT : TM w) :
    Calls Tryd.prog 23 #[.string (S l)] w fun e w' => e = .returned badV ∧ Below w.heap.size w w' := by
  have hB1 := (Below.refl w.heap.size w).alloc (Nat.le_refl _) (.cells (RC 0 0 [] [] [] [] [] []).toArray 61)
  have hB2 := hB1.alloc hB1.size (.cells (RC 0 0 [] [] [] [] [] []).toArray 61)
  have R2 := (AtB.new w 61 (RC 0 0 [] [] [] [] [] [])).alloc (.cells (RC 0 0 [] [] [] [] [] []).toArray 61)
  have R4 := AtB.new (w.alloc (.cells (RC 0 0 [] [] [] [] [] []).toArray 61)) 61 (RC 0 0 [] [] [] [] [] [])
  have hsz : (w.alloc (.cells (RC 0 0 [] [] [] [] [] []).toArray 61)).heap.size = w.heap.size + 1 := by simp
  rw [hsz] at R4
  have HS := Lib.hid (split_any l hl _ (hT.mx.on hB2))
  rw [hps] at HS
  have HB := Lib.hid hB2
  have HR2 := Lib.hid R2
  have HR4 := Lib.hid R4
  have HC := Lib.hid (fun W (k : Nat) p (h : ps[k]? = some p) g (hA : AtB W g 9 (ps.map sv)) => ps_cell h hA)
  have H0 := Lib.hid h0
  have HP := Lib.hid (prF_call p0 0 0 2 hp)
  have hnI : (5 : Int) ≤ (ps.length : Int) := by omega
  have hnJ : (ps.length : Int) ≤ 10 := by omega
  have HN := Lib.hid hn
  clear hB1 hB2 R2 R4 hT hps h0 hp hsz hl hn hn2
  go_enter Tryd.func23, Tryd.ntmps23
  go_upto_region 3 with (fail)
  change Code.wp _ _ _ _ ((w.alloc (.cells (RC 0 0 [] [] [] [] [] []).toArray 61)).alloc (.cells (RC 0 0 [] [] [] [] [] []).toArray 61))
  generalize (w.alloc (.cells (RC 0 0 [] [] [] [] [] []).toArray 61)).alloc (.cells (RC 0 0 [] [] [] [] [] []).toArray 61) = W2 at *
  go_wp2_with fail
  refine HS.out.mono ?_
  rintro e w3 ⟨rfl, rfl⟩
  have R2 := Lib.hid (HR2.out.alloc (.cells (ps.map sv).toArray 9))
  have R4 := Lib.hid (HR4.out.alloc (.cells (ps.map sv).toArray 9))
  have RS := Lib.hid (AtB.new W2 9 (ps.map sv))
  have HB3 := Lib.hid (HB.out.alloc HB.out.size (.cells (ps.map sv).toArray 9))
  have d24 : w.heap.size ≠ w.heap.size + 1 := by omega
  have ds2 : W2.heap.size ≠ w.heap.size := by have := HR2.out.lt; omega
  have ds4 : W2.heap.size ≠ w.heap.size + 1 := by have := HR4.out.lt; omega
  generalize W2.alloc (.cells (ps.map sv).toArray 9) = W3 at *
  generalize W2.heap.size = gs at *
  have hg4 : w.heap.size ≤ w.heap.size + 1 := by omega
  generalize hgg : w.heap.size + 1 = g4 at *
  have HG4 := Lib.hid hgg
  clear hgg HB HS HR2 HR4
  have c0 := HC.out W3 0 p0 H0.out gs RS.out
  go_wp2_with fail
  refine (HP.out _).mono ?_
  rintro e w4 ⟨rfl, hb4⟩
  have R2 := Lib.hid (R2.out.below hb4)
  have R4 := Lib.hid (R4.out.below hb4)
  have HB4 := Lib.hid (chain HB3.out hb4)
  have q0 : w4.cell? ⟨g4, 0, none⟩ = some (.int .i64 0) := R4.out.cell 0
  have q1 : w4.cell? ⟨g4, 1, none⟩ = some (.int .u8 0) := R4.out.cell 1
  have f0 := R4.out.fz 0
  have f1 := R4.out.fz 1
  go_upto_region 8 with (fail)
  have R2 : Hid (AtB ((w4.setCell ⟨g4, 0, none⟩ (.int .i64 0)).setCell ⟨g4, 1, none⟩ (.int .u8 0)) w.heap.size 61 (RC 0 0 [] [] [] [] [] [])) := (R2.out.setOther g4 0 _ (fun e => d24 e.symm)).setOther g4 1 _ (fun e => d24 e.symm)
  have HB5 : Hid (Below w.heap.size w ((w4.setCell ⟨g4, 0, none⟩ (.int .i64 0)).setCell ⟨g4, 1, none⟩ (.int .u8 0))) := (HB4.out.setCell hg4 _).setCell hg4 _
  generalize (w4.setCell ⟨g4, 0, none⟩ (.int .i64 0)).setCell ⟨g4, 1, none⟩ (.int .u8 0) = W5 at *
  go_wp2_with (first | (refine rw_store rfl _ _ rfl _ rfl (RC 0 0 [] [] [] [] [] []) (RC 0 0 [] [] [] [] [] []) R2.out rfl info_row rfl (RC_one _ _ _ _ _ _ _ _) _ w HB5.out (Nat.le_refl _) ?_; intro W6 hA6 hB6 hk6))
  refine bodyPost_ret (v := badV) (by rw [results_rw2 Tryd.underlying61 Tryd.results23 _ _ w.heap.size (RC 0 0 [] [] [] [] [] []) rfl hA6 info_row]; rfl) rfl ⟨rfl, hB6⟩
end Go.Proofs.YtjldphpdfckjnaaDoor
namespace Go.Proofs.YtjldphpdfckjnaaDoor
open Go.RowKit

theorem step_app_v (T e : TypeId) (z : Value) (by_ : Nat) (hT : Tryd.prog.underlying T = some (.slice e)) (hinfo : (Tryd.prog.info? e).map (fun i => (i.zero, i.size, i.bytes)) = some (some z, 1, by_)) (hz : z.cells.size = 1) (hby : by_ ≤ 1000)
    {ops : Array Oper} {o : Oper} {a : Act} {K : Act → World → Prop} {Q : Exit → Act → World → Prop} {E : Prop} {w0 : World} (hgd : o.guard = none) (s x : Operand)
    (ho : o.op = .call { callee := .builtin .append, args := #[s, x], argTypes := #[T, T] })
    (base : Nat) (v : Value) (l : List Value) (n : Value) (hn : n.oneCell' = true) (hs : a.eval s = v) (hown : OwnV e w0 base v l)
    (g : Nat) (hx : a.eval x = .slice (some ⟨g, 0, none⟩) 1 1) (hc : w0.cell? ⟨g, 0, none⟩ = some n)
    (hbound : l.length ≤ 1000000000) (hbase : base ≤ w0.heap.size)
    (h : ∀ v' w', OwnV e w' base v' (l ++ [n]) → Below base w0 w' → Grew w0 w' v v' → K (a.put o.dst v') w') :
    if Region.wanted o (yielded ops a.tmps) = true then o.wp Tryd.prog a w0 K Q else E := by
  have hw : Region.wanted o (yielded ops a.tmps) = true := by simp [Region.wanted, hgd]
  rw [if_pos hw]
  obtain ⟨i0, hi, hz0, hz1, hz2⟩ := info_parts hinfo
  have hcell : ∀ j u, [n][j]? = some u → w0.cell? ((⟨g, 0, none⟩ : Addr).add j) = some u := by
    intro j u hj
    match j, hj with
    | 0, hj =>
      have e1 : (⟨g, 0, none⟩ : Addr).add 0 = ⟨g, 0, none⟩ := by rw [Addr.add_lit]
      rw [e1, hc]
      simpa using hj
  have hb2 : (l.length + 1) * by_ ≤ 140737488355328 := by
    have : (l.length + 1) * by_ ≤ (1000000000 + 1) * 1000 := Nat.mul_le_mul (by omega) hby
    omega
  obtain ⟨v', w', hr, h2, h3⟩ := run_append_sep (P := Tryd.prog) w0 base T o.type e i0 z 1 by_ hT hi hz0 hz1 hz2 hz (by decide) v l.length l hown
    ⟨g, 0, none⟩ 1 1 [n] rfl hcell (by intro u hu; rw [List.mem_singleton.1 hu]; exact hn) (by unfold maxLen; omega) hb2 hbase
  unfold Oper.wp execOp
  simp only [ho, resolve, invoke, builtin, Sem.run_bind, Sem.run_pure, Result.andThen_ok, List.map_toArray, List.map_cons, List.map_nil, hs, hx, hr]
  refine h v' w' ?_ ?_ h3
  · unfold OwnV
    rw [List.length_append]
    exact h2
  · refine (Below.refl base w0).grown h3.grown hbase ?_
    intro k hk
    exact (hown.lt k hk).1
end Go.Proofs.YtjldphpdfckjnaaDoor
namespace Go.Proofs.YtjldphpdfckjnaaDoor
open Go.RowKit Go.Lib

set_option maxRecDepth 100000 in
set_option maxHeartbeats 8000000 in
theorem parse_plain (l p0 p1 p2 p3 p4 : List UInt8) (ps : List (List UInt8)) (hl : l.length ≤ 1000000) (hps : Lib.split l [32] = ps) (hn : ps.length = 5)
    (h0 : ps[0]? = some p0) (h1 : ps[1]? = some p1) (h2 : ps[2]? = some p2) (h3 : ps[3]? = some p3) (h4 : ps[4]? = some p4)
    (mode : Int) (kind : UInt8) (A G ow gr nm : List UInt8) (hp : prF p0 = (mode, kind, 0)) (hp1 : p1 = A ++ 47 :: G) (hA : (47 : UInt8) ∉ A) (l1 : p1.length ≤ 20000)
    (hxA : plainR false A = (ow, true)) (hxG : plainR false G = (gr, true)) (hp2 : p2 ≠ []) (hp3 : p3 ≠ []) (hx4 : plainR true p4 = (nm, true)) (l4 : p4.length ≤ 20000) (ha : arrowL kind = [])
    (w : World) (hT : TM w) :
    Calls Tryd.prog 23 #[.string (S l)] w fun e w' => e = .returned (.tuple #[.agg (RC mode kind ow gr p2 p3 nm []).toArray, .int .i64 0]) ∧ Below w.heap.size w w' := by
  have hB1 := (Below.refl w.heap.size w).alloc (Nat.le_refl _) (.cells (RC 0 0 [] [] [] [] [] []).toArray 61)
  have hB2 := hB1.alloc hB1.size (.cells (RC 0 0 [] [] [] [] [] []).toArray 61)
  have R2 := (AtB.new w 61 (RC 0 0 [] [] [] [] [] [])).alloc (.cells (RC 0 0 [] [] [] [] [] []).toArray 61)
  have R4 := AtB.new (w.alloc (.cells (RC 0 0 [] [] [] [] [] []).toArray 61)) 61 (RC 0 0 [] [] [] [] [] [])
  have hsz : (w.alloc (.cells (RC 0 0 [] [] [] [] [] []).toArray 61)).heap.size = w.heap.size + 1 := by simp
  rw [hsz] at R4
  have HS := Lib.hid (split_any l hl _ (hT.mx.on hB2))
  rw [hps] at HS
  have HB := Lib.hid hB2
  have HR2 := Lib.hid R2
  have HR4 := Lib.hid R4
  have HC := Lib.hid (fun W (k : Nat) p (h : ps[k]? = some p) g (hA : AtB W g 9 (ps.map sv)) => ps_cell h hA)
  have H0 := Lib.hid h0
  have H1 := Lib.hid h1
  have H2 := Lib.hid h2
  have H3 := Lib.hid h3
  have H4 := Lib.hid h4
  have HP := Lib.hid (prF_call p0 mode kind 0 hp)
  have HCT := Lib.hid (cut_c 47 p1 (by omega))
  have e47 : cutCV 47 p1 = .tuple #[.string (S A), .string (S G), .bool true] := by
    obtain ⟨t1, t2⟩ := twC_at 47 A G hA
    unfold cutCV
    rw [hp1, t1, t2]
    rfl
  rw [e47] at HCT
  have HXA := Lib.hid hxA
  have HXG := Lib.hid hxG
  have HX4 := Lib.hid hx4
  have i2 : p2.isEmpty = false := by simpa using hp2
  have i3 : p3.isEmpty = false := by simpa using hp3
  have nA : A.length ≤ 20000 := by rw [hp1, List.length_append] at l1; omega
  have nG : G.length ≤ 20000 := by rw [hp1, List.length_append, List.length_cons] at l1; omega
  have HAR := Lib.hid (arrow_any kind)
  rw [ha] at HAR
  have hnI : (ps.length : Int) = 5 := by omega
  rw [hn] at HS
  clear ha hn hnI
  clear hB1 hB2 R2 R4 hT hps h0 h1 h2 h3 h4 hp hsz hl hp1 hA hxA hxG hx4 hp2 hp3 e47
  go_enter Tryd.func23, Tryd.ntmps23
  go_upto_region 3 with (fail)
  change Code.wp _ _ _ _ ((w.alloc (.cells (RC 0 0 [] [] [] [] [] []).toArray 61)).alloc (.cells (RC 0 0 [] [] [] [] [] []).toArray 61))
  generalize (w.alloc (.cells (RC 0 0 [] [] [] [] [] []).toArray 61)).alloc (.cells (RC 0 0 [] [] [] [] [] []).toArray 61) = W2 at *
  go_wp2_with fail
  refine HS.out.mono ?_
  rintro e w3 ⟨rfl, rfl⟩
  have R2 := Lib.hid (HR2.out.alloc (.cells (ps.map sv).toArray 9))
  have R4 := Lib.hid (HR4.out.alloc (.cells (ps.map sv).toArray 9))
  have RS := Lib.hid (AtB.new W2 9 (ps.map sv))
  have HB3 := Lib.hid (HB.out.alloc HB.out.size (.cells (ps.map sv).toArray 9))
  have d24 : w.heap.size ≠ w.heap.size + 1 := by omega
  have ds2 : W2.heap.size ≠ w.heap.size := by have := HR2.out.lt; omega
  have ds4 : W2.heap.size ≠ w.heap.size + 1 := by have := HR4.out.lt; omega
  generalize W2.alloc (.cells (ps.map sv).toArray 9) = W3 at *
  generalize W2.heap.size = gs at *
  have hg4 : w.heap.size ≤ w.heap.size + 1 := by omega
  generalize hgg : w.heap.size + 1 = g4 at *
  clear hgg HB HS HR2 HR4
  have c0 := HC.out W3 0 p0 H0.out gs RS.out
  go_wp2_with fail
  refine (HP.out _).mono ?_
  rintro e w4 ⟨rfl, hb4⟩
  have R2a := Lib.hid (R2.out.below hb4)
  have R4a := Lib.hid (R4.out.below hb4)
  have RSa := Lib.hid (RS.out.below hb4)
  have HB4 := Lib.hid (chain HB3.out hb4)
  have q0 : w4.cell? ⟨g4, 0, none⟩ = some (.int .i64 0) := R4a.out.cell 0
  have q1 : w4.cell? ⟨g4, 1, none⟩ = some (.int .u8 0) := R4a.out.cell 1
  have f0 := R4a.out.fz 0
  have f1 := R4a.out.fz 1
  clear R2 R4 RS HB3 c0 hb4 HP
  go_upto_region 9 with (fail)
  have R2b : Hid (AtB ((w4.setCell ⟨g4, 0, none⟩ (.int .i64 mode)).setCell ⟨g4, 1, none⟩ (.int .u8 kind.toNat)) w.heap.size 61 (RC 0 0 [] [] [] [] [] [])) := (R2a.out.setOther g4 0 _ (fun e => d24 e.symm)).setOther g4 1 _ (fun e => d24 e.symm)
  have RSb : Hid (AtB ((w4.setCell ⟨g4, 0, none⟩ (.int .i64 mode)).setCell ⟨g4, 1, none⟩ (.int .u8 kind.toNat)) gs 9 (ps.map sv)) := (RSa.out.setOther g4 0 _ (fun e => ds4 e.symm)).setOther g4 1 _ (fun e => ds4 e.symm)
  have R4b : Hid (AtB ((w4.setCell ⟨g4, 0, none⟩ (.int .i64 mode)).setCell ⟨g4, 1, none⟩ (.int .u8 kind.toNat)) g4 61 (RC mode kind [] [] [] [] [] [])) := (R4a.out.set 0 _).set 1 _
  have HB5 : Hid (Below w.heap.size w ((w4.setCell ⟨g4, 0, none⟩ (.int .i64 mode)).setCell ⟨g4, 1, none⟩ (.int .u8 kind.toNat))) := (HB4.out.setCell hg4 _).setCell hg4 _
  generalize (w4.setCell ⟨g4, 0, none⟩ (.int .i64 mode)).setCell ⟨g4, 1, none⟩ (.int .u8 kind.toNat) = W5 at *
  clear R2a R4a RSa HB4 q0 q1 f0 f1
  have c1 := HC.out W5 1 p1 H1.out gs RSb.out
  go_wp2_with fail
  refine (HCT.out _).mono ?_
  rintro e w' ⟨rfl, nq, rfl⟩
  have R2b2 : Hid (AtB (W5.drewN nq) w.heap.size 61 (RC 0 0 [] [] [] [] [] [])) := R2b.out
  have RSb2 : Hid (AtB (W5.drewN nq) gs 9 (ps.map sv)) := RSb.out
  have R4b2 : Hid (AtB (W5.drewN nq) g4 61 (RC mode kind [] [] [] [] [] [])) := R4b.out
  have HB52 : Hid (Below w.heap.size w (W5.drewN nq)) := belowDrewN HB5.out
  clear R2b RSb R4b HB5 c1 HCT
  have R2b := R2b2
  have RSb := RSb2
  have R4b := R4b2
  have HB5 := HB52
  clear R2b2 RSb2 R4b2 HB52
  generalize W5.drewN nq = W5 at *
  go_upto_region 10 with (fail)
  go_cut [] (fun wx => AtB wx w.heap.size 61 (RC 0 0 [] [] [] [] [] []) ∧ AtB wx g4 61 (RC mode kind [] [] p2 p3 [] []) ∧ AtB wx gs 9 (ps.map sv) ∧ Below w.heap.size w wx)
  case first =>
    have c2 := HC.out W5 2 p2 H2.out gs RSb.out
    have c3 := HC.out W5 3 p3 H3.out gs RSb.out
    have q4 : W5.cell? ⟨g4, 4, none⟩ = some (.string (S [])) := R4b.out.cell 4
    have q5 : W5.cell? ⟨g4, 5, none⟩ = some (.string (S [])) := R4b.out.cell 5
    have f4 := R4b.out.fz 4
    have f5 := R4b.out.fz 5
    go_region
    all_goals
      go_wp2_with fail
      go_meet
      first
        | exact ⟨((R2b.out.setOther g4 4 _ (fun e => d24 e.symm)).setOther g4 5 _ (fun e => d24 e.symm)), ((R4b.out.set 4 _).set 5 _), ((RSb.out.setOther g4 4 _ (fun e => ds4 e.symm)).setOther g4 5 _ (fun e => ds4 e.symm)), ((HB5.out.setCell hg4 _).setCell hg4 _).drew⟩
        | exact ⟨((R2b.out.setOther g4 5 _ (fun e => d24 e.symm)).setOther g4 4 _ (fun e => d24 e.symm)), ((R4b.out.set 5 _).set 4 _), ((RSb.out.setOther g4 5 _ (fun e => ds4 e.symm)).setOther g4 4 _ (fun e => ds4 e.symm)), ((HB5.out.setCell hg4 _).setCell hg4 _).drew⟩
  case rest =>
    obtain ⟨r2, r4, rs, hbb⟩ := hcut
    have R2c := Lib.hid r2
    have R4c := Lib.hid r4
    have RSc := Lib.hid rs
    have HB6 := Lib.hid hbb
    clear r2 r4 rs hbb R2b R4b RSb HB5
    have q4 : wc.cell? ⟨g4, 4, none⟩ = some (.string (S p2)) := R4c.out.cell 4
    have q5 : wc.cell? ⟨g4, 5, none⟩ = some (.string (S p3)) := R4c.out.cell 5
    have x4 := R4c.out.lt
    have RT : Hid (AtB ((wc.alloc (.cells #[.string (S A), .string (S G)] 9)).alloc (.cells #[.pointer (some ⟨g4, 2, none⟩), .pointer (some ⟨g4, 3, none⟩)] 95)) g4 61 (RC mode kind [] [] p2 p3 [] [])) := (R4c.out.alloc _).alloc _
    have RSd : Hid (AtB ((wc.alloc (.cells #[.string (S A), .string (S G)] 9)).alloc (.cells #[.pointer (some ⟨g4, 2, none⟩), .pointer (some ⟨g4, 3, none⟩)] 95)) gs 9 (ps.map sv)) := (RSc.out.alloc _).alloc _
    have R2d : Hid (AtB ((wc.alloc (.cells #[.string (S A), .string (S G)] 9)).alloc (.cells #[.pointer (some ⟨g4, 2, none⟩), .pointer (some ⟨g4, 3, none⟩)] 95)) w.heap.size 61 (RC 0 0 [] [] [] [] [] [])) := (R2c.out.alloc _).alloc _
    have HB7 : Hid (Below w.heap.size w ((wc.alloc (.cells #[.string (S A), .string (S G)] 9)).alloc (.cells #[.pointer (some ⟨g4, 2, none⟩), .pointer (some ⟨g4, 3, none⟩)] 95))) := (HB6.out.alloc HB6.out.size _).alloc (by have := HB6.out.size; simp; omega) _
    have HW : Hid (Calls Tryd.prog 50 #[.bool false, .slice (some ⟨wc.heap.size, 0, none⟩) 2 2, .slice (some ⟨wc.heap.size + 1, 0, none⟩) 2 2] ((wc.alloc (.cells #[.string (S A), .string (S G)] 9)).alloc (.cells #[.pointer (some ⟨g4, 2, none⟩), .pointer (some ⟨g4, 3, none⟩)] 95)) fun e w' =>
        e = .returned (.bool true) ∧ AtB w' g4 61 (RC mode kind ow gr p2 p3 [] []) ∧ Below w.heap.size ((wc.alloc (.cells #[.string (S A), .string (S G)] 9)).alloc (.cells #[.pointer (some ⟨g4, 2, none⟩), .pointer (some ⟨g4, 3, none⟩)] 95)) w' ∧ KeptBut g4 ((wc.alloc (.cells #[.string (S A), .string (S G)] 9)).alloc (.cells #[.pointer (some ⟨g4, 2, none⟩), .pointer (some ⟨g4, 3, none⟩)] 95)) w') :=
      texts2_any false A G ow gr HXA.out HXG.out (by omega) (by omega) g4 2 3 _ _ wc.heap.size 0 2 (wc.heap.size + 1) 0 2 _ RT.out (by show 2 < 8; decide) (by show 3 < 8; decide) (by simp) (by simp) (by simp) (by simp) (by omega) (by omega) w.heap.size hg4
    go_wp2_with fail
    refine HW.out.mono ?_
    rintro e w9 ⟨rfl, r4, hb9, hk9⟩
    have R4e := Lib.hid r4
    have RSe := Lib.hid (hk9.atB ds4 RSd.out)
    have R2e := Lib.hid (hk9.atB d24 R2d.out)
    have HB9 := Lib.hid (HB7.out.trans hb9)
    clear HW RT RSd R2d HB7 r4 hb9 hk9 q4 q5 R4c RSc R2c HB6 x4
    go_upto_region 14 with (fail)
    have RT : Hid (AtB (w9.alloc (.cells #[.pointer (some ⟨g4, 6, none⟩)] 95)) g4 61 (RC mode kind ow gr p2 p3 [] [])) := R4e.out.alloc _
    have RSf : Hid (AtB (w9.alloc (.cells #[.pointer (some ⟨g4, 6, none⟩)] 95)) gs 9 (ps.map sv)) := RSe.out.alloc _
    have R2f : Hid (AtB (w9.alloc (.cells #[.pointer (some ⟨g4, 6, none⟩)] 95)) w.heap.size 61 (RC 0 0 [] [] [] [] [] [])) := R2e.out.alloc _
    have HBf : Hid (Below w.heap.size w (w9.alloc (.cells #[.pointer (some ⟨g4, 6, none⟩)] 95))) := HB9.out.alloc HB9.out.size _
    have HOW : Hid (OwnV 95 (w9.alloc (.cells #[.pointer (some ⟨g4, 6, none⟩)] 95)) w9.heap.size (.slice (some ⟨w9.heap.size, 0, none⟩) 1 1) [.pointer (some ⟨g4, 6, none⟩)]) := World.ownsRow_lit (base := w9.heap.size) (e := 95) (size := 1) w9 #[.pointer (some ⟨g4, 6, none⟩)] 1 (Nat.le_refl _) (by decide) rfl
    have hpc : Hid ((w9.alloc (.cells #[.pointer (some ⟨g4, 6, none⟩)] 95)).cell? ⟨w9.heap.size, 0, none⟩ = some (.pointer (some ⟨g4, 6, none⟩))) := by unfold Hid; simp
    have d9 : w9.heap.size ≠ g4 := by have := R4e.out.lt; omega
    have b9 : w.heap.size ≤ w9.heap.size := HB9.out.size
    have hgs9 : gs < w9.heap.size := RSe.out.lt
    have h49 : g4 < w9.heap.size := R4e.out.lt
    have h29 : w.heap.size < w9.heap.size := R2e.out.lt
    have h910 : (w9.alloc (.cells #[.pointer (some ⟨g4, 6, none⟩)] 95)).heap.size = w9.heap.size + 1 := by simp
    generalize w9.alloc (.cells #[.pointer (some ⟨g4, 6, none⟩)] 95) = W10 at *
    generalize w9.heap.size = g9 at *
    have H910 := Lib.hid h910
    clear R4e RSe R2e HB9 h910
    have k1 : W10.cell? ⟨g4, 1, none⟩ = some (.int .u8 kind.toNat) := RT.out.cell 1
    go_wp2_with fail
    refine (HAR.out _).mono ?_
    rintro e w' ⟨rfl, rfl⟩
    have HW := Lib.hid (texts1_any true p4 nm HX4.out (by omega) g4 6 _ _ gs 4 1 g9 0 1 _ RT.out (by show 6 < 8; decide) (HC.out _ 4 p4 H4.out gs RSf.out) hpc.out d9 w.heap.size hg4)
    go_wp2_with fail
    refine HW.out.mono ?_
    rintro e w10 ⟨rfl, r4, hb10, hk10⟩
    have R4g : Hid (AtB w10 g4 61 (RC mode kind ow gr p2 p3 nm [])) := Lib.hid r4
    have R2g := Lib.hid (hk10.atB d24 R2f.out)
    have HBg := Lib.hid (HBf.out.trans hb10)
    clear HW RT RSf R2f HBf r4 hb10 hk10
    go_wp2_with (first | (refine rw_load Tryd.underlying61 rfl _ rfl g4 rfl _ R4g.out info_row ?_) | (refine rw_store rfl _ _ rfl _ rfl (RC 0 0 [] [] [] [] [] []) (RC mode kind ow gr p2 p3 nm []) R2g.out rfl info_row rfl (RC_one _ _ _ _ _ _ _ _) _ w HBg.out (Nat.le_refl _) ?_; intro W6 hA6 hB6 hk6))
    refine bodyPost_ret (v := .tuple #[.agg (RC mode kind ow gr p2 p3 nm []).toArray, .int .i64 0]) (by rw [results_rw2 Tryd.underlying61 Tryd.results23 _ _ w.heap.size (RC mode kind ow gr p2 p3 nm []) rfl hA6 info_row]; rfl) rfl ⟨rfl, hB6⟩
end Go.Proofs.YtjldphpdfckjnaaDoor
namespace Go.Proofs.YtjldphpdfckjnaaDoor
open Go.RowKit Go.Lib

def LinkG (gn : Nat) (v' : Value) (p4 p6 : List UInt8) (g4 : Nat) (mode : Int) (kind : UInt8) (ow gr p2 p3 : List UInt8) (w wx : World) : Prop :=
  ∃ gn' gi ci, (Value.slice (some ⟨gn, 0, none⟩) 2 2 = .slice (some ⟨gn', 0, none⟩) 2 2) ∧ v' = .slice (some ⟨gi, 0, none⟩) 2 ci ∧ gi ≠ g4 ∧ gn' ≠ g4 ∧ wx.cell? ⟨gn', 0, none⟩ = some (.string (S p4)) ∧ wx.cell? ⟨gn', 1, none⟩ = some (.string (S p6)) ∧ wx.cell? ⟨gi, 0, none⟩ = some (.pointer (some ⟨g4, 6, none⟩)) ∧ wx.cell? ⟨gi, 1, none⟩ = some (.pointer (some ⟨g4, 7, none⟩)) ∧ AtB wx w.heap.size 61 (RC 0 0 [] [] [] [] [] []) ∧ AtB wx g4 61 (RC mode kind ow gr p2 p3 [] []) ∧ Below w.heap.size w wx
theorem link_a {W10 w0 w w' : World} {v' : Value} {g9 g4 gn : Nat} {p4 p6 : List UInt8} {mode : Int} {kind : UInt8} {ow gr p2 p3 : List UInt8} (hB : Below w.heap.size w W10) (r2 : AtB W10 w.heap.size 61 (RC 0 0 [] [] [] [] [] [])) (r4 : AtB W10 g4 61 (RC mode kind ow gr p2 p3 [] [])) (z : Below g9 W10 w')
    (hO : OwnV 95 w' g9 v' ([.pointer (some ⟨g4, 6, none⟩)] ++ [.pointer (some ⟨g4, 7, none⟩)])) (hG : Grew w0 w' (.slice (some ⟨g9, 0, none⟩) 1 1) v') (h9 : w.heap.size ≤ g9) (h49 : g4 < g9) (h29 : w.heap.size < g9) (hn9 : gn ≠ g9) (hn4 : gn ≠ g4)
    (c0 : w0.cell? ⟨gn, 0, none⟩ = some (.string (S p4))) (c1 : w0.cell? ⟨gn, 1, none⟩ = some (.string (S p6))) : LinkG gn v' p4 p6 g4 mode kind ow gr p2 p3 w w' := by
  obtain ⟨gi, ci, hv, hgi, hlt, -, hcells, -⟩ := hO.at (by show 0 < 2; decide)
  have hs : some gn ≠ Value.ownBlock (.slice (some ⟨g9, 0, none⟩) 1 1) := by intro e; injection e with e; exact hn9 e
  exact ⟨gn, gi, ci, rfl, hv, by omega, hn4, hG.grown.cell c0 hs, hG.grown.cell c1 hs, hcells 0 (by show 0 < 2; decide), hcells 1 (by show 1 < 2; decide), r2.under z h29, r4.under z h49, hB.trans (z.mono h9)⟩
theorem link_b {W10 w w' : World} {v' : Value} {g9 g4 : Nat} {p4 p6 : List UInt8} {mode : Int} {kind : UInt8} {ow gr p2 p3 : List UInt8} (hB : Below w.heap.size w W10) (r2 : AtB W10 w.heap.size 61 (RC 0 0 [] [] [] [] [] [])) (r4 : AtB W10 g4 61 (RC mode kind ow gr p2 p3 [] [])) (z : Below g9 W10 w')
    (hO : OwnV 95 w' g9 v' ([.pointer (some ⟨g4, 6, none⟩)] ++ [.pointer (some ⟨g4, 7, none⟩)])) (h9 : w.heap.size ≤ g9) (h49 : g4 < g9) (h29 : w.heap.size < g9) : LinkG w'.heap.size v' p4 p6 g4 mode kind ow gr p2 p3 w (w'.alloc (.cells #[.string (S p4), .string (S p6)] 9)) := by
  obtain ⟨gi, ci, hv, hgi, hlt, -, hcells, -⟩ := hO.at (by show 0 < 2; decide)
  have q : Below w'.heap.size w' (w'.alloc (.cells #[.string (S p4), .string (S p6)] 9)) := (Below.refl w'.heap.size w').alloc (Nat.le_refl _) _
  have y2 := r2.under z h29
  have y4 := r4.under z h49
  exact ⟨w'.heap.size, gi, ci, rfl, hv, by omega, by have := y4.lt; omega, by simp, by simp, (q.cell (p := ⟨gi, 0, none⟩) hlt).trans (hcells 0 (by show 0 < 2; decide)), (q.cell (p := ⟨gi, 1, none⟩) hlt).trans (hcells 1 (by show 1 < 2; decide)), y2.alloc _, y4.alloc _, (hB.trans (z.mono h9)).trans (q.mono (hB.trans (z.mono h9)).size)⟩
theorem info_ptr : (Tryd.prog.info? 95).map (fun i => (i.zero, i.size, i.bytes)) = some (some (.pointer none), 1, 8) := by kernel_rfl
set_option maxRecDepth 100000 in
set_option maxHeartbeats 8000000 in
theorem parse_linked (l p0 p1 p2 p3 p4 : List UInt8) (ps : List (List UInt8)) (hl : l.length ≤ 1000000) (hps : Lib.split l [32] = ps) (hn : ps.length = 7)
    (h0 : ps[0]? = some p0) (h1 : ps[1]? = some p1) (h2 : ps[2]? = some p2) (h3 : ps[3]? = some p3) (h4 : ps[4]? = some p4)
    (mode : Int) (kind : UInt8) (A G ow gr nm lk p5 p6 : List UInt8) (hp : prF p0 = (mode, kind, 0)) (hp1 : p1 = A ++ 47 :: G) (hA : (47 : UInt8) ∉ A) (l1 : p1.length ≤ 20000)
    (hxA : plainR false A = (ow, true)) (hxG : plainR false G = (gr, true)) (hp2 : p2 ≠ []) (hp3 : p3 ≠ []) (hx4 : plainR true p4 = (nm, true)) (l4 : p4.length ≤ 20000) (h5 : ps[5]? = some p5) (h6 : ps[6]? = some p6) (ha : arrowL kind = 32 :: (p5 ++ [32])) (l5 : p5.length ≤ 100) (hx6 : plainR true p6 = (lk, true)) (l6 : p6.length ≤ 20000)
    (w : World) (hT : TM w) :
    Calls Tryd.prog 23 #[.string (S l)] w fun e w' => e = .returned (.tuple #[.agg (RC mode kind ow gr p2 p3 nm lk).toArray, .int .i64 0]) ∧ Below w.heap.size w w' := by
  have hB1 := (Below.refl w.heap.size w).alloc (Nat.le_refl _) (.cells (RC 0 0 [] [] [] [] [] []).toArray 61)
  have hB2 := hB1.alloc hB1.size (.cells (RC 0 0 [] [] [] [] [] []).toArray 61)
  have R2 := (AtB.new w 61 (RC 0 0 [] [] [] [] [] [])).alloc (.cells (RC 0 0 [] [] [] [] [] []).toArray 61)
  have R4 := AtB.new (w.alloc (.cells (RC 0 0 [] [] [] [] [] []).toArray 61)) 61 (RC 0 0 [] [] [] [] [] [])
  have hsz : (w.alloc (.cells (RC 0 0 [] [] [] [] [] []).toArray 61)).heap.size = w.heap.size + 1 := by simp
  rw [hsz] at R4
  have HS := Lib.hid (split_any l hl _ (hT.mx.on hB2))
  rw [hps] at HS
  have HB := Lib.hid hB2
  have HR2 := Lib.hid R2
  have HR4 := Lib.hid R4
  have HC := Lib.hid (fun W (k : Nat) p (h : ps[k]? = some p) g (hA : AtB W g 9 (ps.map sv)) => ps_cell h hA)
  have H0 := Lib.hid h0
  have H1 := Lib.hid h1
  have H2 := Lib.hid h2
  have H3 := Lib.hid h3
  have H4 := Lib.hid h4
  have HP := Lib.hid (prF_call p0 mode kind 0 hp)
  have HCT := Lib.hid (cut_c 47 p1 (by omega))
  have e47 : cutCV 47 p1 = .tuple #[.string (S A), .string (S G), .bool true] := by
    obtain ⟨t1, t2⟩ := twC_at 47 A G hA
    unfold cutCV
    rw [hp1, t1, t2]
    rfl
  rw [e47] at HCT
  have HXA := Lib.hid hxA
  have HXG := Lib.hid hxG
  have HX4 := Lib.hid hx4
  have i2 : p2.isEmpty = false := by simpa using hp2
  have i3 : p3.isEmpty = false := by simpa using hp3
  have nA : A.length ≤ 20000 := by rw [hp1, List.length_append] at l1; omega
  have nG : G.length ≤ 20000 := by rw [hp1, List.length_append, List.length_cons] at l1; omega
  have HAR := Lib.hid (arrow_any kind)
  have H5 := Lib.hid h5
  have H6 := Lib.hid h6
  have HX6 := Lib.hid hx6
  have ia : (arrowL kind).isEmpty = false := by rw [ha]; rfl
  obtain ⟨z1, hz1⟩ : ∃ z, z = 32 :: p5 := ⟨_, rfl⟩
  have s1 := k1_cat 32 p5 z1 hz1 (by omega)
  have s2 := cat_k1 z1 32 (arrowL kind) (by rw [ha, hz1]; rfl) (by rw [hz1, List.length_cons]; omega)
  generalize arrowL kind = aw at *
  rw [hn] at HS
  clear ha hn h5 h6 hx6 hz1
  clear hB1 hB2 R2 R4 hT hps h0 h1 h2 h3 h4 hp hsz hl hp1 hA hxA hxG hx4 hp2 hp3 e47
  go_enter Tryd.func23, Tryd.ntmps23
  go_upto_region 3 with (fail)
  change Code.wp _ _ _ _ ((w.alloc (.cells (RC 0 0 [] [] [] [] [] []).toArray 61)).alloc (.cells (RC 0 0 [] [] [] [] [] []).toArray 61))
  generalize (w.alloc (.cells (RC 0 0 [] [] [] [] [] []).toArray 61)).alloc (.cells (RC 0 0 [] [] [] [] [] []).toArray 61) = W2 at *
  go_wp2_with fail
  refine HS.out.mono ?_
  rintro e w3 ⟨rfl, rfl⟩
  have R2 := Lib.hid (HR2.out.alloc (.cells (ps.map sv).toArray 9))
  have R4 := Lib.hid (HR4.out.alloc (.cells (ps.map sv).toArray 9))
  have RS := Lib.hid (AtB.new W2 9 (ps.map sv))
  have HB3 := Lib.hid (HB.out.alloc HB.out.size (.cells (ps.map sv).toArray 9))
  have d24 : w.heap.size ≠ w.heap.size + 1 := by omega
  have ds2 : W2.heap.size ≠ w.heap.size := by have := HR2.out.lt; omega
  have ds4 : W2.heap.size ≠ w.heap.size + 1 := by have := HR4.out.lt; omega
  generalize W2.alloc (.cells (ps.map sv).toArray 9) = W3 at *
  generalize W2.heap.size = gs at *
  have hg4 : w.heap.size ≤ w.heap.size + 1 := by omega
  generalize hgg : w.heap.size + 1 = g4 at *
  clear hgg HB HS HR2 HR4
  have c0 := HC.out W3 0 p0 H0.out gs RS.out
  go_wp2_with fail
  refine (HP.out _).mono ?_
  rintro e w4 ⟨rfl, hb4⟩
  have R2a := Lib.hid (R2.out.below hb4)
  have R4a := Lib.hid (R4.out.below hb4)
  have RSa := Lib.hid (RS.out.below hb4)
  have HB4 := Lib.hid (chain HB3.out hb4)
  have q0 : w4.cell? ⟨g4, 0, none⟩ = some (.int .i64 0) := R4a.out.cell 0
  have q1 : w4.cell? ⟨g4, 1, none⟩ = some (.int .u8 0) := R4a.out.cell 1
  have f0 := R4a.out.fz 0
  have f1 := R4a.out.fz 1
  clear R2 R4 RS HB3 c0 hb4 HP
  go_upto_region 9 with (fail)
  have R2b : Hid (AtB ((w4.setCell ⟨g4, 0, none⟩ (.int .i64 mode)).setCell ⟨g4, 1, none⟩ (.int .u8 kind.toNat)) w.heap.size 61 (RC 0 0 [] [] [] [] [] [])) := (R2a.out.setOther g4 0 _ (fun e => d24 e.symm)).setOther g4 1 _ (fun e => d24 e.symm)
  have RSb : Hid (AtB ((w4.setCell ⟨g4, 0, none⟩ (.int .i64 mode)).setCell ⟨g4, 1, none⟩ (.int .u8 kind.toNat)) gs 9 (ps.map sv)) := (RSa.out.setOther g4 0 _ (fun e => ds4 e.symm)).setOther g4 1 _ (fun e => ds4 e.symm)
  have R4b : Hid (AtB ((w4.setCell ⟨g4, 0, none⟩ (.int .i64 mode)).setCell ⟨g4, 1, none⟩ (.int .u8 kind.toNat)) g4 61 (RC mode kind [] [] [] [] [] [])) := (R4a.out.set 0 _).set 1 _
  have HB5 : Hid (Below w.heap.size w ((w4.setCell ⟨g4, 0, none⟩ (.int .i64 mode)).setCell ⟨g4, 1, none⟩ (.int .u8 kind.toNat))) := (HB4.out.setCell hg4 _).setCell hg4 _
  generalize (w4.setCell ⟨g4, 0, none⟩ (.int .i64 mode)).setCell ⟨g4, 1, none⟩ (.int .u8 kind.toNat) = W5 at *
  clear R2a R4a RSa HB4 q0 q1 f0 f1
  have c1 := HC.out W5 1 p1 H1.out gs RSb.out
  go_wp2_with fail
  refine (HCT.out _).mono ?_
  rintro e w' ⟨rfl, nq, rfl⟩
  have R2b2 : Hid (AtB (W5.drewN nq) w.heap.size 61 (RC 0 0 [] [] [] [] [] [])) := R2b.out
  have RSb2 : Hid (AtB (W5.drewN nq) gs 9 (ps.map sv)) := RSb.out
  have R4b2 : Hid (AtB (W5.drewN nq) g4 61 (RC mode kind [] [] [] [] [] [])) := R4b.out
  have HB52 : Hid (Below w.heap.size w (W5.drewN nq)) := belowDrewN HB5.out
  clear R2b RSb R4b HB5 c1 HCT
  have R2b := R2b2
  have RSb := RSb2
  have R4b := R4b2
  have HB5 := HB52
  clear R2b2 RSb2 R4b2 HB52
  generalize W5.drewN nq = W5 at *
  go_upto_region 10 with (fail)
  go_cut [] (fun wx => AtB wx w.heap.size 61 (RC 0 0 [] [] [] [] [] []) ∧ AtB wx g4 61 (RC mode kind [] [] p2 p3 [] []) ∧ AtB wx gs 9 (ps.map sv) ∧ Below w.heap.size w wx)
  case first =>
    have c2 := HC.out W5 2 p2 H2.out gs RSb.out
    have c3 := HC.out W5 3 p3 H3.out gs RSb.out
    have q4 : W5.cell? ⟨g4, 4, none⟩ = some (.string (S [])) := R4b.out.cell 4
    have q5 : W5.cell? ⟨g4, 5, none⟩ = some (.string (S [])) := R4b.out.cell 5
    have f4 := R4b.out.fz 4
    have f5 := R4b.out.fz 5
    go_region
    all_goals
      go_wp2_with fail
      go_meet
      first
        | exact ⟨((R2b.out.setOther g4 4 _ (fun e => d24 e.symm)).setOther g4 5 _ (fun e => d24 e.symm)), ((R4b.out.set 4 _).set 5 _), ((RSb.out.setOther g4 4 _ (fun e => ds4 e.symm)).setOther g4 5 _ (fun e => ds4 e.symm)), ((HB5.out.setCell hg4 _).setCell hg4 _).drew⟩
        | exact ⟨((R2b.out.setOther g4 5 _ (fun e => d24 e.symm)).setOther g4 4 _ (fun e => d24 e.symm)), ((R4b.out.set 5 _).set 4 _), ((RSb.out.setOther g4 5 _ (fun e => ds4 e.symm)).setOther g4 4 _ (fun e => ds4 e.symm)), ((HB5.out.setCell hg4 _).setCell hg4 _).drew⟩
  case rest =>
    obtain ⟨r2, r4, rs, hbb⟩ := hcut
    have R2c := Lib.hid r2
    have R4c := Lib.hid r4
    have RSc := Lib.hid rs
    have HB6 := Lib.hid hbb
    clear r2 r4 rs hbb R2b R4b RSb HB5
    have q4 : wc.cell? ⟨g4, 4, none⟩ = some (.string (S p2)) := R4c.out.cell 4
    have q5 : wc.cell? ⟨g4, 5, none⟩ = some (.string (S p3)) := R4c.out.cell 5
    have x4 := R4c.out.lt
    have RT : Hid (AtB ((wc.alloc (.cells #[.string (S A), .string (S G)] 9)).alloc (.cells #[.pointer (some ⟨g4, 2, none⟩), .pointer (some ⟨g4, 3, none⟩)] 95)) g4 61 (RC mode kind [] [] p2 p3 [] [])) := (R4c.out.alloc _).alloc _
    have RSd : Hid (AtB ((wc.alloc (.cells #[.string (S A), .string (S G)] 9)).alloc (.cells #[.pointer (some ⟨g4, 2, none⟩), .pointer (some ⟨g4, 3, none⟩)] 95)) gs 9 (ps.map sv)) := (RSc.out.alloc _).alloc _
    have R2d : Hid (AtB ((wc.alloc (.cells #[.string (S A), .string (S G)] 9)).alloc (.cells #[.pointer (some ⟨g4, 2, none⟩), .pointer (some ⟨g4, 3, none⟩)] 95)) w.heap.size 61 (RC 0 0 [] [] [] [] [] [])) := (R2c.out.alloc _).alloc _
    have HB7 : Hid (Below w.heap.size w ((wc.alloc (.cells #[.string (S A), .string (S G)] 9)).alloc (.cells #[.pointer (some ⟨g4, 2, none⟩), .pointer (some ⟨g4, 3, none⟩)] 95))) := (HB6.out.alloc HB6.out.size _).alloc (by have := HB6.out.size; simp; omega) _
    have HW : Hid (Calls Tryd.prog 50 #[.bool false, .slice (some ⟨wc.heap.size, 0, none⟩) 2 2, .slice (some ⟨wc.heap.size + 1, 0, none⟩) 2 2] ((wc.alloc (.cells #[.string (S A), .string (S G)] 9)).alloc (.cells #[.pointer (some ⟨g4, 2, none⟩), .pointer (some ⟨g4, 3, none⟩)] 95)) fun e w' =>
        e = .returned (.bool true) ∧ AtB w' g4 61 (RC mode kind ow gr p2 p3 [] []) ∧ Below w.heap.size ((wc.alloc (.cells #[.string (S A), .string (S G)] 9)).alloc (.cells #[.pointer (some ⟨g4, 2, none⟩), .pointer (some ⟨g4, 3, none⟩)] 95)) w' ∧ KeptBut g4 ((wc.alloc (.cells #[.string (S A), .string (S G)] 9)).alloc (.cells #[.pointer (some ⟨g4, 2, none⟩), .pointer (some ⟨g4, 3, none⟩)] 95)) w') :=
      texts2_any false A G ow gr HXA.out HXG.out (by omega) (by omega) g4 2 3 _ _ wc.heap.size 0 2 (wc.heap.size + 1) 0 2 _ RT.out (by show 2 < 8; decide) (by show 3 < 8; decide) (by simp) (by simp) (by simp) (by simp) (by omega) (by omega) w.heap.size hg4
    go_wp2_with fail
    refine HW.out.mono ?_
    rintro e w9 ⟨rfl, r4, hb9, hk9⟩
    have R4e := Lib.hid r4
    have RSe := Lib.hid (hk9.atB ds4 RSd.out)
    have R2e := Lib.hid (hk9.atB d24 R2d.out)
    have HB9 := Lib.hid (HB7.out.trans hb9)
    clear HW RT RSd R2d HB7 r4 hb9 hk9 q4 q5 R4c RSc R2c HB6 x4
    go_upto_region 14 with (fail)
    have RT : Hid (AtB (w9.alloc (.cells #[.pointer (some ⟨g4, 6, none⟩)] 95)) g4 61 (RC mode kind ow gr p2 p3 [] [])) := R4e.out.alloc _
    have RSf : Hid (AtB (w9.alloc (.cells #[.pointer (some ⟨g4, 6, none⟩)] 95)) gs 9 (ps.map sv)) := RSe.out.alloc _
    have R2f : Hid (AtB (w9.alloc (.cells #[.pointer (some ⟨g4, 6, none⟩)] 95)) w.heap.size 61 (RC 0 0 [] [] [] [] [] [])) := R2e.out.alloc _
    have HBf : Hid (Below w.heap.size w (w9.alloc (.cells #[.pointer (some ⟨g4, 6, none⟩)] 95))) := HB9.out.alloc HB9.out.size _
    have HOW : Hid (OwnV 95 (w9.alloc (.cells #[.pointer (some ⟨g4, 6, none⟩)] 95)) w9.heap.size (.slice (some ⟨w9.heap.size, 0, none⟩) 1 1) [.pointer (some ⟨g4, 6, none⟩)]) := World.ownsRow_lit (base := w9.heap.size) (e := 95) (size := 1) w9 #[.pointer (some ⟨g4, 6, none⟩)] 1 (Nat.le_refl _) (by decide) rfl
    have hpc : Hid ((w9.alloc (.cells #[.pointer (some ⟨g4, 6, none⟩)] 95)).cell? ⟨w9.heap.size, 0, none⟩ = some (.pointer (some ⟨g4, 6, none⟩))) := by unfold Hid; simp
    have d9 : w9.heap.size ≠ g4 := by have := R4e.out.lt; omega
    have b9 : w.heap.size ≤ w9.heap.size := HB9.out.size
    have hgs9 : gs < w9.heap.size := RSe.out.lt
    have h49 : g4 < w9.heap.size := R4e.out.lt
    have h29 : w.heap.size < w9.heap.size := R2e.out.lt
    have h910 : (w9.alloc (.cells #[.pointer (some ⟨g4, 6, none⟩)] 95)).heap.size = w9.heap.size + 1 := by simp
    generalize w9.alloc (.cells #[.pointer (some ⟨g4, 6, none⟩)] 95) = W10 at *
    generalize w9.heap.size = g9 at *
    have H910 := Lib.hid h910
    clear R4e RSe R2e HB9 h910
    have k1 : W10.cell? ⟨g4, 1, none⟩ = some (.int .u8 kind.toNat) := RT.out.cell 1
    go_wp2_with fail
    refine (HAR.out _).mono ?_
    rintro e w' ⟨rfl, rfl⟩
    have c5 := HC.out W10 5 p5 H5.out gs RSf.out
    go_upto_region 18 with (fail)
    go_cut [10, 11] (fun v10 v11 wx => ∃ gn gi ci, v10 = .slice (some ⟨gn, 0, none⟩) 2 2 ∧ v11 = .slice (some ⟨gi, 0, none⟩) 2 ci ∧ gi ≠ g4 ∧ gn ≠ g4 ∧ wx.cell? ⟨gn, 0, none⟩ = some (.string (S p4)) ∧ wx.cell? ⟨gn, 1, none⟩ = some (.string (S p6)) ∧ wx.cell? ⟨gi, 0, none⟩ = some (.pointer (some ⟨g4, 6, none⟩)) ∧ wx.cell? ⟨gi, 1, none⟩ = some (.pointer (some ⟨g4, 7, none⟩)) ∧ AtB wx w.heap.size 61 (RC 0 0 [] [] [] [] [] []) ∧ AtB wx g4 61 (RC mode kind ow gr p2 p3 [] []) ∧ Below w.heap.size w wx)
    case first =>
      have c4 := HC.out W10 4 p4 H4.out gs RSf.out
      have c6 := HC.out W10 6 p6 H6.out gs RSf.out
      have lg9 : g9 < W10.heap.size := by have := H910.out; omega
      have lgs : gs < W10.heap.size := by omega
      go_region_law (refine step_app_v 96 95 (.pointer none) 8 Tryd.underlying96 info_ptr rfl (by decide) rfl _ _ rfl g9 _ [.pointer (some ⟨g4, 6, none⟩)] (.pointer (some ⟨g4, 7, none⟩)) rfl rfl (by first | exact (HOW.out.drew.alloc _).alloc _ | exact (HOW.out.alloc _).alloc _ | exact HOW.out.alloc _) _ rfl (by simp) (by show 1 ≤ 1000000000; decide) (by simp; omega) ?_; intro v' w' hO hb hG; have c4' : w'.cell? ⟨gs, 4, none⟩ = some (.string (S p4)) := (hb.cell (p := ⟨gs, 4, none⟩) hgs9).trans (by go_simp); have c6' : w'.cell? ⟨gs, 6, none⟩ = some (.string (S p6)) := (hb.cell (p := ⟨gs, 6, none⟩) hgs9).trans (by go_simp); have lgs' : gs < w'.heap.size := Nat.lt_of_lt_of_le (by simp; omega) hb.size)
      all_goals go_wp2_with fail
      all_goals go_meet
      all_goals
        have z10 : Below g9 W10 w' := (show Below g9 W10 _ by go_grown).trans hb
        first
          | exact link_a HBf.out R2f.out RT.out z10 hO hG (by omega) h49 h29 (by have := H910.out; omega) (by have := H910.out; omega) (by first | (simp; done) | (go_simp; done)) (by first | (simp; done) | (go_simp; done))
          | exact link_b HBf.out R2f.out RT.out z10 hO (by omega) h49 h29
    case rest =>
      obtain ⟨gn, gi, ci, rfl, rfl, d1, d2, a1, a2, b1, b2, r2, r4, hbb⟩ := hcut
      clear RT RSf R2f HBf HOW hpc k1 c5
      have HW := Lib.hid (texts2_any true p4 p6 nm lk HX4.out HX6.out (by omega) (by omega) g4 6 7 _ _ gn 0 2 gi 0 ci wc r4 (by show 6 < 8; decide) (by show 7 < 8; decide) a1 a2 b1 b2 d2 d1 w.heap.size hg4)
      have R2g := Lib.hid r2
      have HBh := Lib.hid hbb
      clear a1 a2 b1 b2 r2 r4 hbb
      go_wp2_with fail
      refine HW.out.mono ?_
      rintro e w10 ⟨rfl, r4, hb10, hk10⟩
      have R4g : Hid (AtB w10 g4 61 (RC mode kind ow gr p2 p3 nm lk)) := Lib.hid r4
      have R2g := Lib.hid (hk10.atB d24 R2g.out)
      have HBg := Lib.hid (HBh.out.trans hb10)
      clear HW r4 hb10 hk10
      go_wp2_with (first | (refine rw_load Tryd.underlying61 rfl _ rfl g4 rfl _ R4g.out info_row ?_) | (refine rw_store rfl _ _ rfl _ rfl (RC 0 0 [] [] [] [] [] []) (RC mode kind ow gr p2 p3 nm lk) R2g.out rfl info_row rfl (RC_one _ _ _ _ _ _ _ _) _ w HBg.out (Nat.le_refl _) ?_; intro W6 hA6 hB6 hk6))
      refine bodyPost_ret (v := .tuple #[.agg (RC mode kind ow gr p2 p3 nm lk).toArray, .int .i64 0]) (by rw [results_rw2 Tryd.underlying61 Tryd.results23 _ _ w.heap.size (RC mode kind ow gr p2 p3 nm lk) rfl hA6 info_row]; rfl) rfl ⟨rfl, hB6⟩
end Go.Proofs.YtjldphpdfckjnaaDoor
namespace Go.Proofs.YtjldphpdfckjnaaDoor
open Go.RowKit Go.Lib

theorem prF_known (m : Int) (k : UInt8) (h : 48 ≤ k.toNat ∧ k.toNat ≤ 55) : prF (rightsL m k) = (m % 4096, k, 0) := by rw [prF_rights, if_pos h]
theorem prF_unknown (m : Int) (k : UInt8) (h : ¬ (48 ≤ k.toNat ∧ k.toNat ≤ 55)) : prF (rightsL m k) = (0, 0, 2) := by rw [prF_rights, if_neg h]
noncomputable def headP (m : MemL) (size : Int) : List (List UInt8) := [rightsL m.mode m.kind, ownerL m.uname m.uid ++ 47 :: ownerL m.gname m.gid, muchL m.kind size m.major m.minor, clkL m.sec m.nsec, quoteF true m.name]
theorem quote_no32 (l : List UInt8) : (32 : UInt8) ∉ quoteF true l := fun h => (quoteF_ok true l _ h).1 rfl
theorem own_no32 (m : MemL) : (32 : UInt8) ∉ ownerL m.uname m.uid ++ 47 :: ownerL m.gname m.gid := by
  simp only [List.mem_append, List.mem_cons, not_or]
  exact ⟨(ownerL_ok _ _).1, by decide, (ownerL_ok _ _).1⟩
theorem clk_no32 (m : MemL) (h : ClkP m.sec m.nsec (clkL m.sec m.nsec)) : (32 : UInt8) ∉ clkL m.sec m.nsec := by
  refine h.no32 fun hd => ?_
  unfold dayB at hd
  simp only [Bool.and_eq_true] at hd
  obtain ⟨_, _, g3, g4⟩ := (right_iff _ _).1 hd.1.1
  omega
theorem clk_ne (m : MemL) (h : ClkP m.sec m.nsec (clkL m.sec m.nsec)) : clkL m.sec m.nsec ≠ [] := by
  rcases h with ⟨_, Y, M, D, _, _, e⟩ | ⟨_, e⟩
  · rw [e]; unfold textT; simp
  · rw [e]; exact List.cons_ne_nil _ _
theorem line_form (m : MemL) (size : Int) : lineL m size = rightsL m.mode m.kind ++ 32 :: ((ownerL m.uname m.uid ++ 47 :: ownerL m.gname m.gid) ++ 32 :: (muchL m.kind size m.major m.minor ++ 32 :: (clkL m.sec m.nsec ++ 32 :: (quoteF true m.name ++ linkL m)))) := by
  unfold lineL
  simp only [List.append_assoc, List.cons_append]
theorem split_head (m : MemL) (size : Int) (h : ClkP m.sec m.nsec (clkL m.sec m.nsec)) (R : List UInt8) (P : List (List UInt8)) (hR : Lib.split (quoteF true m.name ++ R) [32] = quoteF true m.name :: P) (hl : linkL m = R) : Lib.split (lineL m size) [32] = headP m size ++ P := by
  rw [line_form, split_at 32 _ _ (rights_no32 _ _), split_at 32 _ _ (own_no32 m), split_at 32 _ _ (muchL_ok _ _ _ _).1, split_at 32 _ _ (clk_no32 m h), hl, hR]
  rfl
theorem split_plain (m : MemL) (size : Int) (h : ClkP m.sec m.nsec (clkL m.sec m.nsec)) (ha : arrowL m.kind = []) : Lib.split (lineL m size) [32] = headP m size := by
  have := split_head m size h [] [] (by rw [List.append_nil, split_none 32 _ (quote_no32 _)]) (by unfold linkL; rw [if_pos ha])
  rw [List.append_nil] at this
  exact this
/-- the sign of a link, without its blanks -/
def arrowP (k : UInt8) : List UInt8 := if k = 50 then [45, 62] else [61, 61]
theorem arrow_form (k : UInt8) (ha : arrowL k ≠ []) : arrowL k = 32 :: (arrowP k ++ [32]) ∧ (arrowP k).length = 2 ∧ (32 : UInt8) ∉ arrowP k := by
  unfold arrowL at ha ⊢
  unfold arrowP
  by_cases h : k = 50
  · rw [if_pos h, if_pos h]; exact ⟨rfl, rfl, by decide⟩
  · rw [if_neg h, if_neg h] at *
    by_cases h2 : k = 49
    · rw [if_pos h2]; exact ⟨rfl, rfl, by decide⟩
    · rw [if_neg h2] at ha; exact absurd rfl ha
theorem split_linked (m : MemL) (size : Int) (h : ClkP m.sec m.nsec (clkL m.sec m.nsec)) (ha : arrowL m.kind ≠ []) : Lib.split (lineL m size) [32] = headP m size ++ [arrowP m.kind, quoteF true m.link] := by
  obtain ⟨e, _, h32⟩ := arrow_form m.kind ha
  refine split_head m size h (32 :: (arrowP m.kind ++ 32 :: quoteF true m.link)) _ ?_ ?_
  · rw [split_at 32 _ _ (quote_no32 _), split_at 32 _ _ h32, split_none 32 _ (quote_no32 _)]
  · unfold linkL
    rw [if_neg ha, e]
    simp
theorem head_get (m : MemL) (size : Int) (P : List (List UInt8)) : (headP m size ++ P)[0]? = some (rightsL m.mode m.kind) ∧ (headP m size ++ P)[1]? = some (ownerL m.uname m.uid ++ 47 :: ownerL m.gname m.gid) ∧ (headP m size ++ P)[2]? = some (muchL m.kind size m.major m.minor) ∧ (headP m size ++ P)[3]? = some (clkL m.sec m.nsec) ∧ (headP m size ++ P)[4]? = some (quoteF true m.name) := ⟨rfl, rfl, rfl, rfl, rfl⟩
theorem line_len (m : MemL) (size : Int) (hm : OkM m) (hs : I64 size) : (lineL m size).length ≤ 10000 := by
  have l0 := rights_len m.mode m.kind
  have l1 := ownerL_len m.uname m.uid hm.uid.1 hm.uid.2
  have l2 := ownerL_len m.gname m.gid hm.gid.1 hm.gid.2
  have l3 := muchL_len m.kind size m.major m.minor hs hm.major hm.minor
  have l4 := clkL_len m.sec m.nsec hm.sec hm.nsec
  have l5 := quoteF_len true m.name
  have l6 := quoteF_len true m.link
  have l7 := arrowL_len m.kind
  have n1 := hm.name
  have n2 := hm.link
  have n3 := hm.uname
  have n4 := hm.gname
  unfold lineL linkL
  split <;> simp only [List.length_append, List.length_cons, List.length_nil] <;> omega
/-- two rows that are the same -/
theorem eq_row (a b : Int) (c d e f g h : ByteArray) (w : World) :
    (Op.equalIn 10000 61 (.agg #[.int .i64 a, .int .u8 b, .string c, .string d, .string e, .string f, .string g, .string h]) (.agg #[.int .i64 a, .int .u8 b, .string c, .string d, .string e, .string f, .string g, .string h])).run Tryd.prog w = .ok true w := by
  rw [run_equalIn_agg w 9999 61 _ _ (by kernel_rfl) (by kernel_rfl)]
  simp [go_sem, Op.eqFields]
@[go_sem high] theorem eql_rows (a b : Int) (c d e f g h : ByteArray) (w : World) : (binOp .eql 61 (.agg #[.int .i64 a, .int .u8 b, .string c, .string d, .string e, .string f, .string g, .string h]) (.agg #[.int .i64 a, .int .u8 b, .string c, .string d, .string e, .string f, .string g, .string h])).run Tryd.prog w = .ok (.bool true) w := by
  rw [run_eql_struct, eq_row]
  rfl
@[go_sem high] theorem guard_rows (op : BinOp) (x y : Operand) (xs ys : Array Value) (w : World) : (eqGuard op 61 x y (.agg xs) (.agg ys)).run Tryd.prog w = .ok () w :=
  run_eqGuard_agg (P := Tryd.prog) w op _ x y _ _ (by kernel_rfl)
end Go.Proofs.YtjldphpdfckjnaaDoor
namespace Go.Proofs.YtjldphpdfckjnaaDoor
open Go.RowKit Go.Lib

theorem info_mem : (Tryd.prog.info? 55).map (·.size) = some 14 := by kernel_rfl
theorem known_cases (k : UInt8) : (48 ≤ k.toNat ∧ k.toNat ≤ 55 ∧ ((k.toNat : Int) < 48) = False ∧ ((55 : Int) < (k.toNat : Int)) = False) ∨ (¬ (48 ≤ k.toNat ∧ k.toNat ≤ 55) ∧ (k.toNat : Int) < 48) ∨ (¬ (48 ≤ k.toNat ∧ k.toNat ≤ 55) ∧ ¬ (k.toNat : Int) < 48 ∧ (55 : Int) < (k.toNat : Int)) := by
  by_cases h1 : (k.toNat : Int) < 48
  · exact .inr (.inl ⟨by omega, h1⟩)
  · by_cases h2 : (55 : Int) < (k.toNat : Int)
    · exact .inr (.inr ⟨by omega, h1, h2⟩)
    · exact .inl ⟨by omega, by omega, eq_false h1, eq_false h2⟩
theorem unknown_arrow (k : UInt8) (h : ¬ (48 ≤ k.toNat ∧ k.toNat ≤ 55)) : arrowL k = [] := by
  unfold arrowL
  rw [if_neg (fun e => h (by rw [e]; decide)), if_neg (fun e => h (by rw [e]; decide))]
structure IntsM (m : MemL) : Prop where
  mode : I64 m.mode
  uid : I64 m.uid
  gid : I64 m.gid
  major : I64 m.major
  minor : I64 m.minor
  sec : I64 m.sec
  nsec : I64 m.nsec
set_option maxRecDepth 100000 in
set_option maxHeartbeats 8000000 in
/-- a member that is too long -/
theorem lines_long (m : MemL) (x : List PR) (size : Int) (hp : ∀ p ∈ x, p.1.length ≤ 140737488355328 ∧ p.2.length ≤ 140737488355328) (w : World) (hv : PairsV w m.extra x) (hl : longM m x = true) :
    Calls Tryd.prog 7 #[.agg (MC m).toArray, .int .i64 size] w fun e w' => e = .returned (.bool true) ∧ Below w.heap.size w w' := by
  have HA := Lib.hid (AtB.new w 55 (MC m))
  have HB := Lib.hid ((Below.refl w.heap.size w).alloc (Nat.le_refl _) (.cells (MC m).toArray 55))
  have HL := Lib.hid (Long_any m x hp _ (RowsV.below hv HB.out (Nat.le_refl _)))
  rw [hl] at HL
  clear hp hv hl
  go_enter Tryd.func7, Tryd.ntmps7
  go_wp2_with (refine rw_load Tryd.underlying55 rfl _ rfl w.heap.size rfl (MC m) HA.out info_mem ?_)
  refine HL.out.mono ?_
  rintro e w1 ⟨rfl, hb1⟩
  have hB1 := chain HB.out hb1
  go_wp2_with fail
  refine (awake36 _).mono ?_
  rintro e w2 ⟨rfl, hb2⟩
  go_wp2_with fail
  go_ret
  exact ⟨rfl, chain hB1 hb2⟩
set_option maxRecDepth 100000 in
set_option maxHeartbeats 8000000 in
/-- a member of no known kind -/
theorem lines_unknown (m : MemL) (x : List PR) (size : Int) (hs : I64 size) (hi : IntsM m) (hp : ∀ p ∈ x, p.1.length ≤ 140737488355328 ∧ p.2.length ≤ 140737488355328) (w : World) (hT : TM w) (hv : PairsV w m.extra x) (hl : longM m x = false) (hk : ¬ (48 ≤ m.kind.toNat ∧ m.kind.toNat ≤ 55)) :
    Calls Tryd.prog 7 #[.agg (MC m).toArray, .int .i64 size] w fun e w' => e = .returned (.bool true) ∧ Below w.heap.size w w' := by
  have HA := Lib.hid (AtB.new w 55 (MC m))
  have HB := Lib.hid ((Below.refl w.heap.size w).alloc (Nat.le_refl _) (.cells (MC m).toArray 55))
  have HL := Lib.hid (Long_any m x hp _ (RowsV.below hv HB.out (Nat.le_refl _)))
  rw [hl] at HL
  obtain ⟨n1, n2, n3, n4, n5⟩ := longM_no m x hl
  have hOk : OkM m := ⟨n1, n2, n3, n4, hi.mode, hi.uid, hi.gid, hi.major, hi.minor, hi.sec, hi.nsec⟩
  have HT := Lib.hid (fun W (h : Below w.heap.size w W) => hT.on h)
  have HLN := Lib.hid (fun W (h : Below w.heap.size w W) => line_any m size hOk hs W (hT.on h))
  have HRL := Lib.hid (fun W => rline_any m size hOk hs W)
  have ha := unknown_arrow m.kind hk
  have HPB := Lib.hid (fun (hc : ClkP m.sec m.nsec (clkL m.sec m.nsec)) W (h : Below w.heap.size w W) => parse_bad (lineL m size) (rightsL m.mode m.kind) (headP m size) (by have := line_len m size hOk hs; omega) (split_plain m size hc ha) (by show 5 ≤ 5; decide) (by show 5 ≤ 10; decide) rfl (prF_unknown m.mode m.kind hk) W (hT.on h))
  unfold badV at HPB
  have hS0 : S [] = ⟨#[]⟩ := rfl
  simp only [RC, hS0] at HPB
  clear hS0
  have hkc := known_cases m.kind
  have HK := Lib.hid hk
  clear hs hi hp hT hv hl n1 n2 n3 n4 n5 hOk ha hk
  go_enter Tryd.func7, Tryd.ntmps7
  go_wp2_with (refine rw_load Tryd.underlying55 rfl _ rfl w.heap.size rfl (MC m) HA.out info_mem ?_)
  refine HL.out.mono ?_
  rintro e w1 ⟨rfl, hb1⟩
  have HB1 := Lib.hid (chain HB.out hb1)
  have HA1 := Lib.hid (HA.out.below hb1)
  clear HB HA HL hb1
  go_wp2_with (refine rw_load Tryd.underlying55 rfl _ rfl w.heap.size rfl (MC m) HA1.out info_mem ?_)
  refine (HLN.out _ HB1.out).mono ?_
  rintro e w2 ⟨⟨hPC, rfl⟩, hb2⟩
  have HB2 := Lib.hid (chain HB1.out hb2)
  have HA2 := Lib.hid (HA1.out.below hb2)
  have HPC := Lib.hid hPC
  clear HB1 HA1 HLN hb2 hPC
  go_wp2_with (refine rw_load Tryd.underlying55 rfl _ rfl w.heap.size rfl (MC m) HA2.out info_mem ?_)
  refine (HRL.out _).mono ?_
  rintro e w3 ⟨⟨_, rfl⟩, hb3⟩
  have HB3 := Lib.hid (chain HB2.out hb3)
  have HA3 := Lib.hid (HA2.out.below hb3)
  clear HB2 HA2 HRL hb3
  have HP := Lib.hid (HPB.out HPC.out _ HB3.out)
  clear HPB HPC HT
  generalize lineL m size = L at *
  go_wp2_with fail
  refine HP.out.mono ?_
  rintro e w4 ⟨rfl, hb4⟩
  have HB4 := Lib.hid (chain HB3.out hb4)
  have HA4 := Lib.hid (HA3.out.below hb4)
  clear HB3 HA3 HP hb4
  go_upto_region 7 with (fail)
  have HA5 := Lib.hid (HA4.out.alloc (.cells #[.int .i64 0, .int .u8 0, .string ⟨#[]⟩, .string ⟨#[]⟩, .string ⟨#[]⟩, .string ⟨#[]⟩, .string ⟨#[]⟩, .string ⟨#[]⟩] 61))
  have HB5 := Lib.hid (HB4.out.alloc HB4.out.size (.cells #[.int .i64 0, .int .u8 0, .string ⟨#[]⟩, .string ⟨#[]⟩, .string ⟨#[]⟩, .string ⟨#[]⟩, .string ⟨#[]⟩, .string ⟨#[]⟩] 61))
  have HR5 := Lib.hid (AtB.new w4 61 [.int .i64 0, .int .u8 0, .string ⟨#[]⟩, .string ⟨#[]⟩, .string ⟨#[]⟩, .string ⟨#[]⟩, .string ⟨#[]⟩, .string ⟨#[]⟩])
  change Code.wp _ _ _ _ (w4.alloc (.cells #[.int .i64 0, .int .u8 0, .string ⟨#[]⟩, .string ⟨#[]⟩, .string ⟨#[]⟩, .string ⟨#[]⟩, .string ⟨#[]⟩, .string ⟨#[]⟩] 61))
  generalize w4.alloc (.cells #[.int .i64 0, .int .u8 0, .string ⟨#[]⟩, .string ⟨#[]⟩, .string ⟨#[]⟩, .string ⟨#[]⟩, .string ⟨#[]⟩, .string ⟨#[]⟩] 61) = W5 at *
  generalize w4.heap.size = g5 at *
  have c2 : W5.cell? ⟨w.heap.size, 2, none⟩ = some (.int .u8 m.kind.toNat) := HA5.out.cell 2
  clear HA4 HB4
  rcases hkc with ⟨k1, k2, _⟩ | ⟨_, k1⟩ | ⟨_, k1, k2⟩
  · exact absurd ⟨k1, k2⟩ HK.out
  all_goals
    clear HK
    go_wp2_with (refine rw_load Tryd.underlying61 rfl _ rfl g5 rfl _ HR5.out info_row ?_)
    refine (awake36 _).mono ?_
    rintro e w6 ⟨rfl, hb6⟩
    go_wp2_with fail
    go_ret
    exact ⟨rfl, chain HB5.out hb6⟩
end Go.Proofs.YtjldphpdfckjnaaDoor
namespace Go.Proofs.YtjldphpdfckjnaaDoor
open Go.RowKit Go.Lib

def owL (name : List UInt8) (id : Int) : List UInt8 := if name = [] then itoa id else name
def lkL (m : MemL) : List UInt8 := if arrowL m.kind = [] then [] else m.link
/-- a line of a known kind is read as what it has -/
theorem parse_known (m : MemL) (size : Int) (hOk : OkM m) (hs : I64 size) (hk : 48 ≤ m.kind.toNat ∧ m.kind.toNat ≤ 55) (hc : ClkP m.sec m.nsec (clkL m.sec m.nsec)) (W : World) (hT : TM W) :
    Calls Tryd.prog 23 #[.string (S (lineL m size))] W fun e w' => e = .returned (.tuple #[.agg (RC (m.mode % 4096) m.kind (owL m.uname m.uid) (owL m.gname m.gid) (muchL m.kind size m.major m.minor) (clkL m.sec m.nsec) m.name (lkL m)).toArray, .int .i64 0]) ∧ Below W.heap.size W w' := by
  have hl := line_len m size hOk hs
  have l1 := ownerL_len m.uname m.uid hOk.uid.1 hOk.uid.2
  have l2 := ownerL_len m.gname m.gid hOk.gid.1 hOk.gid.2
  have l5 := quoteF_len true m.name
  have l6 := quoteF_len true m.link
  have n1 := hOk.name
  have n2 := hOk.link
  have n3 := hOk.uname
  have n4 := hOk.gname
  have hl1 : (ownerL m.uname m.uid ++ 47 :: ownerL m.gname m.gid).length ≤ 20000 := by rw [List.length_append, List.length_cons]; omega
  by_cases ha : arrowL m.kind = []
  · have e : lkL m = [] := by unfold lkL; rw [if_pos ha]
    rw [e]
    exact parse_plain (lineL m size) _ _ _ _ _ (headP m size) (by omega) (split_plain m size hc ha) rfl rfl rfl rfl rfl rfl (m.mode % 4096) m.kind (ownerL m.uname m.uid) (ownerL m.gname m.gid) (owL m.uname m.uid) (owL m.gname m.gid) m.name
      (prF_known _ _ hk) rfl (ownerL_ok _ _).2 hl1 (ownerL_read _ _) (ownerL_read _ _) (muchL_ok _ _ _ _).2 (clk_ne m hc) (plain_quote true m.name) (by omega) ha W hT
  · have e : lkL m = m.link := by unfold lkL; rw [if_neg ha]
    rw [e]
    obtain ⟨e1, e2, _⟩ := arrow_form m.kind ha
    exact parse_linked (lineL m size) _ _ _ _ _ _ (by omega) (split_linked m size hc ha) rfl rfl rfl rfl rfl rfl (m.mode % 4096) m.kind (ownerL m.uname m.uid) (ownerL m.gname m.gid) (owL m.uname m.uid) (owL m.gname m.gid) m.name m.link _ _
      (prF_known _ _ hk) rfl (ownerL_ok _ _).2 hl1 (ownerL_read _ _) (ownerL_read _ _) (muchL_ok _ _ _ _).2 (clk_ne m hc) (plain_quote true m.name) (by omega) rfl rfl e1 (by omega) (plain_quote true m.link) (by omega) W hT
def linkB (m : MemL) : Bool := (m.kind.toNat : Int) == 50 || (m.kind.toNat : Int) == 49
theorem link_cases (m : MemL) : (((m.kind.toNat : Int) == 50) = true ∧ linkB m = true ∧ lkL m = m.link) ∨ (((m.kind.toNat : Int) == 50) = false ∧ ((m.kind.toNat : Int) == 49) = true ∧ linkB m = true ∧ lkL m = m.link) ∨ (((m.kind.toNat : Int) == 50) = false ∧ ((m.kind.toNat : Int) == 49) = false ∧ linkB m = false ∧ lkL m = []) := by
  unfold lkL arrowL linkB
  by_cases h1 : m.kind = 50
  · have a := byte_beq _ 50 50 rfl h1
    exact .inl ⟨a, by rw [a]; rfl, by rw [if_pos h1, if_neg (by decide)]⟩
  · have a := byte_beq' _ 50 50 rfl h1
    by_cases h2 : m.kind = 49
    · have b := byte_beq _ 49 49 rfl h2
      exact .inr (.inl ⟨a, b, by rw [b]; simp, by rw [if_neg h1, if_pos h2, if_neg (by decide)]⟩)
    · have b := byte_beq' _ 49 49 rfl h2
      exact .inr (.inr ⟨a, b, by rw [a, b]; rfl, by rw [if_neg h1, if_neg h2, if_pos rfl]⟩)
theorem ow_cases (name : List UInt8) (id : Int) : (name.isEmpty = true) ∨ (name.isEmpty = false ∧ owL name id = name) := by
  unfold owL
  cases name with
  | nil => exact .inl rfl
  | cons a l => exact .inr ⟨rfl, if_neg (List.cons_ne_nil _ _)⟩
set_option maxRecDepth 100000 in
set_option maxHeartbeats 8000000 in
theorem lines_known (m : MemL) (x : List PR) (size : Int) (hs : I64 size) (hi : IntsM m) (hp : ∀ p ∈ x, p.1.length ≤ 140737488355328 ∧ p.2.length ≤ 140737488355328) (w : World) (hT : TM w) (hv : PairsV w m.extra x) (hl : longM m x = false) (hk : 48 ≤ m.kind.toNat ∧ m.kind.toNat ≤ 55) :
    Calls Tryd.prog 7 #[.agg (MC m).toArray, .int .i64 size] w fun e w' => e = .returned (.bool true) ∧ Below w.heap.size w w' := by
  have HA := Lib.hid (AtB.new w 55 (MC m))
  have HB := Lib.hid ((Below.refl w.heap.size w).alloc (Nat.le_refl _) (.cells (MC m).toArray 55))
  have HL := Lib.hid (Long_any m x hp _ (RowsV.below hv HB.out (Nat.le_refl _)))
  rw [hl] at HL
  obtain ⟨n1, n2, n3, n4, n5⟩ := longM_no m x hl
  have hOk : OkM m := ⟨n1, n2, n3, n4, hi.mode, hi.uid, hi.gid, hi.major, hi.minor, hi.sec, hi.nsec⟩
  have HLN := Lib.hid (fun W (h : Below w.heap.size w W) => line_any m size hOk hs W (hT.on h))
  have HRL := Lib.hid (fun W => rline_any m size hOk hs W)
  have HPB := Lib.hid (fun (hc : ClkP m.sec m.nsec (clkL m.sec m.nsec)) W (h : Below w.heap.size w W) => parse_known m size hOk hs hk hc W (hT.on h))
  simp only [RC] at HPB
  have k1 : ¬ (m.kind.toNat : Int) < 48 := by omega
  have k2 : ¬ (55 : Int) < (m.kind.toNat : Int) := by omega
  have hkc := link_cases m
  have HO1 := Lib.hid (ow_cases m.uname m.uid)
  have HO2 := Lib.hid (ow_cases m.gname m.gid)
  have h4 := and4095 m.mode
  clear hs hi hp hT hv hl n1 n2 n3 n4 n5 hOk hk
  generalize lkL m = lk at *
  generalize linkB m = bl at *
  generalize owL m.uname m.uid = ow at *
  generalize owL m.gname m.gid = gr at *
  generalize muchL m.kind size m.major m.minor = mu at *
  go_enter Tryd.func7, Tryd.ntmps7
  go_wp2_with (refine rw_load Tryd.underlying55 rfl _ rfl w.heap.size rfl (MC m) HA.out info_mem ?_)
  refine HL.out.mono ?_
  rintro e w1 ⟨rfl, hb1⟩
  have HB1 := Lib.hid (chain HB.out hb1)
  have HA1 := Lib.hid (HA.out.below hb1)
  clear HB HA HL hb1
  go_wp2_with (refine rw_load Tryd.underlying55 rfl _ rfl w.heap.size rfl (MC m) HA1.out info_mem ?_)
  refine (HLN.out _ HB1.out).mono ?_
  rintro e w2 ⟨⟨hPC, rfl⟩, hb2⟩
  have HB2 := Lib.hid (chain HB1.out hb2)
  have HA2 := Lib.hid (HA1.out.below hb2)
  have HPC := Lib.hid hPC
  clear HB1 HA1 HLN hb2 hPC
  go_wp2_with (refine rw_load Tryd.underlying55 rfl _ rfl w.heap.size rfl (MC m) HA2.out info_mem ?_)
  refine (HRL.out _).mono ?_
  rintro e w3 ⟨⟨_, rfl⟩, hb3⟩
  have HB3 := Lib.hid (chain HB2.out hb3)
  have HA3 := Lib.hid (HA2.out.below hb3)
  clear HB2 HA2 HRL hb3
  have HP := Lib.hid (HPB.out HPC.out _ HB3.out)
  clear HPB HPC
  generalize lineL m size = L at *
  generalize clkL m.sec m.nsec = cl at *
  go_wp2_with fail
  refine HP.out.mono ?_
  rintro e w4 ⟨rfl, hb4⟩
  have HB4 := Lib.hid (chain HB3.out hb4)
  have HA4 := Lib.hid (HA3.out.below hb4)
  clear HB3 HA3 HP hb4
  go_upto_region 7 with (fail)
  have HA5 := Lib.hid (HA4.out.alloc (.cells (RC (m.mode % 4096) m.kind ow gr mu cl m.name lk).toArray 61))
  have HB5 := Lib.hid (HB4.out.alloc HB4.out.size (.cells (RC (m.mode % 4096) m.kind ow gr mu cl m.name lk).toArray 61))
  have HR5 := Lib.hid (AtB.new w4 61 (RC (m.mode % 4096) m.kind ow gr mu cl m.name lk))
  change Code.wp _ _ _ _ (w4.alloc (.cells (RC (m.mode % 4096) m.kind ow gr mu cl m.name lk).toArray 61))
  generalize w4.alloc (.cells (RC (m.mode % 4096) m.kind ow gr mu cl m.name lk).toArray 61) = W5 at *
  generalize w4.heap.size = g5 at *
  have c0 : W5.cell? ⟨w.heap.size, 0, none⟩ = some (.string (S m.name)) := HA5.out.cell 0
  have c1 : W5.cell? ⟨w.heap.size, 1, none⟩ = some (.string (S m.link)) := HA5.out.cell 1
  have c2 : W5.cell? ⟨w.heap.size, 2, none⟩ = some (.int .u8 m.kind.toNat) := HA5.out.cell 2
  have c3 : W5.cell? ⟨w.heap.size, 3, none⟩ = some (.int .i64 m.mode) := HA5.out.cell 3
  have c6 : W5.cell? ⟨w.heap.size, 6, none⟩ = some (.string (S m.uname)) := HA5.out.cell 6
  have c7 : W5.cell? ⟨w.heap.size, 7, none⟩ = some (.string (S m.gname)) := HA5.out.cell 7
  have r0 : W5.cell? ⟨g5, 0, none⟩ = some (.int .i64 (m.mode % 4096)) := HR5.out.cell 0
  have r1 : W5.cell? ⟨g5, 1, none⟩ = some (.int .u8 m.kind.toNat) := HR5.out.cell 1
  have r6 : W5.cell? ⟨g5, 6, none⟩ = some (.string (S m.name)) := HR5.out.cell 6
  have r7 : W5.cell? ⟨g5, 7, none⟩ = some (.string (S lk)) := HR5.out.cell 7
  have r2 : W5.cell? ⟨g5, 2, none⟩ = some (.string (S ow)) := HR5.out.cell 2
  have r3 : W5.cell? ⟨g5, 3, none⟩ = some (.string (S gr)) := HR5.out.cell 3
  clear HA4 HB4 HA5 HR5
  have HKC := Lib.hid hkc
  clear hkc
  go_upto_region 10 with (fail)
  go_cut [50] (fun v wx => v = .bool bl ∧ W5 = wx)
  case first =>
    rcases HKC.out with ⟨t1, tb, _⟩ | ⟨t1, t2, tb, _⟩ | ⟨t1, t2, tb, _⟩
    all_goals
      subst tb
      go_wp2_with fail
      go_meet
      exact ⟨rfl, rfl⟩
  case rest =>
    obtain ⟨rfl, rfl⟩ := hcut
    go_upto_if 50 with (fail)
    go_cut [8] (fun v wx => v = .string (S lk) ∧ W5 = wx)
    case first =>
      rcases HKC.out with ⟨_, tb, t3⟩ | ⟨_, _, tb, t3⟩ | ⟨_, _, tb, t3⟩
      all_goals
        have T3 := Lib.hid t3
        clear t3
        subst tb
        go_wp2_with fail
        go_meet
        refine ⟨?_, rfl⟩
        rw [T3.out]
        try rfl
    case rest =>
      obtain ⟨rfl, rfl⟩ := hcut
      clear HKC
      rcases HO1.out with o1 | ⟨o1, o1e⟩
      all_goals
        rcases HO2.out with o2 | ⟨o2, o2e⟩
        all_goals
          try subst o1e
          try subst o2e
          clear HO1 HO2
          go_wp2_with fail
          refine (awake36 _).mono ?_
          rintro e w6 ⟨rfl, hb6⟩
          go_wp2_with fail
          go_ret
          exact ⟨rfl, chain HB5.out hb6⟩
theorem lawLines (m : MemL) (x : List PR) (size : Int) (w : World) (hi : IntsM m) (hp : ∀ p ∈ x, p.1.length ≤ 140737488355328 ∧ p.2.length ≤ 140737488355328) (hv : PairsV w m.extra x) (hs : I64 size) (hT : TM w) :
    Calls Tryd.prog 7 #[.agg (MC m).toArray, .int .i64 size] w fun e w' => e = .returned (.bool true) ∧ Below w.heap.size w w' := by
  cases hl : longM m x
  · by_cases hk : 48 ≤ m.kind.toNat ∧ m.kind.toNat ≤ 55
    · exact lines_known m x size hs hi hp w hT hv hl hk
    · exact lines_unknown m x size hs hi hp w hT hv hl hk
  · exact lines_long m x size hp w hv hl
end Go.Proofs.YtjldphpdfckjnaaDoor
namespace Go.Proofs.YtjldphpdfckjnaaDoor
open Go.Joins Go.ChangeShapes Go.WideShapes Go.ChangeAt Go.RowKit Go.Deep

theorem I64.of {n : Int} (h : (Lit.int .i64 n).wf = true) : I64 n := ⟨i64_lo h, i64_hi h⟩
/-- records in memory: not too long, and read -/
def ExtraOk (W : World) (m : MemL) (ex : List PR) : Prop := PairsV W m.extra ex ∧ ∀ p ∈ ex, p.1.length ≤ 140737488355328 ∧ p.2.length ≤ 140737488355328
set_option maxRecDepth 100000 in
theorem mem_of_cells {H : Type} {enc : TypeId × Value → H} {W : World} {fuel : Nat} {cs : List Value} {x : DataW H × List MemPlace}
    (h : DataW.trod enc Tryd.prog W 0 (fun _ => true) true fuel 55 cs = some x) (hlt : ∀ y ∈ x.2, y.block < W.heap.size)
    (hw : ∀ y ∈ x.1.weights Tryd.prog 55, y ≤ reachBytes) : ∃ (m : MemL) (ex : List PR), cs = MC m ∧ IntsM m ∧ m.data.length ≤ 140737488355328 ∧ ExtraOk W m ex := by
  have hs := Tryd.underlying55
  have hC : Tryd.prog.cellsOf 55 = 14 := by kernel_rfl
  have ks : Tryd.prog.cellsOf 9 = 1 := by kernel_rfl
  have kb : Tryd.prog.cellsOf 5 = 1 := by kernel_rfl
  have ki : Tryd.prog.cellsOf 3 = 1 := by kernel_rfl
  have kt : Tryd.prog.cellsOf 52 = 2 := by kernel_rfl
  have kp : Tryd.prog.cellsOf 53 = 1 := by kernel_rfl
  obtain ⟨xs, n, _, rfl, hcl, hlen, hg⟩ := DataW.trod_struct hs h
  rw [hC] at hcl
  match cs, hcl with
  | [c0, c1, c2, c3, c4, c5, c6, c7, c8, c9, c10, c11, c12, c13], _ =>
    match xs, hlen with
    | [y0, y1, y2, y3, y4, y5, y6, y7, y8, y9, y10, y11, y12], _ =>
      have g0 : DataW.trod enc Tryd.prog W 0 (fun _ => true) true n 9 [c0] = some y0 := by simpa [ks] using hg 0 _ rfl
      have g1 : DataW.trod enc Tryd.prog W 0 (fun _ => true) true n 9 [c1] = some y1 := by simpa [ks] using hg 1 _ rfl
      have g2 : DataW.trod enc Tryd.prog W 0 (fun _ => true) true n 5 [c2] = some y2 := by simpa [kb] using hg 2 _ rfl
      have g3 : DataW.trod enc Tryd.prog W 0 (fun _ => true) true n 3 [c3] = some y3 := by simpa [ki] using hg 3 _ rfl
      have g4 : DataW.trod enc Tryd.prog W 0 (fun _ => true) true n 3 [c4] = some y4 := by simpa [ki] using hg 4 _ rfl
      have g5 : DataW.trod enc Tryd.prog W 0 (fun _ => true) true n 3 [c5] = some y5 := by simpa [ki] using hg 5 _ rfl
      have g6 : DataW.trod enc Tryd.prog W 0 (fun _ => true) true n 9 [c6] = some y6 := by simpa [ks] using hg 6 _ rfl
      have g7 : DataW.trod enc Tryd.prog W 0 (fun _ => true) true n 9 [c7] = some y7 := by simpa [ks] using hg 7 _ rfl
      have g8 : DataW.trod enc Tryd.prog W 0 (fun _ => true) true n 3 [c8] = some y8 := by simpa [ki] using hg 8 _ rfl
      have g9 : DataW.trod enc Tryd.prog W 0 (fun _ => true) true n 3 [c9] = some y9 := by simpa [ki] using hg 9 _ rfl
      have g10 : DataW.trod enc Tryd.prog W 0 (fun _ => true) true n 52 [c10, c11] = some y10 := by simpa [kt] using hg 10 _ rfl
      have g11 : DataW.trod enc Tryd.prog W 0 (fun _ => true) true n 53 [c12] = some y11 := by simpa [kp] using hg 11 _ rfl
      have g12 : DataW.trod enc Tryd.prog W 0 (fun _ => true) true n 9 [c13] = some y12 := by simpa [ks] using hg 12 _ rfl
      obtain ⟨x0, hc0, e0, -⟩ := DataW.trod_string Tryd.underlying9 g0
      rw [List.singleton_inj] at hc0
      subst hc0
      obtain ⟨x1, hc1, e1, -⟩ := DataW.trod_string Tryd.underlying9 g1
      rw [List.singleton_inj] at hc1
      subst hc1
      obtain ⟨x2, hc2, -, w2⟩ := DataW.trod_int Tryd.underlying5 g2
      rw [List.singleton_inj] at hc2
      subst hc2
      obtain ⟨x3, hc3, -, w3⟩ := DataW.trod_int Tryd.underlying3 g3
      rw [List.singleton_inj] at hc3
      subst hc3
      obtain ⟨x4, hc4, -, w4⟩ := DataW.trod_int Tryd.underlying3 g4
      rw [List.singleton_inj] at hc4
      subst hc4
      obtain ⟨x5, hc5, -, w5⟩ := DataW.trod_int Tryd.underlying3 g5
      rw [List.singleton_inj] at hc5
      subst hc5
      obtain ⟨x6, hc6, e6, -⟩ := DataW.trod_string Tryd.underlying9 g6
      rw [List.singleton_inj] at hc6
      subst hc6
      obtain ⟨x7, hc7, e7, -⟩ := DataW.trod_string Tryd.underlying9 g7
      rw [List.singleton_inj] at hc7
      subst hc7
      obtain ⟨x8, hc8, -, w8⟩ := DataW.trod_int Tryd.underlying3 g8
      rw [List.singleton_inj] at hc8
      subst hc8
      obtain ⟨x9, hc9, -, w9⟩ := DataW.trod_int Tryd.underlying3 g9
      rw [List.singleton_inj] at hc9
      subst hc9
      obtain ⟨ts, tn, _, -, -, tlen, tg⟩ := DataW.trod_struct Tryd.underlying52 g10
      match ts, tlen with
      | [z0, z1], _ =>
      have tg0 : DataW.trod enc Tryd.prog W 0 (fun _ => true) true tn 3 [c10] = some z0 := by simpa [ki] using tg 0 _ rfl
      have tg1 : DataW.trod enc Tryd.prog W 0 (fun _ => true) true tn 3 [c11] = some z1 := by simpa [ki] using tg 1 _ rfl
      obtain ⟨s0, sc0, -, sw0⟩ := DataW.trod_int Tryd.underlying3 tg0
      rw [List.singleton_inj] at sc0
      subst sc0
      obtain ⟨s1, sc1, -, sw1⟩ := DataW.trod_int Tryd.underlying3 tg1
      rw [List.singleton_inj] at sc1
      subst sc1
      obtain ⟨x12, hc12, e12, -⟩ := DataW.trod_string Tryd.underlying9 g12
      rw [List.singleton_inj] at hc12
      subst hc12
      obtain ⟨kd, rfl⟩ := u8_of x2 w2
      have hsh : ∃ a len cap, c12 = .slice a len cap := by
        rcases DataW.trod_slice Tryd.underlying53 g11 with ⟨h0, _⟩ | ⟨a, len, cap, _, _, _, _, h0, _⟩
        · rw [List.singleton_inj] at h0; exact ⟨_, _, _, h0⟩
        · rw [List.singleton_inj] at h0; exact ⟨_, _, _, h0⟩
      obtain ⟨pa, pn, pc, rfl⟩ := hsh
      have hpl : ∀ y ∈ y11.2, y.block < W.heap.size := fun y hy => hlt y (by simp only [List.flatMap_cons, List.mem_append]; simp [hy])
      have hwe : ∀ (j : Nat) (t : TypeId) (d : DataW H), (#[9, 9, 5, 3, 3, 3, 9, 9, 3, 3, 52, 53, 9] : Array TypeId).toList[j]? = some t → (List.map (·.1) [y0, y1, y2, y3, y4, y5, y6, y7, y8, y9, y10, y11, y12])[j]? = some d → ∀ y ∈ d.weights Tryd.prog t, y ≤ reachBytes := by
        intro j t d ht hd y hy
        apply hw
        rw [DataW.weights, hs]
        exact DataW.weights_mem_each (j := j) ht hd y hy
      obtain ⟨ex, hV, hM⟩ := pairs_of_trod (a := pa) (n := pn) (c := pc) (d := y11.1) (p := y11.2) ⟨n, by simpa [Value.cells] using g11⟩ hpl (hwe 11 53 y11.1 rfl rfl)
      have rb : reachBytes ≤ 140737488355328 := by decide
      have md : x12.data.toList.length ≤ 140737488355328 := by
        have e := congrArg Prod.fst e12
        have := hwe 12 9 y12.1 rfl rfl x12.data.toList.length (by rw [show y12.1 = .lit (.string x12.data.toList) from e, DataW.weights]; exact List.mem_singleton.2 rfl)
        omega
      exact ⟨⟨x0.data.toList, x1.data.toList, kd, x3, x4, x5, x6.data.toList, x7.data.toList, x8, x9, s0, s1, .slice pa pn pc, x12.data.toList⟩, ex, rfl, ⟨I64.of w3, I64.of w4, I64.of w5, I64.of w8, I64.of w9, I64.of sw0, I64.of sw1⟩, md, hV, hM⟩
set_option maxRecDepth 100000 in
theorem member_of_trod {H : Type} {enc : TypeId × Value → H} {W : World} {r : Reach} {b0 : Nat} {v : Value} {d : DataW H} {p : List MemPlace}
    (hv : Value.okWide Tryd.prog W r b0 55 v) (h : DataW.Trod enc Tryd.prog W 0 (fun _ => true) true 55 v d p) (hlt : ∀ x ∈ p, x.block < W.heap.size)
    (hw : ∀ x ∈ d.weights Tryd.prog 55, x ≤ reachBytes) : ∃ (m : MemL) (ex : List PR), v = .agg (MC m).toArray ∧ IntsM m ∧ ExtraOk W m ex := by
  obtain ⟨cs, rfl, _⟩ := okWide_struct Tryd.underlying55 hv
  obtain ⟨fuel, hf⟩ := h
  obtain ⟨m, ex, e, hi, _, hx⟩ := mem_of_cells hf hlt hw
  refine ⟨m, ex, ?_, hi, hx⟩
  have e : cs.toList = MC m := e
  rw [← e]
/-- a slice that reads as some members -/
def memC (q : MemL × List PR) : List Value := MC q.1
def MemsV (W : World) (v : Value) (l : List (MemL × List PR)) : Prop := RowsV memC 14 W v l ∧ ∀ q ∈ l, IntsM q.1 ∧ q.1.data.length ≤ 140737488355328 ∧ ExtraOk W q.1 q.2
set_option maxRecDepth 100000 in
theorem mems_of_trod {H : Type} {enc : TypeId × Value → H} {W : World} {a : Option Addr} {n c : Nat} {d : DataW H} {p : List MemPlace}
    (h : DataW.Trod enc Tryd.prog W 0 (fun _ => true) true 50 (.slice a n c) d p) (hlt : ∀ x ∈ p, x.block < W.heap.size)
    (hw : ∀ x ∈ d.weights Tryd.prog 50, x ≤ reachBytes) : ∃ l : List (MemL × List PR), MemsV W (.slice a n c) l := by
  obtain ⟨fuel, hf⟩ := h
  have hC : Tryd.prog.cellsOf 55 = 14 := by kernel_rfl
  rcases open_slice Tryd.underlying50 hf with ⟨hcs, hx⟩ | ⟨a', len', cap', m, nn, D, Pl, hcs, _, hl, hm, hz, hx, hall⟩
  · simp [Value.cells] at hcs
    obtain ⟨rfl, rfl, rfl⟩ := hcs
    exact ⟨[], ⟨none, 0, rfl, fun h => absurd h (Nat.lt_irrefl _)⟩, fun p hp => by cases hp⟩
  · simp [Value.cells] at hcs
    obtain ⟨rfl, rfl, rfl⟩ := hcs
    simp only [if_true] at hz
    simp only [Prod.mk.injEq] at hx
    obtain ⟨rfl, rfl⟩ := hx
    rw [hC] at hall
    have hs : ∀ i, i < n → ∃ q : MemL × List PR, (∀ k u, (memC q)[k]? = some u → W.cell? (a'.add (i * 14 + k)) = some u) ∧ IntsM q.1 ∧ q.1.data.length ≤ 140737488355328 ∧ ExtraOk W q.1 q.2 := by
      intro i hi
      obtain ⟨cs', h1, h2⟩ := hall i (by omega)
      obtain ⟨_, hlen, hcell⟩ := World.cells?_some h1
      obtain ⟨mm, ex, e, hi2, hd, hx⟩ := mem_of_cells h2 (fun y hy => hlt y (List.mem_append_right _ (List.mem_flatMap.2 ⟨i, List.mem_range.2 (by omega), hy⟩))) (fun y hy => hw y (by
        rw [DataW.weights, Tryd.underlying50]
        exact List.mem_cons_of_mem _ (List.mem_append_left _ (weightsAll_mem _ _ (List.mem_map.2 ⟨i, List.mem_range.2 hi, rfl⟩) y hy))))
      refine ⟨(mm, ex), fun k u hu => ?_, hi2, hd, hx⟩
      have hu : cs'[k]? = some u := by rw [e]; exact hu
      have hk : k < 14 := by rw [← hlen]; exact (List.getElem?_eq_some_iff.1 hu).1
      have h3 := hcell k hk
      rw [hu] at h3
      rw [← h3, add_add]
    obtain ⟨X, hX⟩ : ∃ X : Nat → MemL × List PR, ∀ i, i < n → (∀ k u, (memC (X i))[k]? = some u → W.cell? (a'.add (i * 14 + k)) = some u) ∧ IntsM (X i).1 ∧ (X i).1.data.length ≤ 140737488355328 ∧ ExtraOk W (X i).1 (X i).2 := by
      by_cases h0 : 0 < n
      · refine ⟨fun i => if h : i < n then Classical.choose (hs i h) else Classical.choose (hs 0 h0), fun i hi => ?_⟩
        simp only [dif_pos hi]
        exact Classical.choose_spec (hs i hi)
      · exact ⟨fun _ => (⟨[], [], 0, 0, 0, 0, [], [], 0, 0, 0, 0, .slice none 0 0, []⟩, []), fun i hi => absurd hi (by omega)⟩
    have hlen : ((List.range n).map X).length = n := by rw [List.length_map, List.length_range]
    refine ⟨(List.range n).map X, ⟨some a', c, by rw [hlen], fun hp => ?_⟩, fun q hq => by
      obtain ⟨j, hj, rfl⟩ := List.mem_map.1 hq
      exact (hX j (List.mem_range.1 hj)).2⟩
    rw [hlen] at hp
    have hc0 := (hX 0 hp).1 0 _ rfl
    obtain ⟨b, off, spot⟩ := a'
    have hspot : spot = none := by simpa [Addr.add] using World.cell?_spot hc0
    subst hspot
    refine ⟨b, off, rfl, World.block_lt_of_cell? _ _ hc0, fun j hj i u hu => ?_⟩
    rw [hlen] at hj
    have e : ((List.range n).map X)[j]'(by rw [hlen]; exact hj) = X j := by rw [List.getElem_map, List.getElem_range]
    rw [e] at hu
    have h2 := (hX j hj).1 i u hu
    rw [add_plain] at h2
    rw [Nat.add_assoc]
    exact h2
end Go.Proofs.YtjldphpdfckjnaaDoor
