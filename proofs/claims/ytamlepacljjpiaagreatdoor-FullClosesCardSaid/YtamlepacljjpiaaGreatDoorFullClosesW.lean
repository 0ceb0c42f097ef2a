/- The walk of the law FullCloses. -/
import Derived.Test.YtamlepacljjpiaaGreatDoorFullPlays
import Derived.Test.YtamlepacljjpiaaGreatDoorGfd
namespace Go.Proofs.YtamlepacljjpiaaGreatDoor
open Go.ChangeShapes Go.WideShapes Go.ChangeAt Go.RowKit Go.Shelf
set_option linter.unusedVariables false
set_option linter.unusedSimpArgs false
theorem code_none : codeV none = .nilIface := rfl
theorem code_some (c : Nat) : codeV (some c) = .iface 56 (.int .i64 c) := rfl
theorem take_closed {X : FP} (h : X.closed = true) (p : PD) : wrongP X p = some 6 ∧ takeP X p = ([], X) := by
  have hw : wrongP X p = some 6 := by
    unfold wrongP
    rw [if_pos h]
  refine ⟨hw, ?_⟩
  unfold takeP
  rw [hw]
theorem plays_closed {X : FP} (h : X.closed = true) (l : List PD) : playsP X l = ([], X) := by
  unfold playsP
  induction l with
  | nil => rfl
  | cons p l ih =>
    rw [List.foldl_cons]
    show List.foldl _ ([] ++ (takeP X p).1, (takeP X p).2) l = _
    rw [(take_closed h p).2]
    exact ih
theorem out_take {X : FP} {I : Nat} (hc : X.closed = false) (hI : I < 4294967296) : wrongP X (⟨6, true, 128, [I, 0, 0, 0], [], ⟨#[]⟩⟩ : PD) = none ∧ takeP X (⟨6, true, 128, [I, 0, 0, 0], [], ⟨#[]⟩⟩ : PD) = ([⟨38, 128, [0, I, X.stat, X.cmd, aft X.cmd 31, 0, 0], ⟨#[]⟩⟩], { X.up with closed := true }) := by
  have hw : wrongP X (⟨6, true, 128, [I, 0, 0, 0], [], ⟨#[]⟩⟩ : PD) = none := wrong_ok hc (right6 hI (by decide) (by decide) (by decide)) rfl (by show (⟨#[]⟩ : ByteArray).size ≤ 100000; decide)
  have hk : ¬ known (⟨6, true, 128, [I, 0, 0, 0], [], ⟨#[]⟩⟩ : PD).op = false := by show ¬ known 6 = false; decide
  refine ⟨hw, ?_⟩
  unfold takeP
  rw [hw]
  show stepP _ _ _ = _
  unfold stepP
  rw [if_neg hk, if_pos rfl]
  unfold doP
  rw [if_neg (show ¬ (6 : Int) = 0 by decide)]
  exact if_pos rfl
theorem out_nil {w : World} {base : Nat} {v : Value} {M : List (AP × Value)} (h : OutRow w base v M) (hM : M.map (·.1) = []) : ∃ A cap, v = .slice A 0 cap := by
  have h0 : M = [] := by simpa using hM
  subst h0
  rcases h.2 with ⟨rfl, _⟩ | ⟨g, cap, cur, rfl, _⟩
  · exact ⟨none, 0, rfl⟩
  · exact ⟨_, cap, rfl⟩
set_option maxRecDepth 20000 in
set_option maxHeartbeats 16000000 in
theorem closesFull (c : Cfg) (tv pv uv ov : Value) (la : List (PD × PdPart)) (va : Value) (lb : List (PD × PdPart)) (vb : Value) (itt : Int) (w : World) (hc : CfgAt w tv pv uv ov c) (hsm : c.Small) (hlen : c.tg.length * 16 ≤ 140737488351232 ∧ c.po.length * 24 ≤ 140737488351232 ∧ c.us.length * 32 ≤ 140737488351232 ∧ c.own.length * 32 ≤ 140737488351232)
    (hva : PdsRd w va la) (hvb : PdsRd w vb lb) (hi : 0 ≤ itt ∧ itt ≤ 18446744073709551615) (hla : la.length * 88 ≤ 140737488351232) (hlb : lb.length * 88 ≤ 140737488351232) (V : Env w) :
    Calls Tryz.prog 4 #[cfgV tv pv uv ov c, va, vb, .int .u64 itt] w fun e w' => e = .returned (.bool true) ∧ Below w.heap.size w w' := by
  obtain ⟨tg, po, us, sn, ss, lim, own⟩ := c
  obtain ⟨G, rfl⟩ := Int.eq_ofNat_of_zero_le hi.1
  obtain ⟨I, hIG⟩ : ∃ T, G % 4294967296 = T := ⟨_, rfl⟩
  have hI : I < 4294967296 := by omega
  have hTz : (G : Int).tmod 4294967296 = I := by rw [Int.tmod_eq_emod_of_nonneg (by omega), ← hIG]; omega
  have hTz2 : (G : Int) % 4294967296 = I := by rw [← hIG]; omega
  have HVA := Lib.hid hva
  have HVB := Lib.hid hvb
  have HLA := Lib.hid hla
  have HLB := Lib.hid hlb
  clear hva hvb hla hlb hlen hIG
  have hsess := fun (W : World) (h : Below w.heap.size w W) => session_any ⟨tg, po, us, sn, ss, lim, own⟩ tv pv uv ov [] (.slice none 0 0) true 0 0 hc hsm h (rd_nil _ _) (fun p hp => by cases hp) V (by decide) (by decide) (fun _ => True) (fun _ => True)
    (fun W hW => (crowded_any ⟨tg, po, us, sn, ss, lim, own⟩ tv pv uv ov W (hc.on hW) hsm).mono fun e w' h => by
      obtain ⟨⟨b, hb⟩, h2⟩ := h
      exact ⟨⟨b, trivial, hb⟩, h2⟩)
    (fun W hv => (thick_any [] _ W hv (fun p hp => by cases hp)).mono fun e w' h => by
      obtain ⟨b, hb, h2⟩ := h
      exact ⟨⟨b, trivial, hb⟩, h2⟩)
  have HSESS := Lib.hid hsess
  have HCC := Lib.hid hc
  obtain ⟨G0, hG0⟩ : ∃ G0, w.heap.size = G0 := ⟨_, rfl⟩
  have hb0 : Below w.heap.size w (w.alloc (.cells #[tv, pv, uv, .string sn, .string ss, .int .i64 lim, ov] 29)) := (Below.refl _ _).alloc (Nat.le_refl _) _
  have hB0 := Blk.new w 29 #[tv, pv, uv, .string sn, .string ss, .int .i64 lim, ov]
  obtain ⟨W0, hW0⟩ : ∃ W : World, w.alloc (.cells #[tv, pv, uv, .string sn, .string ss, .int .i64 lim, ov] 29) = W := ⟨_, rfl⟩
  rw [hW0] at hb0 hB0
  rw [hG0] at hB0
  have V0 := V.on hb0
  clear hsess hc
  unfold cfgV at HSESS HCC ⊢
  simp only at HSESS HCC ⊢
  go_enter Tryz.func4, Tryz.ntmps4
  go_upto_region 1 with (fail)
  try refine wp_worldN hW0 ?_
  try rw [hG0]
  go_wp2_with fail
  refine (opened_any _ V0).mono ?_
  rintro e w1 ⟨rfl, hb1⟩
  have hB1 := hB0.below hb1 hB0.lt
  have hb1 := below_step hb0 hb1
  have c0 := hB1.cell 0
  have c1 := hB1.cell 1
  have c2 := hB1.cell 2
  have c3 := hB1.cell 3
  have c4 := hB1.cell 4
  have c5 := hB1.cell 5
  have c6 := hB1.cell 6
  have HW0 := Lib.hid hW0
  clear hB0 hB1 hW0
  go_wp2_with fail
  refine (HSESS.out _ hb1).mono ?_
  rintro e w2 ⟨hE, hb2⟩
  obtain ⟨o, rfl, ho⟩ : ∃ o, e = .returned (.pointer o) ∧ (o = none ∨ ∃ f S, o = some ⟨f, 0, none⟩ ∧ FullI w w2 S f (sessP ⟨tg, po, us, sn, ss, lim, own⟩ [] true 0 0) ∧ ∀ k ∈ S, w1.heap.size ≤ k) := by
    rcases hE with ⟨_, rfl⟩ | ⟨f, S, rfl, h1, h2⟩
    · exact ⟨none, rfl, .inl rfl⟩
    · exact ⟨_, rfl, .inr ⟨f, S, rfl, h1, h2⟩⟩
  have hb2w := below_step hb1 hb2
  have V2 := V.on hb2w
  clear hE c0 c1 c2 c3 c4 c5 c6
  have hbl3 : Below w2.heap.size w2 ((w2.alloc (.cells #[.string ⟨#[73, 84, 84]⟩] 9)).alloc (.cells #[.int .u64 (I : Int)] 49)) := ((Below.refl _ _).alloc (Nat.le_refl _) _).alloc (by simp) _
  have hnv3 : SRd ((w2.alloc (.cells #[.string ⟨#[73, 84, 84]⟩] 9)).alloc (.cells #[.int .u64 (I : Int)] 49)) (.slice (some ⟨w2.heap.size, 0, none⟩) 1 1) 1 1 ([nITT].map .string) := SRd.lit5 (n := 1) (Blk.alloc (Blk.new w2 _ _) _)
  have hvv3 : SRd ((w2.alloc (.cells #[.string ⟨#[73, 84, 84]⟩] 9)).alloc (.cells #[.int .u64 (I : Int)] 49)) (.slice (some ⟨w2.heap.size + 1, 0, none⟩) 1 1) 1 1 ([I].map u64V) := by
    rw [← szA w2 (.cells #[.string ⟨#[73, 84, 84]⟩] 9)]
    exact SRd.lit5 (n := 1) (Blk.new _ _ _)
  have hreq3 := req_any 6 128 true [nITT] [I] _ _ ⟨#[]⟩ [I, 0, 0, 0] _ (make6 (b := I) hI) (by decide) (by decide) hnv3 hvv3 (fun y hy => by simp at hy; omega) (fun y hy => by simp at hy; omega) (by decide) (V2.on hbl3)
  have HREQ3 := Lib.hid hreq3
  have HBL3 := Lib.hid hbl3
  clear hreq3 hnv3 hvv3 hbl3
  go_wp2_with fail
  refine HREQ3.out.mono ?_
  rintro e w3 ⟨⟨u3, he, hp3, hu3⟩, hb3⟩
  obtain ⟨A3, cap3, hu⟩ : ∃ A cap, u3 = .slice A 4 cap := pd_form hp3
  subst hu
  have he' : e = .returned (.tuple #[.agg #[.int .i64 6, .bool true, .int .i64 128, .slice A3 4 cap3, .slice none 0 0, .string ⟨#[]⟩], .bool true]) := he
  subst he'
  have hb3r := below_step HBL3.out hb3
  have hb3a : Below w3.heap.size w3 (w3.alloc (.cells #[.int .i64 6, .bool true, .int .i64 128, .slice A3 4 cap3, .slice none 0 0, .string ⟨#[]⟩] 41)) := (Below.refl _ _).alloc (Nat.le_refl _) _
  have hB3 := Blk.new w3 41 #[.int .i64 6, .bool true, .int .i64 128, .slice A3 4 cap3, .slice none 0 0, .string ⟨#[]⟩]
  obtain ⟨W4, hW4⟩ : ∃ W : World, w3.alloc (.cells #[.int .i64 6, .bool true, .int .i64 128, .slice A3 4 cap3, .slice none 0 0, .string ⟨#[]⟩] 41) = W := ⟨_, rfl⟩
  rw [hW4] at hb3a hB3
  have hb3w := below_step hb3r hb3a
  have hp3 := hp3.on hb3a
  have hb4 := below_step hb2w hb3w
  obtain ⟨g3, hg3⟩ : ∃ g, w3.heap.size = g := ⟨_, rfl⟩
  rw [hg3] at hB3
  have HW4 := Lib.hid hW4
  have HG3 := Lib.hid hg3
  clear he
  rcases ho with rfl | ⟨f, S, rfl, hI2, hS2⟩
  · clear hW4 hg3
    go_upto_region 5 with (fail)
    try refine wp_worldN HW4.out ?_
    go_wp2_with fail
    go_ret
    exact ⟨rfl, hb4⟩
  have hI4 := hI2.on hb3w
  have hfar3 : PdFar S ((⟨6, true, 128, [I, 0, 0, 0], [], ⟨#[]⟩⟩ : PD), reqPart (.slice A3 4 cap3)) := ⟨fun _ k hk hm => by have h1 := hu3 k hk; have h2 := (hI2.lt k hm).1; have h3 := HBL3.out.size; omega, fun hn => absurd (show 0 < 0 from hn) (by decide)⟩
  have hg3S : g3 ∉ S := fun hm => by have h1 := (hI2.lt g3 hm).1; have h2 := HG3.out; have h3 := hb3r.size; omega
  have HP3 := Lib.hid hp3
  have HF3 := Lib.hid hfar3
  have HB3 := Lib.hid hB3
  have HI4 := Lib.hid hI4
  clear hu3 hp3 hfar3 hB3 hI2 hI4 hW4 hg3
  go_upto_region 5 with (fail)
  try refine wp_worldN HW4.out ?_
  try rw [HG3.out]
  go_wp2_with fail
  refine (some_any la va _ (HVA.out.on hb4)).mono ?_
  rintro e w5 ⟨⟨b5, rfl⟩, hb5⟩
  rcases b5 with _ | _
  · go_wp2_with fail
    go_ret
    exact ⟨rfl, below_step hb4 hb5⟩
  have hb5w := below_step hb4 hb5
  go_wp2_with fail
  refine (some_any lb vb _ (HVB.out.on hb5w)).mono ?_
  rintro e w6 ⟨⟨b6, rfl⟩, hb6⟩
  rcases b6 with _ | _
  · go_wp2_with fail
    go_ret
    exact ⟨rfl, below_step hb5w hb6⟩
  have hb46 := below_step hb5 hb6
  have hI6 := HI4.out.on hb46
  have hb6w := below_step hb5w hb6
  have hSw : ∀ k ∈ S, w.heap.size ≤ k := fun k hk => (hI6.lt k hk).2
  have hplays := plays_any hI6 V la va (HVA.out.on hb6w) (fun hn k hk hm => by have h1 := srd_lt HVA.out.1 hn k hk; have h2 := hSw k hm; omega) (fun x hx => PdFar.above (HVA.out.2 x hx) hSw) HLA.out
  obtain ⟨Y, hY⟩ : ∃ Y, (playsP (sessP ⟨tg, po, us, sn, ss, lim, own⟩ [] true 0 0) (la.map (·.1))).2 = Y := ⟨_, rfl⟩
  rw [hY] at hplays
  have HPL := Lib.hid hplays
  have hp6 := HP3.out.on hb46
  have hB6 := HB3.out.below hb46 HB3.out.lt
  have HB6 := Lib.hid hB6
  have HP6 := Lib.hid hp6
  clear hplays hY hI6 hB6 hp6
  go_wp2_with fail
  refine HPL.out.mono ?_
  rintro e w7 ⟨v7, rfl, M7, S7, _, hr7, _, hI7, hN7, hS7⟩
  have hB7 : Blk w7 g3 41 #[.int .i64 6, .bool true, .int .i64 128, .slice A3 4 cap3, .slice none 0 0, .string ⟨#[]⟩] := (hN7.block g3 HB6.out.lt hg3S).trans HB6.out
  have hp7 := HP6.out.nf hN7 HF3.out
  have hf7 := HF3.out.grow HP6.out hS7
  have hg7 : g3 ∉ S7 := fun hm => by
    rcases hS7 g3 hm with h | h
    · exact hg3S h
    · have := HB6.out.lt; omega
  have HB7 := Lib.hid hB7
  have HP7 := Lib.hid hp7
  have HF7 := Lib.hid hf7
  have HI7 := Lib.hid hI7
  have hlast : ∀ (W : World) (S' : List Nat) (Z : FP), FullI w W S' f Z → Z.closed = true → Blk W g3 41 #[.int .i64 6, .bool true, .int .i64 128, .slice A3 4 cap3, .slice none 0 0, .string ⟨#[]⟩] → PdOk W ((⟨6, true, 128, [I, 0, 0, 0], [], ⟨#[]⟩⟩ : PD), reqPart (.slice A3 4 cap3)) → PdFar S' ((⟨6, true, 128, [I, 0, 0, 0], [], ⟨#[]⟩⟩ : PD), reqPart (.slice A3 4 cap3)) → g3 ∉ S' →
      (Calls Tryz.prog 20 #[.pointer (some ⟨f, 0, none⟩), vb] W fun e w' => ∃ A cap S2, e = .returned (.slice A 0 cap) ∧ FullI w w' S2 f Z ∧ Blk w' g3 41 #[.int .i64 6, .bool true, .int .i64 128, .slice A3 4 cap3, .slice none 0 0, .string ⟨#[]⟩] ∧ PdOk w' ((⟨6, true, 128, [I, 0, 0, 0], [], ⟨#[]⟩⟩ : PD), reqPart (.slice A3 4 cap3)) ∧ PdFar S2 ((⟨6, true, 128, [I, 0, 0, 0], [], ⟨#[]⟩⟩ : PD), reqPart (.slice A3 4 cap3))) := by
    intro W S' Z hI' hZ hB' hp' hf' hg'
    have hSw' : ∀ k ∈ S', w.heap.size ≤ k := fun k hk => (hI'.lt k hk).2
    have h := plays_any hI' V lb vb (HVB.out.on hI'.b) (fun hn k hk hm => by have h1 := srd_lt HVB.out.1 hn k hk; have h2 := hSw' k hm; omega) (fun x hx => PdFar.above (HVB.out.2 x hx) hSw') HLB.out
    rw [plays_closed hZ] at h
    refine h.mono ?_
    rintro e w' ⟨v', rfl, M, S2, hM, hr, _, hI2, hN2, hS2⟩
    obtain ⟨A, cap, rfl⟩ := out_nil hr hM
    exact ⟨A, cap, S2, rfl, hI2, (hN2.block g3 hB'.lt hg').trans hB', hp'.nf hN2 hf', hf'.grow hp' hS2⟩
  have HLAST := Lib.hid hlast
  clear hB7 hp7 hf7 hI7 hlast hr7
  go_wp2_with fail
  refine (fclosed_any HI7.out).mono ?_
  rintro e w8 ⟨rfl, rfl⟩
  by_cases hcl : Y.closed = true
  · rw [hcl]
    have HCL := Lib.hid hcl
    clear hcl
    go_wp2_with fail
    refine (fnext_any HI7.out).mono ?_
    rintro e w10 ⟨rfl, hb10⟩
    have hI10 := HI7.out.on hb10
    have hp10 := (HLAST.out w10 S7 Y hI10 HCL.out (HB7.out.below hb10 HB7.out.lt) (HP7.out.on hb10) HF7.out hg7)
    have HPL10 := Lib.hid hp10
    clear hp10 hI10
    go_wp2_with fail
    refine HPL10.out.mono ?_
    rintro e w11 ⟨A11, cap11, S11, rfl, hI11, hB11, hp11, hf11⟩
    have HB11 := Lib.hid hB11
    have HP11 := Lib.hid hp11
    have HI11 := Lib.hid hI11
    clear hB11 hp11 hI11
    go_wp2_with fail
    refine (fnext_any HI11.out).mono ?_
    rintro e w12 ⟨rfl, hb12⟩
    have hI12 := HI11.out.on hb12
    have htk := ftake_any hI12 V ((⟨6, true, 128, [I, 0, 0, 0], [], ⟨#[]⟩⟩ : PD), reqPart (.slice A3 4 cap3)) (HP11.out.on hb12) hf11
    rw [(take_closed HCL.out _).1, (take_closed HCL.out _).2, code_some] at htk
    have HT12 := Lib.hid htk
    have hB12 := HB11.out.below hb12 HB11.out.lt
    have d0 : w12.cell? ⟨g3, 0, none⟩ = some (.int .i64 6) := hB12.cell 0
    have d1 : w12.cell? ⟨g3, 1, none⟩ = some (.bool true) := hB12.cell 1
    have d2 : w12.cell? ⟨g3, 2, none⟩ = some (.int .i64 128) := hB12.cell 2
    have d3 : w12.cell? ⟨g3, 3, none⟩ = some (.slice A3 4 cap3) := hB12.cell 3
    have d4 : w12.cell? ⟨g3, 4, none⟩ = some (.slice none 0 0) := hB12.cell 4
    have d5 : w12.cell? ⟨g3, 5, none⟩ = some (.string ⟨#[]⟩) := hB12.cell 5
    clear htk hB12 hI12
    go_wp2_with fail
    refine HT12.out.mono ?_
    rintro e w13 ⟨v13, rfl, S13, hI13, hN13, hS13, hO13⟩
    obtain rfl : v13 = .slice none 0 0 := hO13
    have HI13 := Lib.hid hI13
    have V13 := V.on hI13.b
    clear d0 d1 d2 d3 d4 d5 hI13
    go_wp2_with fail
    refine (fclosed_any HI13.out).mono ?_
    rintro e w14 ⟨rfl, rfl⟩
    try rw [HCL.out]
    go_wp2_with fail
    refine (tell_errno 6 _ V13.L).mono ?_
    rintro e w15 ⟨rfl, hb15⟩
    go_wp2_with fail
    go_ret
    exact ⟨rfl, below_step HI13.out.b hb15⟩
  have hcl2 : Y.closed = false := by simpa using hcl
  rw [hcl2]
  obtain ⟨hw9, ht9⟩ := out_take (I := I) hcl2 hI
  have htake := ftake_any HI7.out V ((⟨6, true, 128, [I, 0, 0, 0], [], ⟨#[]⟩⟩ : PD), reqPart (.slice A3 4 cap3)) HP7.out HF7.out
  obtain ⟨Z, hZ⟩ : ∃ Z : FP, { Y.up with closed := true } = Z := ⟨_, rfl⟩
  rw [hw9, ht9, code_none, hZ] at htake
  have hz9 : Z.closed = true := by rw [← hZ]
  have HZ9 := Lib.hid hz9
  clear hZ hz9
  have HT := Lib.hid htake
  have d0 : w7.cell? ⟨g3, 0, none⟩ = some (.int .i64 6) := HB7.out.cell 0
  have d1 : w7.cell? ⟨g3, 1, none⟩ = some (.bool true) := HB7.out.cell 1
  have d2 : w7.cell? ⟨g3, 2, none⟩ = some (.int .i64 128) := HB7.out.cell 2
  have d3 : w7.cell? ⟨g3, 3, none⟩ = some (.slice A3 4 cap3) := HB7.out.cell 3
  have d4 : w7.cell? ⟨g3, 4, none⟩ = some (.slice none 0 0) := HB7.out.cell 4
  have d5 : w7.cell? ⟨g3, 5, none⟩ = some (.string ⟨#[]⟩) := HB7.out.cell 5
  clear htake hw9 ht9
  go_wp2_with fail
  refine HT.out.mono ?_
  rintro e w9 ⟨v, rfl, S9, hI9, hN9, hS9, b, hv, rfl, hB9, hbb, hbS, hA9⟩
  obtain ⟨A9, cap9, rfl⟩ : ∃ A cap, hv = .slice A 7 cap := by
    obtain ⟨_, A, cap, hv, _⟩ := hA9.1
    exact ⟨A, cap, hv⟩
  have hYok := HI7.out.ok
  have hy1 := hYok.st
  have hy2 := hYok.cm
  have hp9 := ap_ok hA9 (by
    have := Nat.mod_lt (Y.cmd + 31) (show 4294967296 > 0 by decide)
    intro y hy
    simp [aft] at hy
    omega) (by show (38 : Nat) ≤ 63; decide) (by show (128 : Nat) ≤ 255; decide) (by show (⟨#[]⟩ : ByteArray).size ≤ _; decide)
  have V9 := V.on hI9.b
  have HW9 := Lib.hid (fwhat_any _ r38 nITT I row38 rfl w9 hp9 V9.T V9.S)
  have hB39 : Blk w9 g3 41 #[.int .i64 6, .bool true, .int .i64 128, .slice A3 4 cap3, .slice none 0 0, .string ⟨#[]⟩] := (hN9.block g3 HB7.out.lt hg7).trans HB7.out
  have hp39 := HP7.out.nf hN9 HF7.out
  have hf39 := HF7.out.grow HP7.out hS9
  have hg9 : g3 ∉ S9 := fun hm => by
    rcases hS9 g3 hm with h | h
    · exact hg7 h
    · have := HB7.out.lt; omega
  have HB39 := Lib.hid hB39
  have HP39 := Lib.hid hp39
  have HF39 := Lib.hid hf39
  have HI9 := Lib.hid hI9
  clear d0 d1 d2 d3 d4 d5 hB39 hp39 hf39 hI9 hp9 hA9
  have d0 : w9.cell? ⟨b, 0, none⟩ = some (.int .i64 38) := hB9.cell 0
  have d1 : w9.cell? ⟨b, 1, none⟩ = some (.bool false) := hB9.cell 1
  have d2 : w9.cell? ⟨b, 2, none⟩ = some (.int .i64 128) := hB9.cell 2
  have d3 : w9.cell? ⟨b, 3, none⟩ = some (.slice A9 7 cap9) := hB9.cell 3
  have d4 : w9.cell? ⟨b, 4, none⟩ = some (.slice none 0 0) := hB9.cell 4
  have d5 : w9.cell? ⟨b, 5, none⟩ = some (.string ⟨#[]⟩) := hB9.cell 5
  go_wp2_with fail
  refine HW9.out.mono ?_
  rintro e w9b ⟨he, hb9⟩
  have he9 : e = .returned (.int .u64 (I : Int)) := he
  subst he9
  have hI9b := HI9.out.on hb9
  have HI9b := Lib.hid hI9b
  have HB9b := Lib.hid (HB39.out.below hb9 HB39.out.lt)
  have HP9b := Lib.hid (HP39.out.on hb9)
  clear he d0 d1 d2 d3 d4 d5 hI9b
  go_wp2_with fail
  refine (fnext_any HI9b.out).mono ?_
  rintro e w10 ⟨rfl, hb10⟩
  have hI10 := HI9b.out.on hb10
  have hp10 := (HLAST.out w10 S9 Z hI10 HZ9.out (HB9b.out.below hb10 HB9b.out.lt) (HP9b.out.on hb10) HF39.out hg9)
  have HPL10 := Lib.hid hp10
  clear hp10 hI10
  go_wp2_with fail
  refine HPL10.out.mono ?_
  rintro e w11 ⟨A11, cap11, S11, rfl, hI11, hB11, hp11, hf11⟩
  have HB11 := Lib.hid hB11
  have HP11 := Lib.hid hp11
  have HI11 := Lib.hid hI11
  clear hB11 hp11 hI11
  go_wp2_with fail
  refine (fnext_any HI11.out).mono ?_
  rintro e w12 ⟨rfl, hb12⟩
  have hI12 := HI11.out.on hb12
  have htk := ftake_any hI12 V ((⟨6, true, 128, [I, 0, 0, 0], [], ⟨#[]⟩⟩ : PD), reqPart (.slice A3 4 cap3)) (HP11.out.on hb12) hf11
  rw [(take_closed HZ9.out _).1, (take_closed HZ9.out _).2, code_some] at htk
  have HT12 := Lib.hid htk
  have hB12 := HB11.out.below hb12 HB11.out.lt
  have d0 : w12.cell? ⟨g3, 0, none⟩ = some (.int .i64 6) := hB12.cell 0
  have d1 : w12.cell? ⟨g3, 1, none⟩ = some (.bool true) := hB12.cell 1
  have d2 : w12.cell? ⟨g3, 2, none⟩ = some (.int .i64 128) := hB12.cell 2
  have d3 : w12.cell? ⟨g3, 3, none⟩ = some (.slice A3 4 cap3) := hB12.cell 3
  have d4 : w12.cell? ⟨g3, 4, none⟩ = some (.slice none 0 0) := hB12.cell 4
  have d5 : w12.cell? ⟨g3, 5, none⟩ = some (.string ⟨#[]⟩) := hB12.cell 5
  clear htk hB12 hI12
  go_wp2_with fail
  refine HT12.out.mono ?_
  rintro e w13 ⟨v13, rfl, S13, hI13, hN13, hS13, hO13⟩
  obtain rfl : v13 = .slice none 0 0 := hO13
  have HI13 := Lib.hid hI13
  have V13 := V.on hI13.b
  clear d0 d1 d2 d3 d4 d5 hI13
  go_wp2_with fail
  refine (fclosed_any HI13.out).mono ?_
  rintro e w14 ⟨rfl, rfl⟩
  try rw [HZ9.out]
  go_wp2_with fail
  refine (tell_errno 6 _ V13.L).mono ?_
  rintro e w15 ⟨rfl, hb15⟩
  go_wp2_with fail
  go_ret
  exact ⟨rfl, below_step HI13.out.b hb15⟩
end Go.Proofs.YtamlepacljjpiaaGreatDoor
