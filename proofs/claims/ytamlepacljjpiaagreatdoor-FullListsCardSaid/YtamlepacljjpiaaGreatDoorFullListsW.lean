/- The walk of the law FullLists. -/
import Derived.Test.YtamlepacljjpiaaGreatDoorFullListP
namespace Go.Proofs.YtamlepacljjpiaaGreatDoor
open Go.ChangeShapes Go.WideShapes Go.ChangeAt Go.RowKit Go.Shelf
set_option linter.unusedVariables false
set_option linter.unusedSimpArgs false
set_option maxRecDepth 20000 in
set_option maxHeartbeats 16000000 in
theorem listsFull (c : Cfg) (tv pv uv ov : Value) (most : Int) (w : World) (hc : CfgAt w tv pv uv ov c) (hsm : c.Small) (hlen : c.tg.length * 16 ≤ 140737488351232 ∧ c.po.length * 24 ≤ 140737488351232 ∧ c.us.length * 32 ≤ 140737488351232 ∧ c.own.length * 32 ≤ 140737488351232)
    (hmo : -9223372036854775808 ≤ most ∧ most ≤ 9223372036854775807) (V : Env w) :
    Calls Tryz.prog 6 #[cfgV tv pv uv ov c, .int .i64 most] w fun e w' => e = .returned (.bool true) ∧ Below w.heap.size w w' := by
  obtain ⟨tg, po, us, sn, ss, lim, own⟩ := c
  obtain ⟨k, hk, hk2⟩ := pickE most 300 (by decide)
  obtain ⟨M, hM⟩ : ∃ M, 512 + k = M := ⟨_, rfl⟩
  have hMz : (512 : Int) + (k : Int) = (M : Int) := by omega
  have hM0 : 512 ≤ M := by omega
  have hM1 : M < 2512 := by omega
  obtain ⟨DM, hDM⟩ : ∃ D, ba (dgs M) = D := ⟨_, rfl⟩
  have hDMz : DM.size ≤ 255 := by
    have := valB_len (dgs_val M)
    rw [← hDM]
    show (⟨(dgs M).toArray⟩ : ByteArray).size ≤ 255
    rw [size_mkl]
    exact this
  have hnum := fun (W : World) => numberK M (by omega) W
  have hDM2 : (⟨(dgs M).toArray⟩ : ByteArray) = DM := hDM
  rw [hDM2] at hnum
  have HNUM := Lib.hid hnum
  have HPICK := Lib.hid (fun (W : World) => pickK most 300 k hk (by decide) (by decide) W)
  have HMZ := Lib.hid hMz
  have HDM := Lib.hid hDM
  clear hnum hk hM hDM hDM2
  have hsess := fun (W : World) (fv : Value) (h : Below w.heap.size w W) (hof : SRd W fv 2 1 (pairCells [(mrB, DM)])) => session_any ⟨tg, po, us, sn, ss, lim, own⟩ tv pv uv ov [(mrB, DM)] fv true 0 0 hc hsm h hof (fun p hp => by
      rw [List.mem_singleton.1 hp]
      exact ⟨by show mrB.size ≤ _; have : mrB.size = 24 := rfl; omega, by show DM.size ≤ _; omega⟩) V (by decide) (by decide) (fun _ => True) (fun _ => True)
    (fun W hW => (crowded_any ⟨tg, po, us, sn, ss, lim, own⟩ tv pv uv ov W (hc.on hW) hsm).mono fun e w' h => by
      obtain ⟨⟨b, hb⟩, h2⟩ := h
      exact ⟨⟨b, trivial, hb⟩, h2⟩)
    (fun W hv => (thick_any [(mrB, DM)] _ W hv (fun p hp => by
      rw [List.mem_singleton.1 hp]
      exact ⟨by show mrB.size ≤ _; have : mrB.size = 24 := rfl; omega, by show DM.size ≤ _; omega⟩)).mono fun e w' h => by
      obtain ⟨b, hb, h2⟩ := h
      exact ⟨⟨b, trivial, hb⟩, h2⟩)
  have HSESS := Lib.hid hsess
  have HCC := Lib.hid hc
  obtain ⟨G0, hG0⟩ : ∃ G0, w.heap.size = G0 := ⟨_, rfl⟩
  have hb0 : Below w.heap.size w (w.alloc (.cells #[tv, pv, uv, .string sn, .string ss, .int .i64 lim, ov] 29)) := (Below.refl _ _).alloc (Nat.le_refl _) _
  have hB0 := Blk.new w 29 #[tv, pv, uv, .string sn, .string ss, .int .i64 lim, ov]
  obtain ⟨W0, hW0⟩ : ∃ W : World, w.alloc (.cells #[tv, pv, uv, .string sn, .string ss, .int .i64 lim, ov] 29) = W := ⟨_, rfl⟩
  rw [hW0] at hb0 hB0
  rw [hG0] at hB0
  have V0 := V.on hb0
  have VV := Lib.hid V
  have HB0 := Lib.hid hB0
  have HW0 := Lib.hid hW0
  have HG0 := Lib.hid hG0
  clear hsess hc hB0 hW0 hG0
  unfold cfgV at HSESS ⊢
  simp only at HSESS ⊢
  go_enter Tryz.func6, Tryz.ntmps6
  go_upto_region 1 with (fail)
  try refine wp_worldN HW0.out ?_
  try rw [HG0.out]
  go_wp2_with fail
  refine (opened_any _ V0).mono ?_
  rintro e f0 ⟨rfl, hf0⟩
  have hbwf0 := below_step hb0 hf0
  have Vf0 := VV.out.on hbwf0
  go_wp2_with fail
  refine (listed_any _ Vf0).mono ?_
  rintro e f1 ⟨rfl, hf1⟩
  have hbwf1 := below_step hbwf0 hf1
  have Vf1 := VV.out.on hbwf1
  go_wp2_with fail
  refine (paired_fact _ Vf1.L Vf1.S).mono ?_
  rintro e f2 ⟨rfl, hf2⟩
  have hbwf2 := below_step hbwf1 hf2
  have Vf2 := VV.out.on hbwf2
  go_wp2_with fail
  refine (HPICK.out _).mono ?_
  rintro e w2b ⟨rfl, rfl⟩
  have hMz := HMZ.out
  have HKC := Lib.hid (fun (W : World) (h : Below f2.heap.size f2 W) => (HB0.out.below (below_step (below_step hf0 hf1) hf2) HB0.out.lt).below h (HB0.out.below (below_step (below_step hf0 hf1) hf2) HB0.out.lt).lt)
  have HK7 := Lib.hid (show ∀ w' : World, Below f2.heap.size f2 w' → w'.cell? ⟨G0, 0, none⟩ = some (tv) ∧ w'.cell? ⟨G0, 1, none⟩ = some (pv) ∧ w'.cell? ⟨G0, 2, none⟩ = some (uv) ∧ w'.cell? ⟨G0, 3, none⟩ = some (.string sn) ∧ w'.cell? ⟨G0, 4, none⟩ = some (.string ss) ∧ w'.cell? ⟨G0, 5, none⟩ = some (.int .i64 lim) ∧ w'.cell? ⟨G0, 6, none⟩ = some (ov) from fun w' h => have hB := HKC.out w' h; ⟨hB.cell 0, hB.cell 1, hB.cell 2, hB.cell 3, hB.cell 4, hB.cell 5, hB.cell 6⟩)
  have kk0 := HK7.out f2 (Below.refl _ _)
  go_upto_region 4 with (fail)
  try rw [HMZ.out]
  go_region_held3 (fun w' => w'.cell? ⟨G0, 0, none⟩ = some (tv) ∧ w'.cell? ⟨G0, 1, none⟩ = some (pv) ∧ w'.cell? ⟨G0, 2, none⟩ = some (uv) ∧ w'.cell? ⟨G0, 3, none⟩ = some (.string sn) ∧ w'.cell? ⟨G0, 4, none⟩ = some (.string ss) ∧ w'.cell? ⟨G0, 5, none⟩ = some (.int .i64 lim) ∧ w'.cell? ⟨G0, 6, none⟩ = some (ov)) (first | go_keep | exact kk0 | exact kk1 | exact kk2 | exact kk3 | exact HK7.out _ (Below.refl _ _).drew | exact HK7.out _ (below_a hp5 _) | exact HK7.out _ (below_a hp5 _).drew | exact HK7.out _ (below_a hp5.drew _)) ((first
    | (go_at_call 26; (with_reducible refine (HNUM.out _).mono ?_); rintro e n1 ⟨rfl, hn1⟩; have hn5 : Below f2.heap.size f2 n1 := (by first | exact hn1 | exact below_step (Below.refl _ _).drew hn1); have kk1 := HK7.out n1 hn5)
    | (go_at_call 25; (with_reducible refine (pair_mk _ _ _).mono ?_); rintro e n2 ⟨rfl, hn2⟩; have hp5 : Below f2.heap.size f2 n2 := (by first | exact below_step hn5 hn2 | exact below_step hn5.drew hn2); have kk2 := HK7.out n2 hp5)
    | (go_at_call 12; refine (HSESS.out _ _ (below_step hbwf2 (by first | exact below_a hp5 _ | exact (below_a hp5 _).drew | exact below_a hp5.drew _)) (by first | exact SRd.litp (Blk.new _ _ _) rfl rfl (by decide) | exact SRd.litp (Blk.drew (Blk.new _ _ _)) rfl rfl (by decide))).mono ?_; rintro e w3 ⟨hE, hb3⟩; obtain ⟨o, rfl, ho⟩ := sess_form hE; have hs5 : Below f2.heap.size f2 w3 := (by first | exact below_step (below_a hp5 _) hb3 | exact below_step (below_a hp5 _).drew hb3 | exact below_step (below_a hp5.drew _) hb3); have kk3 := HK7.out w3 hs5; clear hE)))
  have hb3w := below_step hbwf2 hs5
  have V3 := VV.out.on hb3w
  clear kk0 kk1 kk2 kk3
  have hbl6 : Below w3.heap.size w3 ((w3.alloc (.cells #[.string ⟨#[73, 84, 84]⟩, .string ⟨#[84, 84, 84]⟩] 9)).alloc (.cells #[.int .u64 1, .int .u64 4294967295] 49)) := ((Below.refl _ _).alloc (Nat.le_refl _) _).alloc (by simp) _
  have hnv6 : SRd ((w3.alloc (.cells #[.string ⟨#[73, 84, 84]⟩, .string ⟨#[84, 84, 84]⟩] 9)).alloc (.cells #[.int .u64 1, .int .u64 4294967295] 49)) (.slice (some ⟨w3.heap.size, 0, none⟩) 2 2) 1 2 ([nITT, nTTT].map .string) := SRd.lit5 (n := 2) (Blk.alloc (Blk.new w3 _ _) _)
  have hvv6 : SRd ((w3.alloc (.cells #[.string ⟨#[73, 84, 84]⟩, .string ⟨#[84, 84, 84]⟩] 9)).alloc (.cells #[.int .u64 1, .int .u64 4294967295] 49)) (.slice (some ⟨w3.heap.size + 1, 0, none⟩) 2 2) 1 2 ([1, noneN].map u64V) := by
    rw [← szA w3 (.cells #[.string ⟨#[73, 84, 84]⟩, .string ⟨#[84, 84, 84]⟩] 9)]
    exact SRd.lit5 (n := 2) (Blk.new _ _ _)
  have hreq6 := req_any 4 128 true [nITT, nTTT] [1, noneN] _ _ askAll [0, 1, noneN, 0, 0] _ (make4 (fl := 128) (b := 1) (c := noneN) (by simp) (by decide) (by decide)) (by decide) (by decide) hnv6 hvv6 (by decide) (by decide) (by decide) (V3.on hbl6)
  have HREQ6 := Lib.hid hreq6
  have HBL6 := Lib.hid hbl6
  clear hreq6 hnv6 hvv6 hbl6
  go_wp2_with fail
  refine HREQ6.out.mono ?_
  rintro e w4 ⟨⟨u3, he, hp3, hu3⟩, hb4⟩
  obtain ⟨A3, cap3, hu⟩ : ∃ A cap, u3 = .slice A 5 cap := pd_form hp3
  subst hu
  have he' : e = .returned (.tuple #[.agg #[.int .i64 4, .bool true, .int .i64 128, .slice A3 5 cap3, .slice none 0 0, .string ⟨#[83, 101, 110, 100, 84, 97, 114, 103, 101, 116, 115, 61, 65, 108, 108, 0]⟩], .bool true]) := he
  subst he'
  have hb4r := below_step HBL6.out hb4
  have hb4a : Below w4.heap.size w4 (w4.alloc (.cells #[.int .i64 4, .bool true, .int .i64 128, .slice A3 5 cap3, .slice none 0 0, .string ⟨#[83, 101, 110, 100, 84, 97, 114, 103, 101, 116, 115, 61, 65, 108, 108, 0]⟩] 41)) := (Below.refl _ _).alloc (Nat.le_refl _) _
  have hB3 := Blk.new w4 41 #[.int .i64 4, .bool true, .int .i64 128, .slice A3 5 cap3, .slice none 0 0, .string ⟨#[83, 101, 110, 100, 84, 97, 114, 103, 101, 116, 115, 61, 65, 108, 108, 0]⟩]
  obtain ⟨W6, hW6⟩ : ∃ W : World, w4.alloc (.cells #[.int .i64 4, .bool true, .int .i64 128, .slice A3 5 cap3, .slice none 0 0, .string ⟨#[83, 101, 110, 100, 84, 97, 114, 103, 101, 116, 115, 61, 65, 108, 108, 0]⟩] 41) = W := ⟨_, rfl⟩
  obtain ⟨g3, hg3⟩ : ∃ g, w4.heap.size = g := ⟨_, rfl⟩
  rw [hW6] at hb4a hB3
  rw [hg3] at hB3
  have hb4w := below_step hb4r hb4a
  have hp3 := hp3.on hb4a
  have hb6 := below_step hb3w hb4w
  have HW6 := Lib.hid hW6
  have HG3 := Lib.hid hg3
  have HP3 := Lib.hid hp3
  have HB3 := Lib.hid hB3
  have HU3 := Lib.hid hu3
  clear he hW6 hg3 hp3 hB3 hu3
  go_upto_region 6 with (fail)
  try refine wp_worldN HW6.out ?_
  try rw [HG3.out]
  rcases ho with rfl | ⟨f, S, rfl, hI3, hS3⟩
  · go_wp2_with fail
    go_ret
    exact ⟨rfl, hb6⟩
  have hcr : cRight ⟨tg, po, us, sn, ss, lim, own⟩ = none := hI3.ok.cr
  obtain ⟨X, hX⟩ : ∃ X, sessP ⟨tg, po, us, sn, ss, lim, own⟩ [(mrB, DM)] true 0 0 = X := ⟨_, rfl⟩
  have hcl : X.closed = false := by rw [← hX]; rfl
  have htx : X.txt = ⟨#[]⟩ := by rw [← hX]; rfl
  have hXc : X.conf = ⟨tg, po, us, sn, ss, lim, own⟩ := by rw [← hX]; rfl
  have hXd : X.disc = true := by rw [← hX]; rfl
  have hXm : mostN X.rc = M := by rw [← hX]; exact mr_sess _ DM M HDM.out hM0 hM1 true
  have hXs : X.stat < 4294967296 := by rw [← hX]; show (0 : Nat) < 4294967296; decide
  have hXm2 : X.cmd < 4294967296 := by rw [← hX]; show (0 : Nat) < 4294967296; decide
  rw [hX] at hI3
  have hI6 := hI3.on hb4w
  have hgS : g3 ∉ S := fun hm => by have h1 := (hI3.lt g3 hm).1; have h2 := HG3.out; have h3 := hb4r.size; omega
  have hfar3 : PdFar S ((⟨4, true, 128, [0, 1, noneN, 0, 0], [], askAll⟩ : PD), reqPart (.slice A3 5 cap3)) := ⟨fun _ k hk hm => by have h1 := HU3.out k hk; have h2 := (hI3.lt k hm).1; have h3 := HBL6.out.size; omega, fun hn => absurd (show 0 < 0 from hn) (by decide)⟩
  have hGS : G0 ∉ S := fun hm => by have h1 := hS3 G0 hm; have h2 := (HKC.out _ (Below.refl _ _)).lt; have h3 := hp5.size; simp at h1; omega
  obtain ⟨hw, ht⟩ := ask_send X allB askAll askAll_eq (by decide) hcl htx (by rw [hXc]; exact hcr) M hXm
  obtain ⟨hgood, hcat, hlenZ, hTz⟩ := sent_good (X := X) (v := allB) (M := M) (by rw [hXc]; exact hcr) hM0
  have hcnt := cnt_intF (sentT X allB) M (by omega)
  have hall := all_any hI6 VV.out askAll (.slice A3 5 cap3) HP3.out hfar3 M (by omega) hw ht hcl hXs hXm2 hgood
  rw [hcat, hlenZ] at hall
  have HALL := Lib.hid (show Calls Tryz.prog 29 #[.pointer (some ⟨f, 0, none⟩), .agg #[.int .i64 4, .bool true, .int .i64 128, .slice A3 5 cap3, .slice none 0 0, .string ⟨#[83, 101, 110, 100, 84, 97, 114, 103, 101, 116, 115, 61, 65, 108, 108, 0]⟩], .int .i64 M] W6 fun e w' => e = .returned (.tuple #[.string (sentT X allB), .int .i64 (cntN (sentT X allB) M : Nat), .bool true]) ∧ AllAt w W6 S f (sentZ X allB M) w' from hall)
  have hpar := sent_parse (X := X) (v := allB) (by rw [hXc]; exact hcr)
  have hsl : sendL X allB = listG po [] true tg := by rw [send_all hXd, hXc]
  rw [hsl] at hpar
  obtain ⟨T, hT⟩ : ∃ T, sentT X allB = T := ⟨_, rfl⟩
  rw [hT] at hpar hTz hcnt
  rw [hT] at HALL
  have HPAR := Lib.hid hpar
  have hlr := listG_right hcr [] true
  have HLT := Lib.hid (cright_lens hcr)
  have HC6 := Lib.hid (HKC.out W6 (below_step hs5 hb4w))
  have d0 : W6.cell? ⟨g3, 0, none⟩ = some (.int .i64 4) := HB3.out.cell 0
  have d1 : W6.cell? ⟨g3, 1, none⟩ = some (.bool true) := HB3.out.cell 1
  have d2 : W6.cell? ⟨g3, 2, none⟩ = some (.int .i64 128) := HB3.out.cell 2
  have d3 : W6.cell? ⟨g3, 3, none⟩ = some (.slice A3 5 cap3) := HB3.out.cell 3
  have d4 : W6.cell? ⟨g3, 4, none⟩ = some (.slice none 0 0) := HB3.out.cell 4
  have d5 : W6.cell? ⟨g3, 5, none⟩ = some (.string ⟨#[83, 101, 110, 100, 84, 97, 114, 103, 101, 116, 115, 61, 65, 108, 108, 0]⟩) := HB3.out.cell 5
  clear hall hpar hsl hw ht hgood hcat hlenZ hI3 hI6 hfar3 hS3 hT
  go_wp2_with fail
  refine HALL.out.mono ?_
  rintro e w7 ⟨rfl, S7, hI7, hN7, hS7⟩
  have hb7 := hI7.b
  have V7 := VV.out.on hb7
  clear d0 d1 d2 d3 d4 d5
  go_wp2_with fail
  refine (parse_any T w7 V7.L V7.S (by omega)).mono ?_
  rintro e w8 ⟨r, er, rfl, hr, hb8⟩
  rw [HPAR.out] at hr
  obtain ⟨rfl, hrow⟩ := hr
  have hC8 := ((hN7.block G0 HC6.out.lt hGS).trans HC6.out)
  have hC8 : Blk w8 G0 29 #[tv, pv, uv, .string sn, .string ss, .int .i64 lim, ov] := (show Blk w7 G0 29 #[tv, pv, uv, .string sn, .string ss, .int .i64 lim, ov] from hC8).below hb8 (show Blk w7 G0 29 #[tv, pv, uv, .string sn, .string ss, .int .i64 lim, ov] from hC8).lt
  have hb8w := below_step hb7 hb8
  have V8 := VV.out.on hb8w
  have c0 : w8.cell? ⟨G0, 0, none⟩ = some (tv) := hC8.cell 0
  have c1 : w8.cell? ⟨G0, 1, none⟩ = some (pv) := hC8.cell 1
  have c2 : w8.cell? ⟨G0, 2, none⟩ = some (uv) := hC8.cell 2
  have c3 : w8.cell? ⟨G0, 3, none⟩ = some (.string sn) := hC8.cell 3
  have c4 : w8.cell? ⟨G0, 4, none⟩ = some (.string ss) := hC8.cell 4
  have c5 : w8.cell? ⟨G0, 5, none⟩ = some (.int .i64 lim) := hC8.cell 5
  have c6 : w8.cell? ⟨G0, 6, none⟩ = some (ov) := hC8.cell 6
  have hti := tlist_any ⟨tg, po, us, sn, ss, lim, own⟩ tv pv uv ov ⟨#[]⟩ true w8 (HCC.out.on hb8w) hsm V8.T (by
    have h1 := HLT.out.1
    have h2 := HLT.out.2
    simp only at h1 h2 ⊢
    have h3 : tg.length * (po.length + 1) ≤ 8 * 5 := Nat.mul_le_mul h1 (by omega)
    omega)
  have HTI := Lib.hid hti
  have HROW := Lib.hid hrow
  clear hti hrow hC8
  unfold cfgV at HTI
  go_wp2_with fail
  refine HTI.out.mono ?_
  rintro e w9 ⟨hli, hb9⟩
  obtain ⟨v9, rfl, hrow9⟩ := hli
  have HE := Lib.hid (pequal_same (listG po [] true tg) r v9 w9 ((SRd.of_m HROW.out).on hb9) (SRd.of_m hrow9))
  clear c0 c1 c2 c3 c4 c5 c6 hrow9
  go_wp2_with fail
  refine HE.out.mono ?_
  rintro e w10 ⟨rfl, n10, rfl⟩
  go_wp2_with fail
  go_ret
  exact ⟨by simp, below_step hb8w (below_dK hb9 _)⟩
end Go.Proofs.YtamlepacljjpiaaGreatDoor
