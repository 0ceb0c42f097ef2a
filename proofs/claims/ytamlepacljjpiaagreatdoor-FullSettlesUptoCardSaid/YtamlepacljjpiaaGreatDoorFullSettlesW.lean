/- The walk of the law FullSettles, where what is read is little. -/
import Derived.Test.YtamlepacljjpiaaGreatDoorFullSetC
namespace Go.Proofs.YtamlepacljjpiaaGreatDoor
open Go.ChangeShapes Go.WideShapes Go.ChangeAt Go.RowKit Go.Shelf
set_option linter.unusedVariables false
set_option linter.unusedSimpArgs false
theorem code_some (c : Nat) : codeV (some c) = .iface 56 (.int .i64 c) := rfl
/- a session beside which something else changes -/
theorem FullI.apart {w0 w w' : World} {S S2 : List Nat} {f : Nat} {X : FP} (h : FullI w0 w S f X) (hf : NF S2 w w') (hb : Below w0.heap.size w0 w') (hd : ∀ k ∈ S, k ∉ S2) (hp : X.pcs = []) : FullI w0 w' S f X := by
  obtain ⟨gn, gt, Sn, tv, pv, uv, ov, pc, hX, rfl⟩ := h
  exact (hX.other hf hb hd (fun hn => by rw [hp] at hn; exact absurd hn (Nat.lt_irrefl 0))).i
theorem FullI.negoS {w0 w : World} {S : List Nat} {f : Nat} {X : FP} (h : FullI w0 w S f X) : ∃ gn Sn, NegoH w Sn gn X.own X.rc ∧ w.cell? ⟨f, 0, none⟩ = some (.pointer (some ⟨gn, 0, none⟩)) ∧ X.rc.length ≤ 100000 := by
  obtain ⟨gn, gt, Sn, tv, pv, uv, ov, pc, hX, rfl⟩ := h
  exact ⟨gn, Sn, hX.nh, hX.fb.cell 0, by have := recok_len hX.ok.rc; have := keyT_few; omega⟩
set_option maxRecDepth 20000 in
set_option maxHeartbeats 16000000 in
theorem settlesFull (off : PairL) (v : Value) (disc : Bool) (w : World) (hv : SRd w v 2 off.length (pairCells off)) (hd : ∀ q ∈ off, psmall q) (hbulk : off.length + szN off ≤ 1048576) (V : Env w) : Calls Tryz.prog 10 #[v, .bool disc] w fun e w' => e = .returned (.bool true) ∧ Below w.heap.size w w' := by
  obtain ⟨N, hN⟩ : ∃ N, off.length = N := ⟨_, rfl⟩
  obtain ⟨A, cap, rfl⟩ : ∃ A cap, v = .slice A N cap := by obtain ⟨_, A, cap, hv, _⟩ := hv; exact ⟨A, cap, by rw [hv, hN]⟩
  have HV := Lib.hid hv
  have HDD := Lib.hid hd
  have HN := Lib.hid hN
  have HBU := Lib.hid hbulk
  have VV := Lib.hid V
  have eg : ∀ args w, (callFunc 43 args).run Tryz.prog w = .ok (.enter 43 args) w := enters_of Tryz.func43 (by kernel_rfl) rfl
  have EG := Lib.hid eg
  clear hv hd hN hbulk eg
  go_enter Tryz.func10, Tryz.ntmps10
  go_wp2_with fail
  refine (opened_any _ V).mono ?_
  rintro e w0 ⟨rfl, hb0⟩
  have V0 := VV.out.on hb0
  go_wp2_with fail
  refine (settled_fact _ V0).mono ?_
  rintro e w1 ⟨rfl, hb1⟩
  have hw1 := below_step hb0 hb1
  have V1 := VV.out.on hw1
  go_wp2_with fail
  refine (paired_fact _ V1.L V1.S).mono ?_
  rintro e w2 ⟨rfl, hb2⟩
  have hw2 := below_step hw1 hb2
  go_wp2_with fail
  refine (thick_exact off _ w2 (HV.out.on hw2) (by have := HBU.out; omega)).mono ?_
  rintro e w3 ⟨rfl, hb3⟩
  have hw3 := below_step hw2 hb3
  by_cases hthick : 3000 < off.length + szN off
  · rw [decide_eq_true hthick]
    go_wp2_with fail
    go_ret
    exact ⟨rfl, hw3⟩
  rw [decide_eq_false hthick]
  have hV3 := HV.out.on hw3
  go_wp2_with fail
  refine (clone_off off _ w3 hV3 (by omega)).mono ?_
  rintro e w4 ⟨v4, rfl, ho4, hb4⟩
  have hw4 := below_step hw3 hb4
  have hdel := delf_any 43 #[] EG.out dropB off v4 w3.heap.size w4 ho4 (by omega) (fun W hW q hq => set_clos q.1 q.2 W)
  have HDEL := Lib.hid hdel
  have ho4l := ho4.lt
  clear hdel ho4 hV3
  go_wp2_with fail
  refine HDEL.out.mono ?_
  rintro e w5 ⟨v5, rfl, ho5, hg5, _⟩
  have hb35 : Below w3.heap.size w3 w5 := hb4.grown hg5 hb4.size fun k hk => (ho4l k hk).1
  have hw5 := below_step hw3 hb35
  have V5 := VV.out.on hw5
  obtain ⟨L, hL⟩ : ∃ L, keepP dropB off = L := ⟨_, rfl⟩
  have hno : NoST L := by rw [← hL]; exact keep_no off
  have hLl : L.length ≤ off.length := by rw [← hL]; exact List.length_filter_le _ _
  have hLs : szN L ≤ szN off := by rw [← hL]; exact szN_filter _ off
  have hLd : ∀ q ∈ L, psmall q := by rw [← hL]; exact fun q hq => HDD.out q (List.mem_filter.1 hq).1
  rw [hL] at ho5
  have hrd5 := ho5.rd
  have HRD5 := Lib.hid hrd5
  have HLD := Lib.hid hLd
  clear hL ho5 hg5 HDEL hrd5 hLd ho4l
  obtain ⟨PR, hPR⟩ : ∃ PR, pRightR L = PR := ⟨_, rfl⟩
  have hprint : Calls Tryz.prog 44 #[v5] w5 fun e w' => ∃ er, e = .returned (.tuple #[.string (if PR = none then ba (pairsB L) else ⟨#[]⟩), er]) ∧ ((PR = none ∧ er = .nilIface) ∨ (PR ≠ none ∧ ∃ x y, er = .iface x y)) ∧ Below w5.heap.size w5 w' := by
    rcases PR with _ | E
    · refine (print_ok L v5 w5 HRD5.out HLD.out hPR).mono ?_
      rintro e w' ⟨rfl, hb⟩
      exact ⟨_, by rw [if_pos rfl]; rfl, .inl ⟨rfl, rfl⟩, hb⟩
    · refine (print_bad L v5 w5 HRD5.out HLD.out E hPR).mono ?_
      rintro e w' ⟨er, rfl, hp, hb⟩
      obtain ⟨x, y, rfl⟩ : ∃ x y, er = .iface x y := by
        obtain ⟨k, o⟩ := E
        rcases o with _ | o
        · refine errv_iface hp ?_
          rintro rfl
          have := hPR
          unfold pRightR at this
          split at this
          · cases this
          · cases hg : pRightGo L 0 with
            | none => rw [hg] at this; cases this
            | some x => rw [hg] at this; simp at this
        · exact at_iface hp ⟨_, rfl⟩
      exact ⟨_, by rw [if_neg (by simp)], .inr ⟨by simp, x, y, rfl⟩, hb⟩
  obtain ⟨SS, hSS⟩ : ∃ s, (if PR = none then ba (pairsB L) else ⟨#[]⟩) = s := ⟨_, rfl⟩
  rw [hSS] at hprint
  have hSz : SS.size ≤ 8192 := by
    rw [← hSS]
    split
    · have e : (ba (pairsB L)).size = (pairsB L).length := size_mkl _
      rw [e, pairs_len]
      omega
    · decide
  have HPR := Lib.hid hPR
  have HSS := Lib.hid hSS
  have HPRINT := Lib.hid hprint
  clear hprint hPR hSS
  go_wp2_with fail
  refine HPRINT.out.mono ?_
  rintro e w6 ⟨er, rfl, her, hb6⟩
  go_wp2_with fail
  refine (conf_any _).mono ?_
  rintro e w7 ⟨⟨tv, pv, uv, ov, rfl, hc7⟩, hb7⟩
  have hb57 := below_step hb6 hb7
  have hw7 := below_step hw5 hb57
  have V7 := VV.out.on hw7
  go_wp2_with fail
  refine (sessC_any hc7 V7 (Below.refl _ _) [] _ (rd_nil _ _) (fun p hp => by cases hp) (by decide) disc 0 0 (by decide) (by decide)).mono ?_
  rintro e w8 ⟨⟨f, S1, rfl, hI8, hS1⟩, hb8⟩
  have hb58 := below_step hb57 hb8
  have hw8 := below_step hw5 hb58
  have V8 := VV.out.on hw8
  have hnn := nnew_any [] (.slice none 0 0) w8 (rd_nil _ _) (fun p hp => by cases hp) V8
  rw [show nNewR [] = none from rfl] at hnn
  have HNN := Lib.hid hnn
  clear hnn
  go_wp2_with fail
  refine HNN.out.mono ?_
  rintro e w9 ⟨he, hb9⟩
  obtain ⟨n, ov9, rfl, hgn, hBn, hr9, hne9⟩ := he
  obtain ⟨S2, hN9, hS2⟩ := NegoH.new hgn hBn hr9 hne9
  have hI9 := hI8.on hb9
  have hb59 := below_step hb58 hb9
  have hw9 := below_step hw5 hb59
  have V9 := VV.out.on hw9
  have HS1 := Lib.hid hI8.lt
  clear hBn hr9 hne9 hI8 hc7
  have hbl3 : Below w9.heap.size w9 ((w9.alloc (.cells #[.string ⟨#[73, 84, 84]⟩, .string ⟨#[84, 84, 84]⟩] 9)).alloc (.cells #[.int .u64 1, .int .u64 4294967295] 49)) := ((Below.refl _ _).alloc (Nat.le_refl _) _).alloc (by simp) _
  have hnv3 : SRd ((w9.alloc (.cells #[.string ⟨#[73, 84, 84]⟩, .string ⟨#[84, 84, 84]⟩] 9)).alloc (.cells #[.int .u64 1, .int .u64 4294967295] 49)) (.slice (some ⟨w9.heap.size, 0, none⟩) 2 2) 1 2 ([nITT, nTTT].map .string) := SRd.lit5 (n := 2) (Blk.alloc (Blk.new w9 _ _) _)
  have hvv3 : SRd ((w9.alloc (.cells #[.string ⟨#[73, 84, 84]⟩, .string ⟨#[84, 84, 84]⟩] 9)).alloc (.cells #[.int .u64 1, .int .u64 4294967295] 49)) (.slice (some ⟨w9.heap.size + 1, 0, none⟩) 2 2) 1 2 ([1, noneN].map u64V) := by
    rw [← szA w9 (.cells #[.string ⟨#[73, 84, 84]⟩, .string ⟨#[84, 84, 84]⟩] 9)]
    exact SRd.lit5 (n := 2) (Blk.new _ _ _)
  have hreq3 := req_any 4 128 true [nITT, nTTT] [1, noneN] _ _ SS [0, 1, noneN, 0, 0] _ (make4 (fl := 128) (b := 1) (c := noneN) (by simp) (by decide) (by decide)) (by decide) (by decide) hnv3 hvv3 (by decide) (by decide) (by omega) (V9.on hbl3)
  have HREQ3 := Lib.hid hreq3
  have HBL3 := Lib.hid hbl3
  clear hreq3 hnv3 hvv3 hbl3
  go_wp2_with fail
  refine HREQ3.out.mono ?_
  rintro e w10 ⟨⟨u3, he, hp3, hu3⟩, hb3⟩
  obtain ⟨A3, cap3, hu⟩ : ∃ A cap, u3 = .slice A 5 cap := pd_form hp3
  subst hu
  have he' : e = .returned (.tuple #[.agg #[.int .i64 4, .bool true, .int .i64 128, .slice A3 5 cap3, .slice none 0 0, .string SS], .bool true]) := he
  subst he'
  have hb3r := below_step HBL3.out hb3
  have hb3a : Below w10.heap.size w10 (w10.alloc (.cells #[.int .i64 4, .bool true, .int .i64 128, .slice A3 5 cap3, .slice none 0 0, .string SS] 41)) := (Below.refl _ _).alloc (Nat.le_refl _) _
  have hB3 := Blk.new w10 41 #[.int .i64 4, .bool true, .int .i64 128, .slice A3 5 cap3, .slice none 0 0, .string SS]
  obtain ⟨W11, hW11⟩ : ∃ W : World, w10.alloc (.cells #[.int .i64 4, .bool true, .int .i64 128, .slice A3 5 cap3, .slice none 0 0, .string SS] 41) = W := ⟨_, rfl⟩
  rw [hW11] at hb3a hB3
  have hb3w := below_step hb3r hb3a
  have hfar3 : PdFar S1 ((⟨4, true, 128, [0, 1, noneN, 0, 0], [], SS⟩ : PD), reqPart (.slice A3 5 cap3)) := ⟨fun _ k hk hm => by have h1 := hu3 k hk; have h2 := (hI9.lt k hm).1; have h3 := HBL3.out.size; omega, fun hn => absurd (show 0 < 0 from hn) (by decide)⟩
  have hp3 := hp3.on hb3a
  obtain ⟨g3, hg3⟩ : ∃ g, w10.heap.size = g := ⟨_, rfl⟩
  rw [hg3] at hB3
  have hI11 := hI9.on hb3w
  have hN11 := hN9.on hb3w
  have hb511 := below_step hb59 hb3w
  have hw11 := below_step hw5 hb511
  have hz58 := hb58.size
  have hz8 := hb9.size
  have hg3S1 : g3 ∉ S1 := fun hm => by have h1 := (hI9.lt g3 hm).1; have h2 := hb3r.size; omega
  have hg3S2 : g3 ∉ S2 := fun hm => by have h1 := hN9.lt g3 hm; have h2 := hb3r.size; omega
  have hdis : ∀ k ∈ S1, k ∉ S2 := fun k hk hm => by have h1 := (HS1.out k hk).1; have h2 := hS2 k hm; omega
  have hfar32 : PdFar S2 ((⟨4, true, 128, [0, 1, noneN, 0, 0], [], SS⟩ : PD), reqPart (.slice A3 5 cap3)) := ⟨fun _ k hk hm => by have h1 := hu3 k hk; have h2 := hN9.lt k hm; have h3 := HBL3.out.size; omega, fun hn => absurd (show 0 < 0 from hn) (by decide)⟩
  have HF32 := Lib.hid hfar32
  have HB3 := Lib.hid hB3
  have HP3 := Lib.hid hp3
  have HF3 := Lib.hid hfar3
  have HW11 := Lib.hid hW11
  have HG3 := Lib.hid hg3
  have HI11 := Lib.hid hI11
  have HN11 := Lib.hid hN11
  clear he hB3 hp3 hfar3 hfar32 hW11 hg3 hI11 hN11 hI9 hN9 hu3
  go_upto_region 10 with (fail)
  try refine wp_worldN HW11.out ?_
  try rw [HG3.out]
  rcases her with ⟨hpn, rfl⟩ | ⟨_, x, y, rfl⟩
  rotate_left
  · go_wp2_with fail
    go_ret
    exact ⟨rfl, hw11⟩
  subst hpn
  have hpr := (pRightR_iff L).1 HPR.out
  have hSL : SS = ba (pairsB L) := by rw [← HSS.out, if_pos rfl]
  have hans := ans_argG n S2 [] [] L false disc v5 w5 W11 V5 hb511 HN11.out (fun k hk => by have := hS2 k hk; omega) HRD5.out HLD.out rfl (by simp)
  have HANS := Lib.hid hans
  obtain ⟨X, hX⟩ : ∃ X, sessP confC [] disc 0 0 = X := ⟨_, rfl⟩
  have hcl : X.closed = false := by rw [← hX]; rfl
  have htx : X.txt = ⟨#[]⟩ := by rw [← hX]; rfl
  have hXo : X.own = [] := by rw [← hX]; rfl
  have hXr : X.rc = [] := by rw [← hX]; rfl
  have hXd : X.disc = disc := by rw [← hX]; rfl
  have hXp : X.pcs = [] := by rw [← hX]; rfl
  obtain ⟨hwr, htk⟩ := set_take X L disc SS hSL hpr.2 hpr.1 hSz hno hcl htx hXo hXr hXd
  rw [hX] at HI11
  clear hSL
  have HTK := Lib.hid htk
  clear hans htk
  go_wp2_with fail
  refine HANS.out.mono ?_
  rintro e w12 he
  obtain ⟨S2', u5, er5, rfl, hu5, ht5, hN12, hnf12, hS2', hu5S, _⟩ := ans_gen HN11.out he
  have hI12 := HI11.out.apart hnf12 (below_nf HI11.out.b hnf12 (fun k hk => by have h1 := hS2 k hk; have h2 := hb8.size; omega)) hdis hXp
  have hB12 : Blk w12 g3 41 #[.int .i64 4, .bool true, .int .i64 128, .slice A3 5 cap3, .slice none 0 0, .string SS] := (hnf12.block g3 HB3.out.lt hg3S2).trans HB3.out
  have hp12 := HP3.out.nf hnf12 HF32.out
  have hw12 : Below w.heap.size w w12 := below_step hw7 hI12.b
  have HI12 := Lib.hid hI12
  have HP12 := Lib.hid hp12
  have HB12 := Lib.hid hB12
  have HN12 := Lib.hid hN12
  have hXs : X.stat < 4294967296 := by rw [← hX]; show (0 : Nat) < 4294967296; decide
  have hXc : X.cmd < 4294967296 := by rw [← hX]; show (0 : Nat) < 4294967296; decide
  clear he hI12 hp12 hN12
  rcases HTK.out with ⟨E, Y, hE, ht⟩ | ⟨hE, ht⟩
  · have hpos := ansE_nz hE
    rw [hE] at ht5
    obtain ⟨c5, o5⟩ := E
    obtain ⟨t5, x5, rfl⟩ := ht5.iface hpos
    have hright : rightR 4 true 128 [0, 1, noneN, 0, 0] = none := right4 (fl := 128) (by simp) (by decide) (by decide) (by decide) (by decide)
    have hH48 : (headS (textP 128 noneN SS)).size = 48 := by
      obtain ⟨_, _, _, _, _, _, h⟩ := headS_ok (p := textP 128 noneN SS) hright (by show (128 : Int) ≤ 9223372036854775807; decide)
      exact h
    obtain ⟨H, hH⟩ : ∃ H, headS (textP 128 noneN SS) = H := ⟨_, rfl⟩
    rw [hH] at ht hH48
    have htake := ftake_any HI12.out V7 (textP 128 noneN SS, reqPart (.slice A3 5 cap3)) HP12.out HF3.out
    rw [hwr, ht, show codeV none = .nilIface from rfl] at htake
    have HT := Lib.hid (show Calls Tryz.prog 15 #[.pointer (some ⟨f, 0, none⟩), .agg #[.int .i64 4, .bool true, .int .i64 128, .slice A3 5 cap3, .slice none 0 0, .string SS]] w12 fun e w' => ∃ v, e = .returned (.tuple #[v, .nilIface]) ∧ TookX w7 w12 S1 f Y [⟨63, 128, [4, noneN, X.stat, X.cmd, aft X.cmd 31, 0], H⟩] v w' from htake)
    have d0 : w12.cell? ⟨g3, 0, none⟩ = some (.int .i64 4) := HB12.out.cell 0
    have d1 : w12.cell? ⟨g3, 1, none⟩ = some (.bool true) := HB12.out.cell 1
    have d2 : w12.cell? ⟨g3, 2, none⟩ = some (.int .i64 128) := HB12.out.cell 2
    have d3 : w12.cell? ⟨g3, 3, none⟩ = some (.slice A3 5 cap3) := HB12.out.cell 3
    have d4 : w12.cell? ⟨g3, 4, none⟩ = some (.slice none 0 0) := HB12.out.cell 4
    have d5 : w12.cell? ⟨g3, 5, none⟩ = some (.string SS) := HB12.out.cell 5
    clear htake hright hH ht hE hpos ht5 hu5
    go_wp2_with fail
    refine HT.out.mono ?_
    rintro e w13 ⟨v13, rfl, S13, hI13, hN13, hS13, b, hv, rfl, hB13, hbb, hbS, hA13⟩
    obtain ⟨A5, cap5, rfl⟩ := ap_form6 hA13 rfl
    have hmx := aft_small X.cmd 31
    have hpa := ap_ok hA13 (by
      intro y hy
      simp [noneN] at hy
      omega) (by show (63 : Nat) ≤ 63; decide) (by show (128 : Nat) ≤ 255; decide) (by show H.size ≤ _; omega)
    have V13 := VV.out.on (below_step hw7 hI13.b)
    have hwh := fwhat_any _ r63 nRea 4 row63 rfl w13 hpa V13.T V13.S
    have HW := Lib.hid (show Calls Tryz.prog 17 #[.agg #[.int .i64 63, .bool false, .int .i64 128, .slice A5 6 cap5, .slice none 0 0, .string H], .string ⟨#[82, 101, 97, 115, 111, 110]⟩] w13 fun e w' => e = .returned (.int .u64 4) ∧ Below w13.heap.size w13 w' from hwh)
    have q0 : w13.cell? ⟨b, 0, none⟩ = some (.int .i64 63) := hB13.cell 0
    have q1 : w13.cell? ⟨b, 1, none⟩ = some (.bool false) := hB13.cell 1
    have q2 : w13.cell? ⟨b, 2, none⟩ = some (.int .i64 128) := hB13.cell 2
    have q3 : w13.cell? ⟨b, 3, none⟩ = some (.slice A5 6 cap5) := hB13.cell 3
    have q4 : w13.cell? ⟨b, 4, none⟩ = some (.slice none 0 0) := hB13.cell 4
    have q5 : w13.cell? ⟨b, 5, none⟩ = some (.string H) := hB13.cell 5
    have hb13 := hI13.b
    clear hwh hpa hA13 hB13 hI13 hN13 d0 d1 d2 d3 d4 d5
    go_wp2_with fail
    refine HW.out.mono ?_
    rintro e w14 ⟨rfl, hb14⟩
    go_wp2_with fail
    go_ret
    exact ⟨by first | rfl | simp, below_step hw7 (below_step hb13 hb14)⟩
  · rw [hE] at ht5
    obtain rfl := ht5.nil
    obtain ⟨hsr, hTz⟩ := set_right (disc := disc) hpr.2 hpr.1
    have hcf := cnt_few (setT disc L) 8192 (by decide) (by omega)
    have hgood : PcGood (setZ X disc L).pcs 8192 := pieces_good _ _ (by decide) (by omega)
    have hcat : catB (setZ X disc L).pcs = setT disc L := cat_pieces _ _ (by decide)
    have hlenZ : (setZ X disc L).pcs.length = cntN (setT disc L) 8192 := piecesN_len _ _ _
    have hall := all_any HI12.out V7 SS (.slice A3 5 cap3) HP12.out HF3.out 8192 (by decide) hwr ht hcl hXs hXc hgood
    rw [hcat, hlenZ] at hall
    obtain ⟨T, hT⟩ : ∃ T, setT disc L = T := ⟨_, rfl⟩
    rw [hT] at hall hTz
    have HALL := Lib.hid (show Calls Tryz.prog 29 #[.pointer (some ⟨f, 0, none⟩), .agg #[.int .i64 4, .bool true, .int .i64 128, .slice A3 5 cap3, .slice none 0 0, .string SS], .int .i64 8192] w12 fun e w' => e = .returned (.tuple #[.string T, .int .i64 (cntN T 8192 : Nat), .bool true]) ∧ AllAt w7 w12 S1 f (setZ X disc L) w' from hall)
    have hX2 : ansX [] [] L false disc = saidL [] false disc L := by unfold ansX; rw [hE]
    have hR2 : ansRc [] [] L false disc = recL [] false disc [] L := by unfold ansRc; rw [hE]
    rw [hX2] at hu5
    have hN12 := HN12.out
    rw [hR2] at hN12
    have HN12b := Lib.hid hN12
    have HU5 := Lib.hid hu5
    have HSR := Lib.hid hsr
    have HTT := Lib.hid hT
    have HSD := Lib.hid (said_small (own := []) (login := false) (disc := disc) hpr.2)
    have d0 : w12.cell? ⟨g3, 0, none⟩ = some (.int .i64 4) := HB12.out.cell 0
    have d1 : w12.cell? ⟨g3, 1, none⟩ = some (.bool true) := HB12.out.cell 1
    have d2 : w12.cell? ⟨g3, 2, none⟩ = some (.int .i64 128) := HB12.out.cell 2
    have d3 : w12.cell? ⟨g3, 3, none⟩ = some (.slice A3 5 cap3) := HB12.out.cell 3
    have d4 : w12.cell? ⟨g3, 4, none⟩ = some (.slice none 0 0) := HB12.out.cell 4
    have d5 : w12.cell? ⟨g3, 5, none⟩ = some (.string SS) := HB12.out.cell 5
    clear hall hgood hcat hlenZ hsr hX2 hR2 hN12 hu5 ht hE ht5 hT hcf
    go_wp2_with fail
    refine HALL.out.mono ?_
    rintro e w13 ⟨rfl, S13, hI13, hN13, hS13⟩
    have hS12lt := HS1.out
    have hN13n := HN12b.out.other hN13 (fun k hk hm => by
      have h1 := (hS12lt k hm).1
      rcases hS2' k hk with h | h
      · have := hS2 k h; omega
      · have h3 := hb3w.size; omega)
    have hrd13 := srd_nf HU5.out.rd hN13 (fun _ k hk hm => by
      have h1 := (hS12lt k hm).1
      have h2 := (HU5.out.lt k hk).1
      have h3 := hb3w.size
      omega)
    have HPO := Lib.hid (show Calls Tryz.prog 44 #[u5] w13 fun e w' => e = .returned (.tuple #[.string T, .nilIface]) ∧ Below w13.heap.size w13 w' from by
      have h := print_ok _ u5 w13 hrd13 HSD.out HSR.out
      have e : (⟨(pairsB (saidL [] false disc L)).toArray⟩ : ByteArray) = T := HTT.out
      rw [e] at h
      exact h)
    obtain ⟨gn, Sn, hnf, hcf, hrl⟩ := FullI.negoS hI13
    have hb13 := hI13.b
    have HNF := Lib.hid hnf
    have HNN2 := Lib.hid hN13n
    have HRL := Lib.hid hrl
    have hfl := (hI13.lt f (by obtain ⟨_, _, _, _, _, _, _, _, _, h⟩ := hI13; rw [h]; simp [fS])).1
    clear d0 d1 d2 d3 d4 d5 hN13n hnf hrl hrd13 hI13 hN13
    go_wp2_with fail
    refine HPO.out.mono ?_
    rintro e w14 ⟨rfl, hb14⟩
    have c0 : w14.cell? ⟨f, 0, none⟩ = some (.pointer (some ⟨gn, 0, none⟩)) := (hb14.cell (p := ⟨f, 0, none⟩) hfl).trans hcf
    go_wp2_with fail
    refine (nrec_any gn Sn _ _ w14 (HNF.out.on hb14) HRL.out).mono ?_
    rintro e w15 ⟨r1, rfl, hr1, hb15⟩
    have hb1315 := below_step hb14 hb15
    go_wp2_with fail
    refine (nrec_any n S2' _ _ w15 (HNN2.out.on hb1315) (by exact HRL.out)).mono ?_
    rintro e w16 ⟨r2, rfl, hr2, hb16⟩
    have HE := Lib.hid (pequal_same _ r1 r2 w16 ((SRd.of_m hr1).on hb16) (SRd.of_m hr2))
    go_wp2_with fail
    refine HE.out.mono ?_
    rintro e w17 ⟨rfl, n17, rfl⟩
    go_wp2_with fail
    go_ret
    exact ⟨by first | rfl | simp, below_step hw7 (below_step hb13 (below_dK (below_step hb1315 hb16) _))⟩
end Go.Proofs.YtamlepacljjpiaaGreatDoor
