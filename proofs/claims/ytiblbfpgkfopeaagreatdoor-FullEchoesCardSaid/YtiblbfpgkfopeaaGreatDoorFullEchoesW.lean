/- The walk of the law FullEchoes. -/
import Derived.Test.YtiblbfpgkfopeaaGreatDoorGfd
import Derived.Test.YtiblbfpgkfopeaaGreatDoorFullMr
namespace Go.Proofs.YtiblbfpgkfopeaaGreatDoor
open Go.ChangeShapes Go.WideShapes Go.ChangeAt Go.RowKit Go.Shelf
set_option linter.unusedVariables false
set_option linter.unusedSimpArgs false
theorem echo_step (DG : ByteArray) (M L I : Nat) (data h : ByteArray) (hm : mostN (sessP confC [(mrB, DG)] false 0 0).rc = M) (hI : I ≠ noneN) : stepP (sessP confC [(mrB, DG)] false 0 0) (⟨0, true, 128, [L, I, noneN, 0, 0], [], data⟩ : PD) h = ([(⟨32, 128, [L, I, noneN, 0, 0, 31], data.extract 0 (min data.size M)⟩ : AP)], (sessP confC [(mrB, DG)] false 0 0).up) := by
  have hn : nopA (sessP confC [(mrB, DG)] false 0 0) (⟨0, true, 128, [L, I, noneN, 0, 0], [], data⟩ : PD) = (⟨32, 128, [L, I, noneN, 0, 0, 31], data.extract 0 (min data.size M)⟩ : AP) := by
    unfold nopA
    rw [hm]
    rfl
  have hk : ¬ known (⟨0, true, 128, [L, I, noneN, 0, 0], [], data⟩ : PD).op = false := by show ¬ known 0 = false; decide
  unfold stepP
  rw [if_neg hk, if_pos rfl]
  unfold doP
  rw [if_pos (show (0 : Int) = 0 from rfl)]
  refine (if_neg (show ¬ I = noneN from hI)).trans ?_
  rw [hn]
set_option maxRecDepth 20000 in
set_option maxHeartbeats 16000000 in
theorem echoesFull (data : ByteArray) (itt lun most : Int) (w : World) (hz : data.size ≤ 140737488351232) (hi : 0 ≤ itt ∧ itt ≤ 18446744073709551615) (hl : 0 ≤ lun ∧ lun ≤ 18446744073709551615) (hmo : -9223372036854775808 ≤ most ∧ most ≤ 9223372036854775807) (V : Env w) : Calls Tryz.prog 3 #[.string data, .int .u64 itt, .int .u64 lun, .int .i64 most] w fun e w' => e = .returned (.bool true) ∧ Below w.heap.size w w' := by
  obtain ⟨G, rfl⟩ := Int.eq_ofNat_of_zero_le hi.1
  obtain ⟨L, rfl⟩ := Int.eq_ofNat_of_zero_le hl.1
  have hL : L < 18446744073709551616 := by omega
  obtain ⟨I, hIG⟩ : ∃ T, G % 4294967295 = T := ⟨_, rfl⟩
  have hI : I < 4294967295 := by omega
  have hTz : (G : Int).tmod 4294967295 = I := by rw [Int.tmod_eq_emod_of_nonneg (by omega), ← hIG]; omega
  have hTz2 : (G : Int) % 4294967295 = I := by rw [← hIG]; omega
  obtain ⟨k, hk, hk2⟩ := pickE most 2000 (by decide)
  obtain ⟨M, hM⟩ : ∃ M, 512 + k = M := ⟨_, rfl⟩
  have hMz : (512 : Int) + (k : Int) = (M : Int) := by omega
  have hM0 : 512 ≤ M := by omega
  have hM1 : M < 2512 := by omega
  obtain ⟨DG, hDG⟩ : ∃ D, ba (dgs M) = D := ⟨_, rfl⟩
  have hDz : DG.size ≤ 255 := by
    have := valB_len (dgs_val M)
    rw [← hDG]
    show (⟨(dgs M).toArray⟩ : ByteArray).size ≤ 255
    rw [size_mkl]
    exact this
  have hmost : mostN (sessP confC [(mrB, DG)] false 0 0).rc = M := by
    have := mr_most M hM0 hM1
    rw [hDG] at this
    exact this
  have hnum := fun (W : World) => numberK M (by omega) W
  have hDG2 : (⟨(dgs M).toArray⟩ : ByteArray) = DG := hDG
  rw [hDG2] at hnum
  have HNUM := Lib.hid hnum
  have HPICK := Lib.hid (fun (W : World) => pickK most 2000 k hk (by decide) (by decide) W)
  have HMOST := Lib.hid hmost
  have HMZ := Lib.hid hMz
  clear hnum hDG hDG2 hmost hk hM
  go_enter Tryz.func3, Tryz.ntmps3
  go_wp2_with fail
  refine (opened_any _ V).mono ?_
  rintro e w0 ⟨rfl, hb0⟩
  by_cases hd : 2500 < data.size
  · have hd2 : (2500 : Int) < data.size := by omega
    go_wp2_with fail
    go_ret
    exact ⟨rfl, hb0⟩
  have hd2 : ¬ (2500 : Int) < data.size := by omega
  go_wp2_with fail
  refine (HPICK.out _).mono ?_
  rintro e w0b ⟨rfl, rfl⟩
  have hMz := HMZ.out
  go_wp2_with fail
  refine (conf_any _).mono ?_
  rintro e w1 ⟨⟨tv, pv, uv, ov, rfl, hc1⟩, hb1⟩
  have hb1w := below_step hb0 hb1
  have V1 := V.on hb1w
  go_wp2_with fail
  try rw [HMZ.out]
  refine (HNUM.out _).mono ?_
  rintro e w1b ⟨rfl, hb1b⟩
  go_wp2_with fail
  refine (pair_mk _ _ _).mono ?_
  rintro e w1c ⟨rfl, hb1c⟩
  have hb11 := below_step hb1b hb1c
  have hbo : Below w1c.heap.size w1c (w1c.alloc (.cells #[.string ⟨#[77, 97, 120, 82, 101, 99, 118, 68, 97, 116, 97, 83, 101, 103, 109, 101, 110, 116, 76, 101, 110, 103, 116, 104]⟩, .string DG] 37)) := (Below.refl _ _).alloc (Nat.le_refl _) _
  have hsr : SRd (w1c.alloc (.cells #[.string ⟨#[77, 97, 120, 82, 101, 99, 118, 68, 97, 116, 97, 83, 101, 103, 109, 101, 110, 116, 76, 101, 110, 103, 116, 104]⟩, .string DG] 37)) (.slice (some ⟨w1c.heap.size, 0, none⟩) 1 1) 2 1 (pairCells [(mrB, DG)]) := SRd.litp (Blk.new _ _ _) rfl rfl (by decide)
  have hsess := sessC_any hc1 V1 (below_step hb11 hbo) [(mrB, DG)] _ hsr (fun p hp => by
    simp only [List.mem_cons, List.not_mem_nil, or_false] at hp
    subst hp
    show mrB.size + DG.size ≤ 900
    have : mrB.size = 24 := rfl
    omega) (by simp) false 0 0 (by decide) (by decide)
  have HSESS := Lib.hid hsess
  have HBO := Lib.hid (below_step hb11 hbo)
  clear hsess hsr hbo
  go_wp2_with fail
  refine HSESS.out.mono ?_
  rintro e w2 ⟨⟨f, S, rfl, hI2, hS2⟩, hb2⟩
  have hb12 := below_step HBO.out hb2
  have V2 := V1.on hb12
  have hS1 : ∀ k ∈ S, w1.heap.size ≤ k := fun k hk => (hI2.lt k hk).2
  have hbl3 : Below w2.heap.size w2 ((w2.alloc (.cells #[.string ⟨#[76, 85, 78]⟩, .string ⟨#[73, 84, 84]⟩, .string ⟨#[84, 84, 84]⟩] 9)).alloc (.cells #[.int .u64 (L : Int), .int .u64 (I : Int), .int .u64 4294967295] 22)) := ((Below.refl _ _).alloc (Nat.le_refl _) _).alloc (by simp) _
  have hnv3 : SRd ((w2.alloc (.cells #[.string ⟨#[76, 85, 78]⟩, .string ⟨#[73, 84, 84]⟩, .string ⟨#[84, 84, 84]⟩] 9)).alloc (.cells #[.int .u64 (L : Int), .int .u64 (I : Int), .int .u64 4294967295] 22)) (.slice (some ⟨w2.heap.size, 0, none⟩) 3 3) 1 3 ([nLUN, nITT, nTTT].map .string) := SRd.lit5 (n := 3) (Blk.alloc (Blk.new w2 _ _) _)
  have hvv3 : SRd ((w2.alloc (.cells #[.string ⟨#[76, 85, 78]⟩, .string ⟨#[73, 84, 84]⟩, .string ⟨#[84, 84, 84]⟩] 9)).alloc (.cells #[.int .u64 (L : Int), .int .u64 (I : Int), .int .u64 4294967295] 22)) (.slice (some ⟨w2.heap.size + 1, 0, none⟩) 3 3) 1 3 ([L, I, noneN].map u64V) := by
    rw [← szA w2 (.cells #[.string ⟨#[76, 85, 78]⟩, .string ⟨#[73, 84, 84]⟩, .string ⟨#[84, 84, 84]⟩] 9)]
    exact SRd.lit5 (n := 3) (Blk.new _ _ _)
  have hreq3 := req_any 0 128 true [nLUN, nITT, nTTT] [L, I, noneN] _ _ data [L, I, noneN, 0, 0] _ (make0 (a := L) (b := I) (c := noneN) (by omega) (by decide)) (by decide) (by decide) hnv3 hvv3 (fun y hy => by simp [noneN] at hy; omega) (fun y hy => by simp [noneN] at hy; omega) hz (V2.on hbl3)
  have HREQ3 := Lib.hid hreq3
  have HBL3 := Lib.hid hbl3
  clear hreq3 hnv3 hvv3 hbl3
  go_wp2_with fail
  refine HREQ3.out.mono ?_
  rintro e w3 ⟨⟨u3, he, hp3, hu3⟩, hb3⟩
  obtain ⟨A3, cap3, hu⟩ : ∃ A cap, u3 = .slice A 5 cap := pd_form hp3
  subst hu
  have he' : e = .returned (.tuple #[.agg #[.int .i64 0, .bool true, .int .i64 128, .slice A3 5 cap3, .slice none 0 0, .string data], .bool true]) := he
  subst he'
  have hb3r := below_step HBL3.out hb3
  have hb3a : Below w3.heap.size w3 (w3.alloc (.cells #[.int .i64 0, .bool true, .int .i64 128, .slice A3 5 cap3, .slice none 0 0, .string data] 46)) := (Below.refl _ _).alloc (Nat.le_refl _) _
  have hB3 := Blk.new w3 46 #[.int .i64 0, .bool true, .int .i64 128, .slice A3 5 cap3, .slice none 0 0, .string data]
  obtain ⟨W4, hW4⟩ : ∃ W : World, w3.alloc (.cells #[.int .i64 0, .bool true, .int .i64 128, .slice A3 5 cap3, .slice none 0 0, .string data] 46) = W := ⟨_, rfl⟩
  rw [hW4] at hb3a hB3
  have hb3w := below_step hb3r hb3a
  have hfar3 : PdFar S ((⟨0, true, 128, [L, I, noneN, 0, 0], [], data⟩ : PD), reqPart (.slice A3 5 cap3)) := ⟨fun _ k hk hm => by have h1 := hu3 k hk; have h2 := (hI2.lt k hm).1; have h3 := HBL3.out.size; omega, fun hn => absurd (show 0 < 0 from hn) (by decide)⟩
  have hp3 := hp3.on hb3a
  have hwr : wrongP (sessP confC [(mrB, DG)] false 0 0) (⟨0, true, 128, [L, I, noneN, 0, 0], [], data⟩ : PD) = none := wrong_ok rfl (right0 (by omega) (by decide) (by decide) (by decide)) rfl (by show data.size ≤ 100000; omega)
  have htake := ftake_ok (hI2.on hb3w) V1 ((⟨0, true, 128, [L, I, noneN, 0, 0], [], data⟩ : PD), reqPart (.slice A3 5 cap3)) hp3 hfar3 hwr (fun h => absurd (show (0 : Int) = 4 from h) (by decide))
  rw [echo_step DG M L I data _ HMOST.out (by unfold noneN; omega)] at htake
  have HT := Lib.hid htake
  have d0 : W4.cell? ⟨w3.heap.size, 0, none⟩ = some (.int .i64 0) := hB3.cell 0
  have d1 : W4.cell? ⟨w3.heap.size, 1, none⟩ = some (.bool true) := hB3.cell 1
  have d2 : W4.cell? ⟨w3.heap.size, 2, none⟩ = some (.int .i64 128) := hB3.cell 2
  have d3 : W4.cell? ⟨w3.heap.size, 3, none⟩ = some (.slice A3 5 cap3) := hB3.cell 3
  have d4 : W4.cell? ⟨w3.heap.size, 4, none⟩ = some (.slice none 0 0) := hB3.cell 4
  have d5 : W4.cell? ⟨w3.heap.size, 5, none⟩ = some (.string data) := hB3.cell 5
  clear he htake hp3 hfar3 hB3 hu3 hwr
  go_wp2_with fail
  refine HT.out.mono ?_
  rintro e w5 ⟨v, rfl, S', hI5, hN5, hS5, b, hv, rfl, hB5, hbb, hbS, hA5⟩
  obtain ⟨A5, cap5, rfl⟩ := ap_form6 hA5 rfl
  have hb15 : Below w1.heap.size w1 w5 := below_nf (below_step hb12 hb3w) hN5 hS1
  clear d0 d1 d2 d3 d4 d5
  go_wp2_with fail
  refine (fnext_any hI5).mono ?_
  rintro e w6 ⟨he6, hb6⟩
  have he7 : e = .returned (.tuple #[.int .u32 1, .int .u32 0]) := he6
  subst he7
  have hB6 := hB5.below hb6 hB5.lt
  have hp6 := (ap_ok hA5 (fun y hy => by simp [noneN] at hy; omega) (by show (32 : Nat) ≤ 63; decide) (by show (128 : Nat) ≤ 255; decide) (by
    show (data.extract 0 (min data.size M)).size ≤ _
    have := size_ext data 0 (min data.size M)
    omega)).on hb6
  have hb16 := below_step hb15 hb6
  have V6 := V1.on hb16
  have hwi := fun (i : BW w6) => fwhat_any _ r32 nITT I row32 rfl i.v (hp6.on i.h) (V6.on i.h).T (V6.on i.h).S
  have hwl := fun (i : BW w6) => fwhat_any _ r32 nLUN L row32 rfl i.v (hp6.on i.h) (V6.on i.h).T (V6.on i.h).S
  have hwt := fun (i : BW w6) => fwhat_any _ r32 nTTT noneN row32 rfl i.v (hp6.on i.h) (V6.on i.h).T (V6.on i.h).S
  have HWI := Lib.hid (show ∀ (i : BW w6), Calls Tryz.prog 25 #[.agg #[.int .i64 32, .bool false, .int .i64 128, .slice A5 6 cap5, .slice none 0 0, .string (data.extract 0 (min data.size M))], .string ⟨#[73, 84, 84]⟩] i.v fun e w' => e = .returned (.int .u64 (I : Int)) ∧ Below i.v.heap.size i.v w' from hwi)
  have HWL := Lib.hid (show ∀ (i : BW w6), Calls Tryz.prog 25 #[.agg #[.int .i64 32, .bool false, .int .i64 128, .slice A5 6 cap5, .slice none 0 0, .string (data.extract 0 (min data.size M))], .string ⟨#[76, 85, 78]⟩] i.v fun e w' => e = .returned (.int .u64 (L : Int)) ∧ Below i.v.heap.size i.v w' from hwl)
  have HWT := Lib.hid (show ∀ (i : BW w6), Calls Tryz.prog 25 #[.agg #[.int .i64 32, .bool false, .int .i64 128, .slice A5 6 cap5, .slice none 0 0, .string (data.extract 0 (min data.size M))], .string ⟨#[84, 84, 84]⟩] i.v fun e w' => e = .returned (.int .u64 4294967295) ∧ Below i.v.heap.size i.v w' from hwt)
  have hmn : (min (data.size : Int) (M : Int)).toNat = min data.size M := by omega
  have q0 : ∀ i : BW w6, i.v.cell? ⟨b, 0, none⟩ = some (.int .i64 32) := fun i => (hB6.below i.h hB6.lt).cell 0
  have q1 : ∀ i : BW w6, i.v.cell? ⟨b, 1, none⟩ = some (.bool false) := fun i => (hB6.below i.h hB6.lt).cell 1
  have q2 : ∀ i : BW w6, i.v.cell? ⟨b, 2, none⟩ = some (.int .i64 128) := fun i => (hB6.below i.h hB6.lt).cell 2
  have q3 : ∀ i : BW w6, i.v.cell? ⟨b, 3, none⟩ = some (.slice A5 6 cap5) := fun i => (hB6.below i.h hB6.lt).cell 3
  have q4 : ∀ i : BW w6, i.v.cell? ⟨b, 4, none⟩ = some (.slice none 0 0) := fun i => (hB6.below i.h hB6.lt).cell 4
  have q5 : ∀ i : BW w6, i.v.cell? ⟨b, 5, none⟩ = some (.string (data.extract 0 (min data.size M))) := fun i => (hB6.below i.h hB6.lt).cell 5
  clear he6 hp6 hB5 hA5 hwi hwl hwt hB6
  go_upto_region 13 with (fail)
  refine wp_region_quietB (by kernel_rfl) (by kernel_rfl) ?_
  repeat (first | go_big_quiet_skip | (go_big_quiet_want; go_big_quiet_op; first | go_big_quiet_on | (apply Exists.intro; refine ⟨fun _ => ?_, ?_⟩; ((first | (go_at_call 25; with_reducible exact calls_bw (HWI.out _)) | (go_at_call 25; with_reducible exact calls_bw (HWL.out _)) | (go_at_call 25; with_reducible exact calls_bw (HWT.out _)))); go_big_quiet_on)))
  refine wpQuiet_nil ?_
  rintro _ ⟨iq, rfl⟩
  go_wp2_with fail
  go_ret
  exact ⟨by simp, below_step hb1w (below_step hb16 iq.h)⟩
end Go.Proofs.YtiblbfpgkfopeaaGreatDoor
