/- The walk of the law FullOrder. -/
import Derived.Test.YtiblbfpgkfopeaaGreatDoorGfd
namespace Go.Proofs.YtiblbfpgkfopeaaGreatDoor
open Go.ChangeShapes Go.WideShapes Go.ChangeAt Go.RowKit Go.Shelf
set_option linter.unusedVariables false
set_option linter.unusedSimpArgs false
theorem after_one (a : Nat) (w : World) : Calls Tryz.prog 27 #[.int .u32 a, .int .i64 1] w fun e w' => e = .returned (.int .u32 (aft a 1)) ∧ w = w' := by
  go_enter Tryz.func27, Tryz.ntmps27
  go_wp2_with fail
  go_ret
  refine ⟨?_, rfl⟩
  simp [aft]
def outX (C : Nat) : FP := { (({ sessP confC [] false 0 C with cmd := aft C 1 } : FP).up) with closed := true }
theorem order_same (C : Nat) (h : ByteArray) : stepP (sessP confC [] false 0 C) ⟨6, false, 128, [1, 0, C, 0], [], ⟨#[]⟩⟩ h = ([⟨38, 128, [0, 1, 0, aft C 1, aft (aft C 1) 31, 0, 0], ⟨#[]⟩⟩], outX C) := by
  have hk : ¬ known (⟨6, false, 128, [1, 0, C, 0], [], ⟨#[]⟩⟩ : PD).op = false := by show ¬ known 6 = false; decide
  unfold stepP
  rw [if_neg hk, if_neg (by simp), if_neg (fun h => h rfl), if_neg (fun h => absurd (show (6 : Int) = 0 from h.1) (by decide))]
  unfold doP
  rw [if_neg (show ¬ (6 : Int) = 0 by decide)]
  exact if_pos rfl
theorem order_other (C O : Nat) (h : ByteArray) (hne : O ≠ C) : stepP (sessP confC [] false 0 C) ⟨6, false, 128, [1, 0, O, 0], [], ⟨#[]⟩⟩ h = ([⟨63, 128, [4, noneN, 0, C, aft C 31, 0], h⟩], (sessP confC [] false 0 C).up) := by
  have hk : ¬ known (⟨6, false, 128, [1, 0, O, 0], [], ⟨#[]⟩⟩ : PD).op = false := by show ¬ known 6 = false; decide
  unfold stepP
  rw [if_neg hk, if_neg (by simp)]
  exact if_pos hne
set_option maxRecDepth 20000 in
set_option maxHeartbeats 8000000 in
theorem orderFull (cmd other : Int) (w : World) (hc : 0 ≤ cmd ∧ cmd ≤ 4294967295) (ho : 0 ≤ other ∧ other ≤ 4294967295) (V : Env w) : Calls Tryz.prog 5 #[.int .u32 cmd, .int .u32 other] w fun e w' => e = .returned (.bool true) ∧ Below w.heap.size w w' := by
  obtain ⟨C, rfl⟩ := Int.eq_ofNat_of_zero_le hc.1
  obtain ⟨O, rfl⟩ := Int.eq_ofNat_of_zero_le ho.1
  have hC : C < 4294967296 := by omega
  have hO : O < 4294967296 := by omega
  have e1 : IntKind.u64.wrap (O : Int) = O := by rw [IntKind.wrap_u64]; omega
  go_enter Tryz.func5, Tryz.ntmps5
  go_wp2_with fail
  refine (opened_any _ V).mono ?_
  rintro e w0 ⟨rfl, hb0⟩
  go_wp2_with fail
  refine (conf_any _).mono ?_
  rintro e w1 ⟨⟨tv, pv, uv, ov, rfl, hc1⟩, hb1⟩
  have hb1w := below_step hb0 hb1
  have V1 := V.on hb1w
  go_wp2_with fail
  refine (sessC_any hc1 V1 (Below.refl _ _) [] _ (rd_nil _ _) (fun p hp => by cases hp) (by decide) false 0 C (by decide) hC).mono ?_
  rintro e w2 ⟨⟨f, S, rfl, hI2, hS2⟩, hb2⟩
  have V2 := V1.on hb2
  have hbl3 : Below w2.heap.size w2 ((w2.alloc (.cells #[.string ⟨#[73, 84, 84]⟩, .string ⟨#[67, 109, 100, 83, 78]⟩] 9)).alloc (.cells #[.int .u64 1, .int .u64 (O : Int)] 22)) := ((Below.refl _ _).alloc (Nat.le_refl _) _).alloc (by simp) _
  have hnv3 : SRd ((w2.alloc (.cells #[.string ⟨#[73, 84, 84]⟩, .string ⟨#[67, 109, 100, 83, 78]⟩] 9)).alloc (.cells #[.int .u64 1, .int .u64 (O : Int)] 22)) (.slice (some ⟨w2.heap.size, 0, none⟩) 2 2) 1 2 ([nITT, nCmd].map .string) := SRd.lit5 (n := 2) (Blk.alloc (Blk.new w2 _ _) _)
  have hvv3 : SRd ((w2.alloc (.cells #[.string ⟨#[73, 84, 84]⟩, .string ⟨#[67, 109, 100, 83, 78]⟩] 9)).alloc (.cells #[.int .u64 1, .int .u64 (O : Int)] 22)) (.slice (some ⟨w2.heap.size + 1, 0, none⟩) 2 2) 1 2 ([1, O].map u64V) := by
    rw [← szA w2 (.cells #[.string ⟨#[73, 84, 84]⟩, .string ⟨#[67, 109, 100, 83, 78]⟩] 9)]
    exact SRd.lit5 (n := 2) (Blk.new _ _ _)
  have hreq3 := req_any 6 128 false [nITT, nCmd] [1, O] _ _ ⟨#[]⟩ [1, 0, O, 0] _ (make6c (b := 1) (s := O) (by decide) hO) (by decide) (by decide) hnv3 hvv3 (fun y hy => by simp at hy; omega) (fun y hy => by simp at hy; omega) (by decide) (V2.on hbl3)
  have HREQ3 := Lib.hid hreq3
  have HBL3 := Lib.hid hbl3
  clear hreq3 hnv3 hvv3 hbl3
  go_wp2_with fail
  refine HREQ3.out.mono ?_
  rintro e w3 ⟨⟨u3, he, hp3, hu3⟩, hb3⟩
  obtain ⟨A3, cap3, hu⟩ : ∃ A cap, u3 = .slice A 4 cap := pd_form hp3
  subst hu
  have he' : e = .returned (.tuple #[.agg #[.int .i64 6, .bool false, .int .i64 128, .slice A3 4 cap3, .slice none 0 0, .string ⟨#[]⟩], .bool true]) := he
  subst he'
  have hb3r := below_step HBL3.out hb3
  have hb3a : Below w3.heap.size w3 (w3.alloc (.cells #[.int .i64 6, .bool false, .int .i64 128, .slice A3 4 cap3, .slice none 0 0, .string ⟨#[]⟩] 46)) := (Below.refl _ _).alloc (Nat.le_refl _) _
  have hB3 := Blk.new w3 46 #[.int .i64 6, .bool false, .int .i64 128, .slice A3 4 cap3, .slice none 0 0, .string ⟨#[]⟩]
  obtain ⟨W4, hW4⟩ : ∃ W : World, w3.alloc (.cells #[.int .i64 6, .bool false, .int .i64 128, .slice A3 4 cap3, .slice none 0 0, .string ⟨#[]⟩] 46) = W := ⟨_, rfl⟩
  rw [hW4] at hb3a hB3
  have hb3w := below_step hb3r hb3a
  have hfar3 : PdFar S ((⟨6, false, 128, [1, 0, O, 0], [], ⟨#[]⟩⟩ : PD), reqPart (.slice A3 4 cap3)) := ⟨fun _ k hk hm => by have h1 := hu3 k hk; have h2 := (hI2.lt k hm).1; have h3 := HBL3.out.size; omega, fun hn => absurd (show 0 < 0 from hn) (by decide)⟩
  have hp3 := hp3.on hb3a
  have hright : rightR 6 false 128 [1, 0, O, 0] = none := right6 (by decide) (by decide) hO (by decide)
  have hwr : wrongP (sessP confC [] false 0 C) (⟨6, false, 128, [1, 0, O, 0], [], ⟨#[]⟩⟩ : PD) = none := wrong_ok rfl hright rfl (by show (⟨#[]⟩ : ByteArray).size ≤ 100000; decide)
  have hH48 : (headS (⟨6, false, 128, [1, 0, O, 0], [], ⟨#[]⟩⟩ : PD)).size = 48 := by
    obtain ⟨_, _, _, _, _, _, h⟩ := headS_ok (p := (⟨6, false, 128, [1, 0, O, 0], [], ⟨#[]⟩⟩ : PD)) hright (by show (128 : Int) ≤ 9223372036854775807; decide)
    exact h
  have htake := ftake_ok (hI2.on hb3w) V1 ((⟨6, false, 128, [1, 0, O, 0], [], ⟨#[]⟩⟩ : PD), reqPart (.slice A3 4 cap3)) hp3 hfar3 hwr (fun h => absurd (show (6 : Int) = 4 from h) (by decide))
  obtain ⟨H, hH⟩ : ∃ H, headS (⟨6, false, 128, [1, 0, O, 0], [], ⟨#[]⟩⟩ : PD) = H := ⟨_, rfl⟩
  rw [hH] at htake hH48
  have d0 : W4.cell? ⟨w3.heap.size, 0, none⟩ = some (.int .i64 6) := hB3.cell 0
  have d1 : W4.cell? ⟨w3.heap.size, 1, none⟩ = some (.bool false) := hB3.cell 1
  have d2 : W4.cell? ⟨w3.heap.size, 2, none⟩ = some (.int .i64 128) := hB3.cell 2
  have d3 : W4.cell? ⟨w3.heap.size, 3, none⟩ = some (.slice A3 4 cap3) := hB3.cell 3
  have d4 : W4.cell? ⟨w3.heap.size, 4, none⟩ = some (.slice none 0 0) := hB3.cell 4
  have d5 : W4.cell? ⟨w3.heap.size, 5, none⟩ = some (.string ⟨#[]⟩) := hB3.cell 5
  have HW4 := Lib.hid hW4
  clear he hp3 hfar3 hB3 hu3 hwr hright hH hW4
  go_upto_region 5 with (fail)
  try refine wp_worldN HW4.out ?_
  by_cases hoc : O = C
  · subst hoc
    rw [order_same] at htake
    have HT := Lib.hid htake
    clear htake
    go_wp2_with fail
    refine HT.out.mono ?_
    rintro e w5 ⟨v, rfl, S', hI5, hN5, hS5, b, hv, rfl, hB5, hbb, hbS, hA5⟩
    have hb15 : Below w1.heap.size w1 w5 := below_nf (below_step hb2 hb3w) hN5 hS2
    clear d0 d1 d2 d3 d4 d5
    go_wp2_with fail
    refine (fnext_any hI5).mono ?_
    rintro e w6 ⟨he6, hb6⟩
    have he7 : e = .returned (.tuple #[.int .u32 1, .int .u32 ((aft O 1 : Nat) : Int)]) := he6
    subst he7
    have c0 : w6.cell? ⟨b, 0, none⟩ = some (.int .i64 38) := (hB5.below hb6 hB5.lt).cell 0
    clear he6
    go_wp2_with fail
    refine (fclosed_any (hI5.on hb6)).mono ?_
    rintro e w7 ⟨he7, rfl⟩
    have he8 : e = .returned (.bool true) := he7
    subst he8
    clear he7
    go_wp2_with fail
    refine (after_one O _).mono ?_
    rintro e w8 ⟨rfl, rfl⟩
    go_wp2_with fail
    go_ret
    exact ⟨rfl, below_step hb1w (below_step hb15 hb6)⟩
  · have hocz : ¬ ((O : Int) = (C : Int)) := by omega
    rw [order_other C O H hoc] at htake
    have HT := Lib.hid htake
    clear htake
    go_wp2_with fail
    refine HT.out.mono ?_
    rintro e w5 ⟨v, rfl, S', hI5, hN5, hS5, b, hv, rfl, hB5, hbb, hbS, hA5⟩
    obtain ⟨A5, cap5, rfl⟩ := ap_form6 hA5 rfl
    have hb15 : Below w1.heap.size w1 w5 := below_nf (below_step hb2 hb3w) hN5 hS2
    clear d0 d1 d2 d3 d4 d5
    go_wp2_with fail
    refine (fnext_any hI5).mono ?_
    rintro e w6 ⟨he6, hb6⟩
    have he7 : e = .returned (.tuple #[.int .u32 1, .int .u32 (C : Int)]) := he6
    subst he7
    have hB6 := hB5.below hb6 hB5.lt
    have hp6 := (ap_ok hA5 (by
      have := aft_lt C 31
      intro y hy
      simp [noneN] at hy
      omega) (by show (63 : Nat) ≤ 63; decide) (by show (128 : Nat) ≤ 255; decide) (by show H.size ≤ _; omega)).on hb6
    have V6 := V1.on (below_step hb15 hb6)
    have HW := Lib.hid (fwhat_any _ r63 nRea 4 row63 rfl w6 hp6 V6.T V6.S)
    have c0 : w6.cell? ⟨b, 0, none⟩ = some (.int .i64 63) := hB6.cell 0
    have c1 : w6.cell? ⟨b, 1, none⟩ = some (.bool false) := hB6.cell 1
    have c2 : w6.cell? ⟨b, 2, none⟩ = some (.int .i64 128) := hB6.cell 2
    have c3 : w6.cell? ⟨b, 3, none⟩ = some (.slice A5 6 cap5) := hB6.cell 3
    have c4 : w6.cell? ⟨b, 4, none⟩ = some (.slice none 0 0) := hB6.cell 4
    have c5 : w6.cell? ⟨b, 5, none⟩ = some (.string H) := hB6.cell 5
    clear he6 hp6 hB5 hA5 hB6
    go_wp2_with fail
    refine HW.out.mono ?_
    rintro e w7 ⟨he7, hb7⟩
    have he8 : e = .returned (.int .u64 4) := he7
    subst he8
    clear he7 c0 c1 c2 c3 c4 c5
    go_wp2_with fail
    refine (fclosed_any ((hI5.on hb6).on hb7)).mono ?_
    rintro e w8 ⟨he8, rfl⟩
    have he9 : e = .returned (.bool false) := he8
    subst he9
    clear he8
    go_wp2_with fail
    go_ret
    exact ⟨rfl, below_step hb1w (below_step (below_step hb15 hb6) hb7)⟩
end Go.Proofs.YtiblbfpgkfopeaaGreatDoor
