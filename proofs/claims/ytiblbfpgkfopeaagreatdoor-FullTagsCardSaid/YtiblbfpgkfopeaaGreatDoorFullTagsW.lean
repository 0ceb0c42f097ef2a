/- The walk of the law FullTags. -/
import Derived.Test.YtiblbfpgkfopeaaGreatDoorGfd
import Derived.Test.YtiblbfpgkfopeaaGreatDoorFullAsk1
namespace Go.Proofs.YtiblbfpgkfopeaaGreatDoor
open Go.ChangeShapes Go.WideShapes Go.ChangeAt Go.RowKit Go.Shelf
set_option linter.unusedVariables false
set_option linter.unusedSimpArgs false
theorem and_192 (n : Nat) : n &&& 192 = 64 * (n / 64 % 4) := by
  have e : (192 : Nat) = 3 <<< 6 := rfl
  have e2 : n &&& 192 = ((n >>> 6) &&& 3) <<< 6 := by
    rw [e]
    apply Nat.eq_of_testBit_eq
    intro i
    rw [Nat.testBit_and, Nat.testBit_shiftLeft, Nat.testBit_shiftLeft, Nat.testBit_and, Nat.testBit_shiftRight]
    by_cases h : 6 ≤ i
    · have : 6 + (i - 6) = i := by omega
      simp [h, this]
    · simp [h]
  have e3 : (n >>> 6) &&& 3 = (n >>> 6) % 4 := Nat.and_two_pow_sub_one_eq_mod (n >>> 6) 2
  rw [e2, e3, Nat.shiftLeft_eq, Nat.shiftRight_eq_div_pow]
  omega
theorem bits_192 (a : Int) : ∃ F : Nat, bits .and .i64 a 192 = (F : Int) ∧ (F = 0 ∨ F = 64 ∨ F = 128 ∨ F = 192) := by
  have h1 : bits .and .i64 a 192 = IntKind.i64.wrap ((BitVec.ofInt 64 a &&& BitVec.ofInt 64 192).toNat : Int) := rfl
  have h2 : (BitVec.ofInt 64 a &&& BitVec.ofInt 64 192).toNat = 64 * ((BitVec.ofInt 64 a).toNat / 64 % 4) := by
    rw [BitVec.toNat_and]
    exact and_192 _
  refine ⟨64 * ((BitVec.ofInt 64 a).toNat / 64 % 4), ?_, by omega⟩
  rw [h1, h2, IntKind.wrap_i64]
  omega
theorem tags_step (T F : Nat) (data : ByteArray) (h : ByteArray) (hT : T ≠ noneN) : stepP (sessP confC [] true 0 0) (⟨4, true, (F : Nat), [0, 1, T, 0, 0], [], data⟩ : PD) h = ([⟨63, 128, [4, noneN, 0, 0, 31, 0], h⟩], (sessP confC [] true 0 0).up) := by
  have hk : ¬ known (⟨4, true, (F : Nat), [0, 1, T, 0, 0], [], data⟩ : PD).op = false := by show ¬ known 4 = false; decide
  unfold stepP
  rw [if_neg hk, if_pos rfl]
  unfold doP
  rw [if_neg (show ¬ (4 : Int) = 0 by decide), if_neg (show ¬ (4 : Int) = 6 by decide)]
  have ha : askP (sessP confC [] true 0 0) (⟨4, true, (F : Nat), [0, 1, T, 0, 0], [], data⟩ : PD) h = (⟨63, 128, [4, noneN, 0, 0, 31, 0], h⟩, (sessP confC [] true 0 0).up) := by
    unfold askP
    refine (if_neg (show ¬ fN [0, 1, T, 0, 0] 2 = noneN from hT)).trans ?_
    exact if_neg (fun h => h.2.1 rfl)
  rw [ha]
set_option maxRecDepth 20000 in
set_option maxHeartbeats 8000000 in
theorem tagsFull (tag : Int) (data : ByteArray) (flags : Int) (w : World) (ht : 0 ≤ tag ∧ tag ≤ 18446744073709551615) (hz : data.size ≤ 140737488351232) (hf : -9223372036854775808 ≤ flags ∧ flags ≤ 9223372036854775807) (V : Env w) : Calls Tryz.prog 9 #[.int .u64 tag, .string data, .int .i64 flags] w fun e w' => e = .returned (.bool true) ∧ Below w.heap.size w w' := by
  obtain ⟨G, rfl⟩ := Int.eq_ofNat_of_zero_le ht.1
  obtain ⟨T, hTG⟩ : ∃ T, G % 4294967295 = T := ⟨_, rfl⟩
  have hT : T < 4294967295 := by omega
  have hTz : (G : Int).tmod 4294967295 = T := by rw [Int.tmod_eq_emod_of_nonneg (by omega), ← hTG]; omega
  have hTz2 : (G : Int) % 4294967295 = T := by rw [← hTG]; omega
  obtain ⟨F, hFz, hF⟩ := bits_192 flags
  go_enter Tryz.func9, Tryz.ntmps9
  go_wp2_with fail
  refine (opened_any _ V).mono ?_
  rintro e w0 ⟨rfl, hb0⟩
  by_cases hd : 500 < data.size
  · have hd2 : (500 : Int) < data.size := by omega
    go_wp2_with fail
    go_ret
    exact ⟨rfl, hb0⟩
  have hd2 : ¬ (500 : Int) < data.size := by omega
  go_wp2_with fail
  refine (conf_any _).mono ?_
  rintro e w1 ⟨⟨tv, pv, uv, ov, rfl, hc1⟩, hb1⟩
  have hb1w := below_step hb0 hb1
  have V1 := V.on hb1w
  go_wp2_with fail
  refine (sessC_any hc1 V1 (Below.refl _ _) [] _ (rd_nil _ _) (fun p hp => by cases hp) (by decide) true 0 0 (by decide) (by decide)).mono ?_
  rintro e w2 ⟨⟨f, S, rfl, hI2, hS2⟩, hb2⟩
  have V2 := V1.on hb2
  have hbl3 : Below w2.heap.size w2 ((w2.alloc (.cells #[.string ⟨#[73, 84, 84]⟩, .string ⟨#[84, 84, 84]⟩] 9)).alloc (.cells #[.int .u64 1, .int .u64 (T : Int)] 22)) := ((Below.refl _ _).alloc (Nat.le_refl _) _).alloc (by simp) _
  have hnv3 : SRd ((w2.alloc (.cells #[.string ⟨#[73, 84, 84]⟩, .string ⟨#[84, 84, 84]⟩] 9)).alloc (.cells #[.int .u64 1, .int .u64 (T : Int)] 22)) (.slice (some ⟨w2.heap.size, 0, none⟩) 2 2) 1 2 ([nITT, nTTT].map .string) := SRd.lit5 (n := 2) (Blk.alloc (Blk.new w2 _ _) _)
  have hvv3 : SRd ((w2.alloc (.cells #[.string ⟨#[73, 84, 84]⟩, .string ⟨#[84, 84, 84]⟩] 9)).alloc (.cells #[.int .u64 1, .int .u64 (T : Int)] 22)) (.slice (some ⟨w2.heap.size + 1, 0, none⟩) 2 2) 1 2 ([1, T].map u64V) := by
    rw [← szA w2 (.cells #[.string ⟨#[73, 84, 84]⟩, .string ⟨#[84, 84, 84]⟩] 9)]
    exact SRd.lit5 (n := 2) (Blk.new _ _ _)
  have hreq3 := req_any 4 (F : Nat) true [nITT, nTTT] [1, T] _ _ data [0, 1, T, 0, 0] _ (make4 (fl := F) (b := 1) (c := T) hF (by decide) (by omega)) (by decide) (by omega) hnv3 hvv3 (fun y hy => by simp at hy; omega) (fun y hy => by simp at hy; omega) hz (V2.on hbl3)
  have HREQ3 := Lib.hid hreq3
  have HBL3 := Lib.hid hbl3
  clear hreq3 hnv3 hvv3 hbl3
  go_wp2_with fail
  refine HREQ3.out.mono ?_
  rintro e w3 ⟨⟨u3, he, hp3, hu3⟩, hb3⟩
  obtain ⟨A3, cap3, hu⟩ : ∃ A cap, u3 = .slice A 5 cap := pd_form hp3
  subst hu
  have he' : e = .returned (.tuple #[.agg #[.int .i64 4, .bool true, .int .i64 (F : Nat), .slice A3 5 cap3, .slice none 0 0, .string data], .bool true]) := he
  subst he'
  have hb3r := below_step HBL3.out hb3
  have hb3a : Below w3.heap.size w3 (w3.alloc (.cells #[.int .i64 4, .bool true, .int .i64 (F : Nat), .slice A3 5 cap3, .slice none 0 0, .string data] 46)) := (Below.refl _ _).alloc (Nat.le_refl _) _
  have hB3 := Blk.new w3 46 #[.int .i64 4, .bool true, .int .i64 (F : Nat), .slice A3 5 cap3, .slice none 0 0, .string data]
  obtain ⟨W4, hW4⟩ : ∃ W : World, w3.alloc (.cells #[.int .i64 4, .bool true, .int .i64 (F : Nat), .slice A3 5 cap3, .slice none 0 0, .string data] 46) = W := ⟨_, rfl⟩
  rw [hW4] at hb3a hB3
  have hb3w := below_step hb3r hb3a
  have hfar3 : PdFar S ((⟨4, true, (F : Nat), [0, 1, T, 0, 0], [], data⟩ : PD), reqPart (.slice A3 5 cap3)) := ⟨fun _ k hk hm => by have h1 := hu3 k hk; have h2 := (hI2.lt k hm).1; have h3 := HBL3.out.size; omega, fun hn => absurd (show 0 < 0 from hn) (by decide)⟩
  have hp3 := hp3.on hb3a
  have hright : rightR 4 true (F : Nat) [0, 1, T, 0, 0] = none := right4 hF (by decide) (by omega) (by decide) (by decide)
  have hwr : wrongP (sessP confC [] true 0 0) (⟨4, true, (F : Nat), [0, 1, T, 0, 0], [], data⟩ : PD) = none := wrong_ok rfl hright rfl (by show data.size ≤ 100000; omega)
  have hH48 : (headS (⟨4, true, (F : Nat), [0, 1, T, 0, 0], [], data⟩ : PD)).size = 48 := by
    obtain ⟨_, _, _, _, _, _, h⟩ := headS_ok (p := (⟨4, true, (F : Nat), [0, 1, T, 0, 0], [], data⟩ : PD)) hright (by show ((F : Nat) : Int) ≤ 9223372036854775807; omega)
    exact h
  have hTn : T ≠ noneN := by unfold noneN; omega
  have hask : AskC w1 S f (sessP confC [] true 0 0) ((⟨4, true, (F : Nat), [0, 1, T, 0, 0], [], data⟩ : PD), reqPart (.slice A3 5 cap3)) := by
    rintro W X' hX' ⟨gn, gt, Sn, tv', pv', uv', ov', pc', hX, rfl⟩ hpW
    have hpcs : X'.pcs = [] := by rcases hX' with rfl | rfl <;> rfl
    have hbad := fask_bad hX V1 ((⟨4, true, (F : Nat), [0, 1, T, 0, 0], [], data⟩ : PD), reqPart (.slice A3 5 cap3)) hpW rfl hright (by show data.size ≤ 100000; omega) hTn hpcs
    have ha : ∀ h, askP X' (⟨4, true, (F : Nat), [0, 1, T, 0, 0], [], data⟩ : PD) h = (rejA X' 4 h, X'.up) := fun h => by
      unfold askP
      refine (if_neg (show ¬ fN [0, 1, T, 0, 0] 2 = noneN from hTn)).trans ?_
      exact if_neg (fun h => h.2.1 hpcs)
    rw [ha]
    exact hbad
  have htake := ftake_ok (hI2.on hb3w) V1 ((⟨4, true, (F : Nat), [0, 1, T, 0, 0], [], data⟩ : PD), reqPart (.slice A3 5 cap3)) hp3 hfar3 hwr (fun _ => hask)
  obtain ⟨H, hH⟩ : ∃ H, headS (⟨4, true, (F : Nat), [0, 1, T, 0, 0], [], data⟩ : PD) = H := ⟨_, rfl⟩
  rw [hH] at htake hH48
  rw [tags_step T F data H hTn] at htake
  have HT := Lib.hid htake
  have d0 : W4.cell? ⟨w3.heap.size, 0, none⟩ = some (.int .i64 4) := hB3.cell 0
  have d1 : W4.cell? ⟨w3.heap.size, 1, none⟩ = some (.bool true) := hB3.cell 1
  have d2 : W4.cell? ⟨w3.heap.size, 2, none⟩ = some (.int .i64 (F : Nat)) := hB3.cell 2
  have d3 : W4.cell? ⟨w3.heap.size, 3, none⟩ = some (.slice A3 5 cap3) := hB3.cell 3
  have d4 : W4.cell? ⟨w3.heap.size, 4, none⟩ = some (.slice none 0 0) := hB3.cell 4
  have d5 : W4.cell? ⟨w3.heap.size, 5, none⟩ = some (.string data) := hB3.cell 5
  clear he htake hp3 hfar3 hB3 hu3 hwr hright hH hask
  go_wp2_with fail
  refine HT.out.mono ?_
  rintro e w5 ⟨v, rfl, S', hI5, hN5, hS5, b, hv, rfl, hB5, hbb, hbS, hA5⟩
  obtain ⟨A5, cap5, rfl⟩ := ap_form6 hA5 rfl
  have hb15 : Below w1.heap.size w1 w5 := below_nf (below_step hb2 hb3w) hN5 hS2
  have hp6 := ap_ok hA5 (by show ∀ y ∈ [4, noneN, 0, 0, 31, 0], y < 18446744073709551616; decide) (by show (63 : Nat) ≤ 63; decide) (by show (128 : Nat) ≤ 255; decide) (by show H.size ≤ _; omega)
  have V6 := V1.on hb15
  have HW := Lib.hid (fwhat_any _ r63 nRea 4 row63 rfl w5 hp6 V6.T V6.S)
  have c0 : w5.cell? ⟨b, 0, none⟩ = some (.int .i64 63) := hB5.cell 0
  have c1 : w5.cell? ⟨b, 1, none⟩ = some (.bool false) := hB5.cell 1
  have c2 : w5.cell? ⟨b, 2, none⟩ = some (.int .i64 128) := hB5.cell 2
  have c3 : w5.cell? ⟨b, 3, none⟩ = some (.slice A5 6 cap5) := hB5.cell 3
  have c4 : w5.cell? ⟨b, 4, none⟩ = some (.slice none 0 0) := hB5.cell 4
  have c5 : w5.cell? ⟨b, 5, none⟩ = some (.string H) := hB5.cell 5
  clear d0 d1 d2 d3 d4 d5 hp6 hB5 hA5
  go_wp2_with fail
  refine HW.out.mono ?_
  rintro e w7 ⟨he7, hb7⟩
  have he8 : e = .returned (.int .u64 4) := he7
  subst he8
  obtain ⟨gn, gt, Sn, tv', pv', uv', ov', pc', hX7, rfl⟩ := hI5.on hb7
  have k0 : w7.cell? ⟨f, 0, none⟩ = some (.pointer (some ⟨gn, 0, none⟩)) := hX7.fb.cell 0
  have hrc : ((sessP confC [] true 0 0).up).rc = [] := by decide +kernel
  have hnh := hX7.nh
  rw [hrc] at hnh
  have HREC := Lib.hid (nrec_any gn Sn _ [] w7 hnh (by decide))
  clear he7 c0 c1 c2 c3 c4 c5 hX7 hnh hI5
  go_wp2_with fail
  refine HREC.out.mono ?_
  rintro e w8 ⟨u, rfl, hu8, hb8⟩
  obtain ⟨A8, cap8, rfl, _⟩ := hu8.form
  go_wp2_with fail
  go_ret
  exact ⟨rfl, below_step hb1w (below_step hb15 (below_step hb7 hb8))⟩
end Go.Proofs.YtiblbfpgkfopeaaGreatDoor
