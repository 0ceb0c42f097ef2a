/- The walk of the law FullQuiet. -/
import Derived.Test.YtiblbfpgkfopeaaGreatDoorGfd
namespace Go.Proofs.YtiblbfpgkfopeaaGreatDoor
open Go.ChangeShapes Go.WideShapes Go.ChangeAt Go.RowKit Go.Shelf
set_option linter.unusedVariables false
set_option linter.unusedSimpArgs false
theorem quiet_step (X : FP) (now : Bool) (data : ByteArray) (C : Nat) (h : ByteArray) (hC : X.cmd = C) : stepP X ⟨0, now, 128, [0, noneN, noneN, C, 0], [], data⟩ h = ([], X) := by
  have hd : doP X ⟨0, now, 128, [0, noneN, noneN, C, 0], [], data⟩ h = ([], X) := by
    unfold doP
    rw [if_pos (show (0 : Int) = 0 from rfl)]
    exact if_pos rfl
  have hk : ¬ known (⟨0, now, 128, [0, noneN, noneN, C, 0], [], data⟩ : PD).op = false := by show ¬ known 0 = false; decide
  unfold stepP
  rw [if_neg hk]
  cases now
  · rw [if_neg (by simp), if_neg (fun h => h hC.symm)]
    exact (if_pos ⟨rfl, rfl⟩).trans hd
  · rw [if_pos rfl]
    exact hd
set_option maxRecDepth 20000 in
set_option maxHeartbeats 8000000 in
theorem quietFull (now : Bool) (data : ByteArray) (cmd : Int) (w : World) (hz : data.size ≤ 140737488351232) (hc : 0 ≤ cmd ∧ cmd ≤ 4294967295) (V : Env w) : Calls Tryz.prog 7 #[.bool now, .string data, .int .u32 cmd] w fun e w' => e = .returned (.bool true) ∧ Below w.heap.size w w' := by
  obtain ⟨C, rfl⟩ := Int.eq_ofNat_of_zero_le hc.1
  have hC : C < 4294967296 := by omega
  have e1 : IntKind.u64.wrap (C : Int) = C := by rw [IntKind.wrap_u64]; omega
  go_enter Tryz.func7, Tryz.ntmps7
  go_wp2_with fail
  refine (opened_any _ V).mono ?_
  rintro e w0 ⟨rfl, hb0⟩
  by_cases hd : 500 < data.size
  · have hd2 : (500 : Int) < data.size := by omega
    go_wp2_with fail
    go_ret
    exact ⟨rfl, hb0⟩
  have hd2 : ¬ (500 : Int) < data.size := by omega
  go_wp2_with fail
  refine (conf_any _).mono ?_
  rintro e w1 ⟨⟨tv, pv, uv, ov, rfl, hc1⟩, hb1⟩
  have hb1w := below_step hb0 hb1
  have V1 := V.on hb1w
  go_wp2_with fail
  refine (sessC_any hc1 V1 (Below.refl _ _) [] _ (rd_nil _ _) (fun p hp => by cases hp) (by decide) false 6 C (by decide) hC).mono ?_
  rintro e w2 ⟨⟨f, S, rfl, hI2, hS2⟩, hb2⟩
  have V2 := V1.on hb2
  have hbl3 : Below w2.heap.size w2 ((w2.alloc (.cells #[.string ⟨#[73, 84, 84]⟩, .string ⟨#[84, 84, 84]⟩, .string ⟨#[67, 109, 100, 83, 78]⟩] 9)).alloc (.cells #[.int .u64 4294967295, .int .u64 4294967295, .int .u64 (C : Int)] 22)) := ((Below.refl _ _).alloc (Nat.le_refl _) _).alloc (by simp) _
  have hnv3 : SRd ((w2.alloc (.cells #[.string ⟨#[73, 84, 84]⟩, .string ⟨#[84, 84, 84]⟩, .string ⟨#[67, 109, 100, 83, 78]⟩] 9)).alloc (.cells #[.int .u64 4294967295, .int .u64 4294967295, .int .u64 (C : Int)] 22)) (.slice (some ⟨w2.heap.size, 0, none⟩) 3 3) 1 3 ([nITT, nTTT, nCmd].map .string) := SRd.lit5 (n := 3) (Blk.alloc (Blk.new w2 _ _) _)
  have hvv3 : SRd ((w2.alloc (.cells #[.string ⟨#[73, 84, 84]⟩, .string ⟨#[84, 84, 84]⟩, .string ⟨#[67, 109, 100, 83, 78]⟩] 9)).alloc (.cells #[.int .u64 4294967295, .int .u64 4294967295, .int .u64 (C : Int)] 22)) (.slice (some ⟨w2.heap.size + 1, 0, none⟩) 3 3) 1 3 ([noneN, noneN, C].map u64V) := by
    rw [← szA w2 (.cells #[.string ⟨#[73, 84, 84]⟩, .string ⟨#[84, 84, 84]⟩, .string ⟨#[67, 109, 100, 83, 78]⟩] 9)]
    exact SRd.lit5 (n := 3) (Blk.new _ _ _)
  have hreq3 := req_any 0 128 now [nITT, nTTT, nCmd] [noneN, noneN, C] _ _ data [0, noneN, noneN, C, 0] _ (make0c (b := noneN) (c := noneN) (s := C) (by decide) (by decide) hC) (by decide) (by decide) hnv3 hvv3 (fun y hy => by simp [noneN] at hy; omega) (fun y hy => by simp [noneN] at hy; omega) hz (V2.on hbl3)
  have HREQ3 := Lib.hid hreq3
  have HBL3 := Lib.hid hbl3
  clear hreq3 hnv3 hvv3 hbl3
  go_wp2_with fail
  refine HREQ3.out.mono ?_
  rintro e w3 ⟨⟨u3, he, hp3, hu3⟩, hb3⟩
  obtain ⟨A3, cap3, hu⟩ : ∃ A cap, u3 = .slice A 5 cap := pd_form hp3
  subst hu
  have he' : e = .returned (.tuple #[.agg #[.int .i64 0, .bool now, .int .i64 128, .slice A3 5 cap3, .slice none 0 0, .string data], .bool true]) := he
  subst he'
  have hb3r := below_step HBL3.out hb3
  have hb3a : Below w3.heap.size w3 (w3.alloc (.cells #[.int .i64 0, .bool now, .int .i64 128, .slice A3 5 cap3, .slice none 0 0, .string data] 46)) := (Below.refl _ _).alloc (Nat.le_refl _) _
  have hB3 := Blk.new w3 46 #[.int .i64 0, .bool now, .int .i64 128, .slice A3 5 cap3, .slice none 0 0, .string data]
  obtain ⟨W4, hW4⟩ : ∃ W : World, w3.alloc (.cells #[.int .i64 0, .bool now, .int .i64 128, .slice A3 5 cap3, .slice none 0 0, .string data] 46) = W := ⟨_, rfl⟩
  rw [hW4] at hb3a hB3
  have hb3w := below_step hb3r hb3a
  have hfar3 : PdFar S ((⟨0, now, 128, [0, noneN, noneN, C, 0], [], data⟩ : PD), reqPart (.slice A3 5 cap3)) := ⟨fun _ k hk hm => by have h1 := hu3 k hk; have h2 := (hI2.lt k hm).1; have h3 := HBL3.out.size; omega, fun hn => absurd (show 0 < 0 from hn) (by decide)⟩
  have hp3 := hp3.on hb3a
  have hwr : wrongP (sessP confC [] false 6 C) (⟨0, now, 128, [0, noneN, noneN, C, 0], [], data⟩ : PD) = none := wrong_ok rfl (right0 (by decide) (by decide) hC (by decide)) rfl (by show data.size ≤ 100000; omega)
  have htake := ftake_ok (hI2.on hb3w) V1 ((⟨0, now, 128, [0, noneN, noneN, C, 0], [], data⟩ : PD), reqPart (.slice A3 5 cap3)) hp3 hfar3 hwr (fun h => absurd (show (0 : Int) = 4 from h) (by decide))
  rw [quiet_step _ now data C _ rfl] at htake
  have HT := Lib.hid htake
  have d0 : W4.cell? ⟨w3.heap.size, 0, none⟩ = some (.int .i64 0) := hB3.cell 0
  have d1 : W4.cell? ⟨w3.heap.size, 1, none⟩ = some (.bool now) := hB3.cell 1
  have d2 : W4.cell? ⟨w3.heap.size, 2, none⟩ = some (.int .i64 128) := hB3.cell 2
  have d3 : W4.cell? ⟨w3.heap.size, 3, none⟩ = some (.slice A3 5 cap3) := hB3.cell 3
  have d4 : W4.cell? ⟨w3.heap.size, 4, none⟩ = some (.slice none 0 0) := hB3.cell 4
  have d5 : W4.cell? ⟨w3.heap.size, 5, none⟩ = some (.string data) := hB3.cell 5
  clear he htake hp3 hfar3 hB3 hu3 hwr
  go_wp2_with fail
  refine HT.out.mono ?_
  rintro e w5 ⟨v, rfl, S', hI5, hN5, hS5, rfl⟩
  have hb15 : Below w1.heap.size w1 w5 := below_nf (below_step hb2 hb3w) hN5 hS2
  clear d0 d1 d2 d3 d4 d5
  go_wp2_with fail
  refine (fnext_any hI5).mono ?_
  rintro e w6 ⟨he6, hb6⟩
  have he7 : e = .returned (.tuple #[.int .u32 6, .int .u32 (C : Int)]) := he6
  subst he7
  clear he6
  go_wp2_with fail
  go_ret
  exact ⟨rfl, below_step hb1w (below_step hb15 hb6)⟩
end Go.Proofs.YtiblbfpgkfopeaaGreatDoor
