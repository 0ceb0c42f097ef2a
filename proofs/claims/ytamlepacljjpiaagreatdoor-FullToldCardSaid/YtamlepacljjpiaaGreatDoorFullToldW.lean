/- The walk of the law FullTold. -/
import Derived.Test.YtamlepacljjpiaaGreatDoorFullTextP
import Derived.Test.YtamlepacljjpiaaGreatDoorGfd
import Derived.Test.YtamlepacljjpiaaGreatDoorFullMr
import Derived.Test.YtamlepacljjpiaaGreatDoorGff
namespace Go.Proofs.YtamlepacljjpiaaGreatDoor
open Go.ChangeShapes Go.WideShapes Go.ChangeAt Go.RowKit Go.Shelf
set_option linter.unusedVariables false
set_option linter.unusedSimpArgs false
def toldY (DA : ByteArray) (n : Nat) : FP := { (sessP confC [(mrB, DA)] false 0 0).up with rc := addB (sessP confC [(mrB, DA)] false 0 0).rc mrB (dgs n), pcs := [], txt := ⟨#[]⟩ }
theorem told_first (DA D : ByteArray) (n : Nat) (h0 : 512 ≤ n) (h1 : n < 2512) (hD : D = ba (pairsB [(mrB, ba (dgs n))])) : wrongP (sessP confC [(mrB, DA)] false 0 0) (⟨4, true, 128, [0, 1, noneN, 0, 0], [], D⟩ : PD) = none ∧ takeP (sessP confC [(mrB, DA)] false 0 0) (⟨4, true, 128, [0, 1, noneN, 0, 0], [], D⟩ : PD) = ([⟨36, 128, [0, 1, noneN, 0, 0, 31], ⟨#[]⟩⟩], toldY DA n) := by
  obtain ⟨_, hk, hv⟩ := told_ans n h0 h1
  have hr : rightP [(mrB, ba (dgs n))] := fun p hp => by rw [List.mem_singleton.1 hp]; exact ⟨hk, hv⟩
  have hz : D.size ≤ 8192 := by
    have e : (ba (pairsB [(mrB, ba (dgs n))])).size = (pairsB [(mrB, ba (dgs n))]).length := size_mkl _
    have := pairsB_len_le _ hr
    rw [hD, e]
    simp only [List.length_singleton] at this
    omega
  obtain ⟨hw, ht⟩ := text_pairs (sessP confC [(mrB, DA)] false 0 0) rfl rfl [(mrB, ba (dgs n))] D hD hr (by simp) hz
  refine ⟨hw, ht.trans ?_⟩
  rw [told_says _ n h0 h1 rfl rfl]
  rfl
theorem told_then (DA data : ByteArray) (n : Nat) (h0 : 512 ≤ n) (h1 : n ≤ 20000) (hd : data.size ≤ 100000) : wrongP (toldY DA n) (⟨0, true, 128, [0, 2, noneN, 0, 0], [], data⟩ : PD) = none ∧ takeP (toldY DA n) (⟨0, true, 128, [0, 2, noneN, 0, 0], [], data⟩ : PD) = ([⟨32, 128, [0, 2, noneN, 1, 0, 31], data.extract 0 (min data.size n)⟩], (toldY DA n).up) := by
  have hw : wrongP (toldY DA n) (⟨0, true, 128, [0, 2, noneN, 0, 0], [], data⟩ : PD) = none := wrong_ok rfl (right0 (by decide) (by decide) (by decide) (by decide)) rfl hd
  have hm : mostN (toldY DA n).rc = n := most_told _ n h0 h1
  have hn : nopA (toldY DA n) (⟨0, true, 128, [0, 2, noneN, 0, 0], [], data⟩ : PD) = ⟨32, 128, [0, 2, noneN, 1, 0, 31], data.extract 0 (min data.size n)⟩ := by
    unfold nopA
    rw [hm]
    rfl
  have hk : ¬ known (⟨0, true, 128, [0, 2, noneN, 0, 0], [], data⟩ : PD).op = false := by show ¬ known 0 = false; decide
  refine ⟨hw, ?_⟩
  unfold takeP
  rw [hw]
  show stepP _ _ _ = _
  unfold stepP
  rw [if_neg hk, if_pos rfl]
  unfold doP
  rw [if_pos (show (0 : Int) = 0 from rfl)]
  refine (if_neg (show ¬ (2 : Nat) = 4294967295 by decide)).trans ?_
  rw [hn]
theorem make0t : makeR 0 128 ([nITT, nTTT].map (·.data.toList)) [2, noneN] = .inr [0, 2, noneN, 0, 0] :=
  makeR_go row0 (by rfl) (right0 (by decide) (by decide) (by decide) (by decide))
set_option maxRecDepth 20000 in
set_option maxHeartbeats 16000000 in
theorem toldFull (a b : Int) (data : ByteArray) (w : World) (ha : -9223372036854775808 ≤ a ∧ a ≤ 9223372036854775807) (hb : -9223372036854775808 ≤ b ∧ b ≤ 9223372036854775807) (hz : data.size ≤ 140737488351232) (V : Env w) : Calls Tryz.prog 5 #[.int .i64 a, .int .i64 b, .string data] w fun e w' => e = .returned (.bool true) ∧ Below w.heap.size w w' := by
  obtain ⟨kA, hkA, hlA⟩ := pickE a 1500 (by decide)
  obtain ⟨MA, hMA⟩ : ∃ M, 512 + kA = M := ⟨_, rfl⟩
  have hMzA : (512 : Int) + (kA : Int) = (MA : Int) := by omega
  have hM0A : 512 ≤ MA := by omega
  have hM1A : MA < 2512 := by omega
  have hnumA := fun (W : World) => numberK MA (by omega) W
  have HPICKA := Lib.hid (fun (W : World) => pickK a 1500 kA hkA (by decide) (by decide) W)
  have HMZA := Lib.hid hMzA
  clear hkA hMA
  obtain ⟨kB, hkB, hlB⟩ := pickE b 1500 (by decide)
  obtain ⟨MB, hMB⟩ : ∃ M, 512 + kB = M := ⟨_, rfl⟩
  have hMzB : (512 : Int) + (kB : Int) = (MB : Int) := by omega
  have hM0B : 512 ≤ MB := by omega
  have hM1B : MB < 2512 := by omega
  have hnumB := fun (W : World) => numberK MB (by omega) W
  have HPICKB := Lib.hid (fun (W : World) => pickK b 1500 kB hkB (by decide) (by decide) W)
  have HMZB := Lib.hid hMzB
  clear hkB hMB
  obtain ⟨DA, hDA⟩ : ∃ D, ba (dgs MA) = D := ⟨_, rfl⟩
  obtain ⟨DB, hDB⟩ : ∃ D, ba (dgs MB) = D := ⟨_, rfl⟩
  have hDAz : DA.size ≤ 255 := by
    have := valB_len (dgs_val MA)
    rw [← hDA]
    show (⟨(dgs MA).toArray⟩ : ByteArray).size ≤ 255
    rw [size_mkl]
    exact this
  have hDBz : DB.size ≤ 255 := by
    have := valB_len (dgs_val MB)
    rw [← hDB]
    show (⟨(dgs MB).toArray⟩ : ByteArray).size ≤ 255
    rw [size_mkl]
    exact this
  have hLDz : ((⟨#[77, 97, 120, 82, 101, 99, 118, 68, 97, 116, 97, 83, 101, 103, 109, 101, 110, 116, 76, 101, 110, 103, 116, 104, 61]⟩ : ByteArray) ++ DB).size ≤ 300 := by
    rw [ByteArray.size_append]
    have : (⟨#[77, 97, 120, 82, 101, 99, 118, 68, 97, 116, 97, 83, 101, 103, 109, 101, 110, 116, 76, 101, 110, 103, 116, 104, 61]⟩ : ByteArray).size = 25 := rfl
    omega
  have hDA2 : (⟨(dgs MA).toArray⟩ : ByteArray) = DA := hDA
  have hDB2 : (⟨(dgs MB).toArray⟩ : ByteArray) = DB := hDB
  rw [hDA2] at hnumA
  rw [hDB2] at hnumB
  obtain ⟨D, hD⟩ : ∃ D, (⟨#[77, 97, 120, 82, 101, 99, 118, 68, 97, 116, 97, 83, 101, 103, 109, 101, 110, 116, 76, 101, 110, 103, 116, 104, 61]⟩ : ByteArray) ++ DB ++ ⟨#[0]⟩ = D := ⟨_, rfl⟩
  have hDp : D = ba (pairsB [(mrB, ba (dgs MB))]) := by
    rw [ba_pair, hDB, ← hD]
    rfl
  have hDz : D.size ≤ 140737488351232 := by
    have := valB_len (dgs_val MB)
    have e : (ba (pairsB [(mrB, ba (dgs MB))])).size = (pairsB [(mrB, ba (dgs MB))]).length := size_mkl _
    have h2 := pairsB_len_le [(mrB, ba (dgs MB))] (fun p hp => by rw [List.mem_singleton.1 hp]; exact (told_ans MB hM0B hM1B).2)
    rw [hDp, e]
    simp only [List.length_singleton] at h2
    omega
  have HFIRST := Lib.hid (told_first DA D MB hM0B hM1B hDp)
  have HNUMA := Lib.hid hnumA
  have HNUMB := Lib.hid hnumB
  have HD := Lib.hid hD
  clear hnumA hnumB hDA2 hDB2 hDA hDB hD hDp
  go_enter Tryz.func5, Tryz.ntmps5
  go_wp2_with fail
  refine (opened_any _ V).mono ?_
  rintro e w0 ⟨rfl, hb0⟩
  by_cases hd : 2500 < data.size
  · have hd2 : (2500 : Int) < data.size := by omega
    go_wp2_with fail
    go_ret
    exact ⟨rfl, hb0⟩
  have hd2 : ¬ (2500 : Int) < data.size := by omega
  have HTHEN := Lib.hid (told_then DA data MB hM0B (by omega) (by omega))
  go_wp2_with fail
  refine (HPICKA.out _).mono ?_
  rintro e w0a ⟨rfl, rfl⟩
  have hMzA := HMZA.out
  go_wp2_with fail
  refine (HPICKB.out _).mono ?_
  rintro e w0b ⟨rfl, rfl⟩
  have hMzB := HMZB.out
  go_wp2_with fail
  refine (conf_any _).mono ?_
  rintro e w1 ⟨⟨tv, pv, uv, ov, rfl, hc1⟩, hb1⟩
  have hb1w := below_step hb0 hb1
  have V1 := V.on hb1w
  go_wp2_with fail
  try rw [HMZA.out]
  refine (HNUMA.out _).mono ?_
  rintro e w1b ⟨rfl, hb1b⟩
  go_wp2_with fail
  refine (pair_mk _ _ _).mono ?_
  rintro e w1c ⟨rfl, hb1c⟩
  have hb11 := below_step hb1b hb1c
  have hbo : Below w1c.heap.size w1c (w1c.alloc (.cells #[.string ⟨#[77, 97, 120, 82, 101, 99, 118, 68, 97, 116, 97, 83, 101, 103, 109, 101, 110, 116, 76, 101, 110, 103, 116, 104]⟩, .string DA] 62)) := (Below.refl _ _).alloc (Nat.le_refl _) _
  have hsr : SRd (w1c.alloc (.cells #[.string ⟨#[77, 97, 120, 82, 101, 99, 118, 68, 97, 116, 97, 83, 101, 103, 109, 101, 110, 116, 76, 101, 110, 103, 116, 104]⟩, .string DA] 62)) (.slice (some ⟨w1c.heap.size, 0, none⟩) 1 1) 2 1 (pairCells [(mrB, DA)]) := SRd.litp (Blk.new _ _ _) rfl rfl (by decide)
  have hsess := sessC_any hc1 V1 (below_step hb11 hbo) [(mrB, DA)] _ hsr (fun p hp => by
    simp only [List.mem_cons, List.not_mem_nil, or_false] at hp
    subst hp
    show mrB.size + DA.size ≤ 900
    have : mrB.size = 24 := rfl
    omega) (by simp) false 0 0 (by decide) (by decide)
  have HSESS := Lib.hid hsess
  have HBO := Lib.hid (below_step hb11 hbo)
  clear hsess hsr hbo
  go_wp2_with fail
  refine HSESS.out.mono ?_
  rintro e w2 ⟨⟨f, S, rfl, hI2, hS2⟩, hb2⟩
  have hb12 := below_step HBO.out hb2
  have V2 := V1.on hb12
  have hS1 : ∀ k ∈ S, w1.heap.size ≤ k := fun k hk => (hI2.lt k hk).2
  have hbl3 : Below w2.heap.size w2 ((w2.alloc (.cells #[.string ⟨#[73, 84, 84]⟩, .string ⟨#[84, 84, 84]⟩] 9)).alloc (.cells #[.int .u64 1, .int .u64 4294967295] 49)) := ((Below.refl _ _).alloc (Nat.le_refl _) _).alloc (by simp) _
  have hnv3 : SRd ((w2.alloc (.cells #[.string ⟨#[73, 84, 84]⟩, .string ⟨#[84, 84, 84]⟩] 9)).alloc (.cells #[.int .u64 1, .int .u64 4294967295] 49)) (.slice (some ⟨w2.heap.size, 0, none⟩) 2 2) 1 2 ([nITT, nTTT].map .string) := SRd.lit5 (n := 2) (Blk.alloc (Blk.new w2 _ _) _)
  have hvv3 : SRd ((w2.alloc (.cells #[.string ⟨#[73, 84, 84]⟩, .string ⟨#[84, 84, 84]⟩] 9)).alloc (.cells #[.int .u64 1, .int .u64 4294967295] 49)) (.slice (some ⟨w2.heap.size + 1, 0, none⟩) 2 2) 1 2 ([1, noneN].map u64V) := by
    rw [← szA w2 (.cells #[.string ⟨#[73, 84, 84]⟩, .string ⟨#[84, 84, 84]⟩] 9)]
    exact SRd.lit5 (n := 2) (Blk.new _ _ _)
  have HNV3 := Lib.hid hnv3
  have HVV3 := Lib.hid hvv3
  have HBL := Lib.hid hbl3
  clear hbl3 hnv3 hvv3
  go_wp2_with fail
  try rw [HMZB.out]
  refine (HNUMB.out _).mono ?_
  rintro e w2b ⟨rfl, hb2b⟩
  have hbl3 := below_step HBL.out hb2b
  have hreq3 := req_any 4 128 true [nITT, nTTT] [1, noneN] _ _ D [0, 1, noneN, 0, 0] _ (make4 (fl := 128) (b := 1) (c := noneN) (by simp) (by decide) (by decide)) (by decide) (by decide) (HNV3.out.on hb2b) (HVV3.out.on hb2b) (by decide) (by decide) hDz (V2.on hbl3)
  have HREQ3 := Lib.hid hreq3
  have HBL3 := Lib.hid hbl3
  clear hreq3 hbl3
  go_wp2_with fail
  try rw [HD.out]
  refine HREQ3.out.mono ?_
  rintro e w3 ⟨⟨u3, he, hp3, hu3⟩, hb3⟩
  obtain ⟨A3, cap3, hu⟩ : ∃ A cap, u3 = .slice A 5 cap := pd_form hp3
  subst hu
  have he' : e = .returned (.tuple #[.agg #[.int .i64 4, .bool true, .int .i64 128, .slice A3 5 cap3, .slice none 0 0, .string D], .bool true]) := he
  subst he'
  have hb3r := below_step HBL3.out hb3
  have hb3a : Below w3.heap.size w3 (w3.alloc (.cells #[.int .i64 4, .bool true, .int .i64 128, .slice A3 5 cap3, .slice none 0 0, .string D] 41)) := (Below.refl _ _).alloc (Nat.le_refl _) _
  have hB3 := Blk.new w3 41 #[.int .i64 4, .bool true, .int .i64 128, .slice A3 5 cap3, .slice none 0 0, .string D]
  obtain ⟨W4, hW4⟩ : ∃ W : World, w3.alloc (.cells #[.int .i64 4, .bool true, .int .i64 128, .slice A3 5 cap3, .slice none 0 0, .string D] 41) = W := ⟨_, rfl⟩
  rw [hW4] at hb3a hB3
  have hb3w := below_step hb3r hb3a
  have hfar3 : PdFar S ((⟨4, true, 128, [0, 1, noneN, 0, 0], [], D⟩ : PD), reqPart (.slice A3 5 cap3)) := ⟨fun _ k hk hm => by have h1 := hu3 k hk; have h2 := (hI2.lt k hm).1; have h3 := HBL3.out.size; omega, fun hn => absurd (show 0 < 0 from hn) (by decide)⟩
  have hp3 := hp3.on hb3a
  have hI4 := hI2.on hb3w
  have hb14 := below_step hb12 hb3w
  have V4 := V1.on hb14
  obtain ⟨g3, hg3⟩ : ∃ g, w3.heap.size = g := ⟨_, rfl⟩
  rw [hg3] at hB3
  have HW4 := Lib.hid hW4
  have HG3 := Lib.hid hg3
  clear he hu3 hW4 hg3
  have hbl5 : Below W4.heap.size W4 ((W4.alloc (.cells #[.string ⟨#[73, 84, 84]⟩, .string ⟨#[84, 84, 84]⟩] 9)).alloc (.cells #[.int .u64 2, .int .u64 4294967295] 49)) := ((Below.refl _ _).alloc (Nat.le_refl _) _).alloc (by simp) _
  have hnv5 : SRd ((W4.alloc (.cells #[.string ⟨#[73, 84, 84]⟩, .string ⟨#[84, 84, 84]⟩] 9)).alloc (.cells #[.int .u64 2, .int .u64 4294967295] 49)) (.slice (some ⟨W4.heap.size, 0, none⟩) 2 2) 1 2 ([nITT, nTTT].map .string) := SRd.lit5 (n := 2) (Blk.alloc (Blk.new W4 _ _) _)
  have hvv5 : SRd ((W4.alloc (.cells #[.string ⟨#[73, 84, 84]⟩, .string ⟨#[84, 84, 84]⟩] 9)).alloc (.cells #[.int .u64 2, .int .u64 4294967295] 49)) (.slice (some ⟨W4.heap.size + 1, 0, none⟩) 2 2) 1 2 ([2, noneN].map u64V) := by
    rw [← szA W4 (.cells #[.string ⟨#[73, 84, 84]⟩, .string ⟨#[84, 84, 84]⟩] 9)]
    exact SRd.lit5 (n := 2) (Blk.new _ _ _)
  have hreq5 := req_any 0 128 true [nITT, nTTT] [2, noneN] _ _ data [0, 2, noneN, 0, 0] _ make0t (by decide) (by decide) hnv5 hvv5 (by decide) (by decide) hz (V4.on hbl5)
  have HREQ5 := Lib.hid hreq5
  have HBL5 := Lib.hid hbl5
  clear hreq5 hnv5 hvv5 hbl5
  go_upto_region 8 with (fail)
  try refine wp_worldN HW4.out ?_
  try rw [HG3.out]
  go_wp2_with fail
  refine HREQ5.out.mono ?_
  rintro e w5 ⟨⟨u5, he, hp5, hu5⟩, hb5⟩
  obtain ⟨A5, cap5, hu⟩ : ∃ A cap, u5 = .slice A 5 cap := pd_form hp5
  subst hu
  have he' : e = .returned (.tuple #[.agg #[.int .i64 0, .bool true, .int .i64 128, .slice A5 5 cap5, .slice none 0 0, .string data], .bool true]) := he
  subst he'
  have hb5r := below_step HBL5.out hb5
  have hb5a : Below w5.heap.size w5 (w5.alloc (.cells #[.int .i64 0, .bool true, .int .i64 128, .slice A5 5 cap5, .slice none 0 0, .string data] 41)) := (Below.refl _ _).alloc (Nat.le_refl _) _
  have hB5 := Blk.new w5 41 #[.int .i64 0, .bool true, .int .i64 128, .slice A5 5 cap5, .slice none 0 0, .string data]
  obtain ⟨W6, hW6⟩ : ∃ W : World, w5.alloc (.cells #[.int .i64 0, .bool true, .int .i64 128, .slice A5 5 cap5, .slice none 0 0, .string data] 41) = W := ⟨_, rfl⟩
  rw [hW6] at hb5a hB5
  have hb5w := below_step hb5r hb5a
  have hfar5 : PdFar S ((⟨0, true, 128, [0, 2, noneN, 0, 0], [], data⟩ : PD), reqPart (.slice A5 5 cap5)) := ⟨fun _ k hk hm => by have h1 := hu5 k hk; have h2 := (hI4.lt k hm).1; have h3 := HBL5.out.size; omega, fun hn => absurd (show 0 < 0 from hn) (by decide)⟩
  have hp5 := hp5.on hb5a
  have hI6 := hI4.on hb5w
  have hb16 := below_step hb14 hb5w
  have hp36 := hp3.on hb5w
  have htake := ftake_any hI6 V1 ((⟨4, true, 128, [0, 1, noneN, 0, 0], [], D⟩ : PD), reqPart (.slice A3 5 cap3)) hp36 hfar3
  rw [HFIRST.out.1, HFIRST.out.2, show codeV none = .nilIface from rfl] at htake
  have HT := Lib.hid htake
  have HP5 := Lib.hid hp5
  have HF5 := Lib.hid hfar5
  have HB5 := Lib.hid hB5
  have hB36 := hB3.below hb5w hB3.lt
  have hg3S : g3 ∉ S := fun hm => by have h1 := (hI4.lt g3 hm).1; have h2 := (hI2.lt g3 hm).1; have h3 := HG3.out; have h4 := hb3r.size; omega
  have d0 : W6.cell? ⟨g3, 0, none⟩ = some (.int .i64 4) := hB36.cell 0
  have d1 : W6.cell? ⟨g3, 1, none⟩ = some (.bool true) := hB36.cell 1
  have d2 : W6.cell? ⟨g3, 2, none⟩ = some (.int .i64 128) := hB36.cell 2
  have d3 : W6.cell? ⟨g3, 3, none⟩ = some (.slice A3 5 cap3) := hB36.cell 3
  have d4 : W6.cell? ⟨g3, 4, none⟩ = some (.slice none 0 0) := hB36.cell 4
  have d5 : W6.cell? ⟨g3, 5, none⟩ = some (.string D) := hB36.cell 5
  have HW6 := Lib.hid hW6
  clear he htake hp3 hp36 hfar3 hB3 hu5 hp5 hfar5 hB5 hW6
  go_upto_region 9 with (fail)
  try refine wp_worldN HW6.out ?_
  go_wp2_with fail
  refine HT.out.mono ?_
  rintro e w7 ⟨v, rfl, S', hI7, hN7, hS7, b7, hv7, rfl, hB7, hbb7, hbS7, hA7⟩
  have hb17 : Below w1.heap.size w1 w7 := below_nf hb16 hN7 hS1
  have hg5 : w5.heap.size ∉ S := fun hm => by have h1 := (hI4.lt _ hm).1; have h3 := hb5r.size; omega
  have hB57 : Blk w7 w5.heap.size 41 #[.int .i64 0, .bool true, .int .i64 128, .slice A5 5 cap5, .slice none 0 0, .string data] := (hN7.block _ HB5.out.lt hg5).trans HB5.out
  have hp57 := HP5.out.nf hN7 HF5.out
  have hfar57 : PdFar S' ((⟨0, true, 128, [0, 2, noneN, 0, 0], [], data⟩ : PD), reqPart (.slice A5 5 cap5)) := HF5.out.grow HP5.out hS7
  have htake8 := ftake_any hI7 V1 ((⟨0, true, 128, [0, 2, noneN, 0, 0], [], data⟩ : PD), reqPart (.slice A5 5 cap5)) hp57 hfar57
  rw [HTHEN.out.1, HTHEN.out.2, show codeV none = .nilIface from rfl] at htake8
  have HT8 := Lib.hid htake8
  have HB7 := Lib.hid hB7
  have l0 : w7.cell? ⟨w5.heap.size, 0, none⟩ = some (.int .i64 0) := hB57.cell 0
  have l1 : w7.cell? ⟨w5.heap.size, 1, none⟩ = some (.bool true) := hB57.cell 1
  have l2 : w7.cell? ⟨w5.heap.size, 2, none⟩ = some (.int .i64 128) := hB57.cell 2
  have l3 : w7.cell? ⟨w5.heap.size, 3, none⟩ = some (.slice A5 5 cap5) := hB57.cell 3
  have l4 : w7.cell? ⟨w5.heap.size, 4, none⟩ = some (.slice none 0 0) := hB57.cell 4
  have l5 : w7.cell? ⟨w5.heap.size, 5, none⟩ = some (.string data) := hB57.cell 5
  clear htake8 d0 d1 d2 d3 d4 d5 hB57 hp57 hfar57 hB7
  go_wp2_with fail
  refine HT8.out.mono ?_
  rintro e w8 ⟨v8, rfl, S8, hI8, hN8, hS8, b8, hv8, rfl, hB8, hbb8, hbS8, hA8⟩
  have hb18 : Below w1.heap.size w1 w8 := below_nf hb17 hN8 (fun k hk => (hI7.lt k hk).2)
  have hB78 := (hN8.block b7 HB7.out.lt hbS7).trans HB7.out
  have hB78 : Blk w8 b7 41 _ := hB78
  have m5 : ∀ i : BW w8, i.v.cell? ⟨b7, 5, none⟩ = some (.string ⟨#[]⟩) := fun i => (hB78.below i.h hB78.lt).cell 5
  have q5 : ∀ i : BW w8, i.v.cell? ⟨b8, 5, none⟩ = some (.string (data.extract 0 (min data.size MB))) := fun i => (hB8.below i.h hB8.lt).cell 5
  have hmn : (min (data.size : Int) (MB : Int)).toNat = min data.size MB := by omega
  clear l0 l1 l2 l3 l4 l5
  go_upto_region 13 with (fail)
  refine wp_region_quietB (by kernel_rfl) (by kernel_rfl) ?_
  repeat (first | go_big_quiet_skip | (go_big_quiet_want; go_big_quiet_op; first | go_big_quiet_on | (apply Exists.intro; refine ⟨fun _ => ?_, ?_⟩; (fail); go_big_quiet_on)))
  refine wpQuiet_nil ?_
  rintro _ ⟨iq, rfl⟩
  go_wp2_with fail
  go_ret
  exact ⟨by simp, below_step hb1w (below_step hb18 iq.h)⟩
end Go.Proofs.YtamlepacljjpiaaGreatDoor
