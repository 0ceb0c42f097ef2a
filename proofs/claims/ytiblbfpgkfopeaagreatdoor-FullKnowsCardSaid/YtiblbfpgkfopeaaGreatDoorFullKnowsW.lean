/- The walk of the law FullKnows. -/
import Derived.Test.YtiblbfpgkfopeaaGreatDoorGfd
import Derived.Test.YtiblbfpgkfopeaaGreatDoorFullLarge
namespace Go.Proofs.YtiblbfpgkfopeaaGreatDoor
open Go.ChangeShapes Go.WideShapes Go.ChangeAt Go.RowKit Go.Shelf
set_option linter.unusedVariables false
set_option linter.unusedSimpArgs false
def knowX : FP := { (sessP confC [] false 3 8).up with cmd := 9 }
theorem knows_first (p : PD) (h : ByteArray) (hk : known p.op = false) : stepP (sessP confC [] false 3 8) p h = ([⟨63, 128, [5, noneN, 3, 8, 39, 0], h⟩], (sessP confC [] false 3 8).up) := by
  unfold stepP
  rw [if_pos hk]
  rfl
theorem knows_then (data h : ByteArray) (hd : data.size ≤ 400) : stepP (sessP confC [] false 3 8).up (⟨0, false, 128, [0, 1, noneN, 8, 0], [], data⟩ : PD) h = ([⟨32, 128, [0, 1, noneN, 4, 9, 40], data⟩], knowX.up) := by
  have hm : mostN knowX.rc = 8192 := most_nil false
  have hn : nopA knowX (⟨0, false, 128, [0, 1, noneN, 8, 0], [], data⟩ : PD) = ⟨32, 128, [0, 1, noneN, 4, 9, 40], data⟩ := by
    unfold nopA
    rw [hm]
    have e : (⟨0, false, 128, [0, 1, noneN, 8, 0], [], data⟩ : PD).data.extract 0 (min (⟨0, false, 128, [0, 1, noneN, 8, 0], [], data⟩ : PD).data.size 8192) = data := ext_min data 8192 (by omega)
    rw [e]
    rfl
  have hk : ¬ known (⟨0, false, 128, [0, 1, noneN, 8, 0], [], data⟩ : PD).op = false := by show ¬ known 0 = false; decide
  unfold stepP
  rw [if_neg hk, if_neg (by simp), if_neg (fun h => h rfl), if_neg (fun h => absurd (show (1 : Nat) = noneN from h.2) (by decide))]
  show doP knowX (⟨0, false, 128, [0, 1, noneN, 8, 0], [], data⟩ : PD) h = _
  unfold doP
  rw [if_pos (show (0 : Int) = 0 from rfl)]
  refine (if_neg (show ¬ (1 : Nat) = noneN by decide)).trans ?_
  rw [hn]
set_option maxRecDepth 20000 in
set_option maxHeartbeats 16000000 in
theorem knowsFull (op : Int) (now : Bool) (fl : Int) (vals : List Nat) (u : Value) (al : AhsL) (ua : Value) (s : ByteArray) (data : ByteArray) (w : World) (h0 : -9223372036854775808 ≤ op ∧ op ≤ 9223372036854775807) (hf : -9223372036854775808 ≤ fl ∧ fl ≤ 9223372036854775807) (hv : SRd w u 1 vals.length (vals.map u64V)) (hvl : ∀ x ∈ vals, x < 18446744073709551616)
    (ha : SRd w ua 2 al.length (ahsCells al)) (hb : ∀ q ∈ al, -9223372036854775808 ≤ q.1 ∧ q.1 ≤ 9223372036854775807) (hd : ∀ q ∈ al, q.2.size ≤ 140737488351232) (hs : s.size ≤ 140737488351232) (hz : data.size ≤ 140737488351232) (V : Env w) :
    Calls Tryz.prog 15 #[.agg #[.int .i64 op, .bool now, .int .i64 fl, u, ua, .string s], .string data] w fun e w' => e = .returned (.bool true) ∧ Below w.heap.size w w' := by
  have hp : PdOk w (⟨op, now, fl, vals, al, s⟩, ⟨u, ua⟩) := ⟨h0, hf, hv, hvl, ha, hb, hd, hs⟩
  obtain ⟨A, cap, rfl⟩ : ∃ A cap, u = .slice A vals.length cap := by obtain ⟨_, A, cap, hv, _⟩ := hv; exact ⟨A, cap, hv⟩
  obtain ⟨B, bcap, rfl⟩ : ∃ A cap, ua = .slice A al.length cap := by obtain ⟨_, A, cap, hv, _⟩ := ha; exact ⟨A, cap, hv⟩
  obtain ⟨g, hg⟩ : ∃ g, w.heap.size = g := ⟨_, rfl⟩
  have hba : Below w.heap.size w (w.alloc (.cells #[.int .i64 op, .bool now, .int .i64 fl, .slice A vals.length cap, .slice B al.length bcap, .string s] 46)) := (Below.refl _ _).alloc (Nat.le_refl _) _
  have hBa := Blk.new w 46 #[.int .i64 op, .bool now, .int .i64 fl, .slice A vals.length cap, .slice B al.length bcap, .string s]
  obtain ⟨Wa, hWa⟩ : ∃ W : World, w.alloc (.cells #[.int .i64 op, .bool now, .int .i64 fl, .slice A vals.length cap, .slice B al.length bcap, .string s] 46) = W := ⟨_, rfl⟩
  rw [hWa] at hba hBa
  rw [hg] at hBa
  have hgl := hBa.lt
  have Va := V.on hba
  have hcells := fun (W : World) (hb : Below Wa.heap.size Wa W) => hBa.below hb hBa.lt
  have HC := Lib.hid hcells
  have HP := Lib.hid (hp.on hba)
  have HBA := Lib.hid hba
  clear hcells hba hBa hp hv ha
  go_enter Tryz.func15, Tryz.ntmps15
  go_upto_region 1 with (fail)
  try refine wp_worldN hWa ?_
  try rw [hg]
  go_wp2_with fail
  refine (opened_any _ Va).mono ?_
  rintro e w0 ⟨rfl, hb0⟩
  have V0 := Va.on hb0
  go_wp2_with fail
  refine (headed_fact _ V0.T V0.S).mono ?_
  rintro e w0b ⟨rfl, hb0b⟩
  have hba1 := below_step hb0 hb0b
  have V0b := Va.on hba1
  have HPb := Lib.hid (HP.out.on hba1)
  have c0 : w0b.cell? ⟨g, 0, none⟩ = some (.int .i64 op) := (HC.out w0b hba1).cell 0
  have c1 : w0b.cell? ⟨g, 1, none⟩ = some (.bool now) := (HC.out w0b hba1).cell 1
  have c2 : w0b.cell? ⟨g, 2, none⟩ = some (.int .i64 fl) := (HC.out w0b hba1).cell 2
  have c3 : w0b.cell? ⟨g, 3, none⟩ = some (.slice A vals.length cap) := (HC.out w0b hba1).cell 3
  have c4 : w0b.cell? ⟨g, 4, none⟩ = some (.slice B al.length bcap) := (HC.out w0b hba1).cell 4
  have c5 : w0b.cell? ⟨g, 5, none⟩ = some (.string s) := (HC.out w0b hba1).cell 5
  go_wp2_with fail
  refine (large_any op now fl vals _ al _ s w0b HPb.out.2.2.1 HPb.out.2.2.2.2.1 hd hs).mono ?_
  rintro e w1 ⟨⟨lb, rfl, _⟩, hb1⟩
  have hba2 := below_step hba1 hb1
  have hbw2 := below_step HBA.out hba2
  clear c0 c1 c2 c3 c4 c5
  rcases lb with _ | _
  rotate_left
  · go_wp2_with fail
    go_ret
    exact ⟨rfl, hbw2⟩
  have V1 := Va.on hba2
  have HP1 := Lib.hid (HP.out.on hba2)
  have c0 : w1.cell? ⟨g, 0, none⟩ = some (.int .i64 op) := (HC.out w1 hba2).cell 0
  have c1 : w1.cell? ⟨g, 1, none⟩ = some (.bool now) := (HC.out w1 hba2).cell 1
  have c2 : w1.cell? ⟨g, 2, none⟩ = some (.int .i64 fl) := (HC.out w1 hba2).cell 2
  have c3 : w1.cell? ⟨g, 3, none⟩ = some (.slice A vals.length cap) := (HC.out w1 hba2).cell 3
  have c4 : w1.cell? ⟨g, 4, none⟩ = some (.slice B al.length bcap) := (HC.out w1 hba2).cell 4
  have c5 : w1.cell? ⟨g, 5, none⟩ = some (.string s) := (HC.out w1 hba2).cell 5
  have hpr := pduRight_any op now fl vals (.slice A vals.length cap) al (.slice B al.length bcap) s w1 h0 hf HP1.out.2.2.1 hvl HP1.out.2.2.2.2.1 hd hs V1.L V1.T V1.S
  obtain ⟨RR, hRR⟩ : ∃ R, pduR op now fl vals al s.size = R := ⟨_, rfl⟩
  rw [hRR] at hpr
  have HRR := Lib.hid hRR
  have HPR := Lib.hid hpr
  clear hRR hpr
  go_wp2_with fail
  refine HPR.out.mono ?_
  rintro e w2 ⟨he, hb2⟩
  have hba3 := below_step hba2 hb2
  have hbw3 := below_step HBA.out hba3
  clear c0 c1 c2 c3 c4 c5
  rcases RR with _ | E
  rotate_left
  · have he' : e = .returned (.iface 64 (.int .i64 E)) := he
    subst he'
    go_wp2_with fail
    go_ret
    exact ⟨rfl, hbw3⟩
  have he' : e = .returned .nilIface := he
  subst he'
  clear he
  have c0 : w2.cell? ⟨g, 0, none⟩ = some (.int .i64 op) := (HC.out w2 hba3).cell 0
  have hret : ∀ W, Below w2.heap.size w2 W → (Ending.returned (.bool true) = .returned (.bool true)) ∧ Below w.heap.size w W := fun W h => ⟨rfl, below_step hbw3 h⟩
  by_cases o0 : op = 0
  · subst o0
    go_wp2_with fail
    go_ret
    exact ⟨rfl, hbw3⟩
  have p0 : (op == 0) = false := by simpa using o0
  by_cases o4 : op = 4
  · subst o4
    go_wp2_with fail
    go_ret
    exact ⟨rfl, hbw3⟩
  have p4 : (op == 4) = false := by simpa using o4
  by_cases o6 : op = 6
  · subst o6
    go_wp2_with fail
    go_ret
    exact ⟨rfl, hbw3⟩
  have p6 : (op == 6) = false := by simpa using o6
  by_cases hd4 : 400 < data.size
  · have hd5 : (400 : Int) < data.size := by omega
    go_wp2_with fail
    go_ret
    exact ⟨rfl, hbw3⟩
  have hd5 : ¬ (400 : Int) < data.size := by omega
  have hkn : known op = false := by unfold known; simp [o0, o4, o6]
  go_wp2_with fail
  refine (conf_any _).mono ?_
  rintro e w3 ⟨⟨tv, pv, uv, ov, rfl, hc3⟩, hb3⟩
  have hba4 := below_step hba3 hb3
  have V3 := Va.on hba4
  clear c0
  go_wp2_with fail
  refine (sessC_any hc3 V3 (Below.refl _ _) [] _ (rd_nil _ _) (fun p hp => by cases hp) (by decide) false 3 8 (by decide) (by decide)).mono ?_
  rintro e w4 ⟨⟨f, S, rfl, hI4, hS4⟩, hb4⟩
  have hba5 := below_step hba4 hb4
  have V4 := V3.on hb4
  have hp4 := HP.out.on hba5
  have hfar : PdFar S (⟨op, now, fl, vals, al, s⟩, ⟨.slice A vals.length cap, .slice B al.length bcap⟩) := PdFar.above (HP.out.on hba4) hS4
  have hwr : wrongP (sessP confC [] false 3 8) ⟨op, now, fl, vals, al, s⟩ = none := by
    unfold wrongP
    rw [if_neg (show ¬ (sessP confC [] false 3 8).closed = true by decide)]
    exact HRR.out
  obtain ⟨_, hright, hssz⟩ := wrong_none hwr
  obtain ⟨rr, n, hrow, hfln, hn, hHS, hH48⟩ := headS_ok (p := ⟨op, now, fl, vals, al, s⟩) hright hf.2
  have hfln : fl = (n : Nat) := hfln
  subst hfln
  have htake := ftake_ok hI4 V3 ((⟨op, now, (n : Nat), vals, al, s⟩ : PD), ⟨.slice A vals.length cap, .slice B al.length bcap⟩) hp4 hfar hwr (fun h => absurd (show op = 4 from h) o4)
  obtain ⟨H, hH⟩ : ∃ H, headS (⟨op, now, (n : Nat), vals, al, s⟩ : PD) = H := ⟨_, rfl⟩
  rw [hH] at htake hH48 hHS
  rw [knows_first _ H hkn] at htake
  have HT := Lib.hid htake
  have HHS := Lib.hid hHS
  have HROW := Lib.hid hrow
  have HRI := Lib.hid hright
  have hgS : g ∉ S := fun hm => by have h1 := hS4 g hm; have h2 := hba4.size; omega
  have c0 : w4.cell? ⟨g, 0, none⟩ = some (.int .i64 op) := (HC.out w4 hba5).cell 0
  have c1 : w4.cell? ⟨g, 1, none⟩ = some (.bool now) := (HC.out w4 hba5).cell 1
  have c2 : w4.cell? ⟨g, 2, none⟩ = some (.int .i64 (n : Nat)) := (HC.out w4 hba5).cell 2
  have c3 : w4.cell? ⟨g, 3, none⟩ = some (.slice A vals.length cap) := (HC.out w4 hba5).cell 3
  have c4 : w4.cell? ⟨g, 4, none⟩ = some (.slice B al.length bcap) := (HC.out w4 hba5).cell 4
  have c5 : w4.cell? ⟨g, 5, none⟩ = some (.string s) := (HC.out w4 hba5).cell 5
  clear htake hwr hH hHS hrow hright
  go_wp2_with fail
  refine HT.out.mono ?_
  rintro e w5 ⟨v, rfl, S', hI5, hN5, hS5, b, hv, rfl, hB5, hbb, hbS, hA5⟩
  obtain ⟨A5, cap5, rfl⟩ := ap_form6 hA5 rfl
  have hb35 : Below w3.heap.size w3 w5 := below_nf hb4 hN5 hS4
  have hbw5 := below_step (below_step HBA.out hba4) hb35
  have V5 := V3.on hb35
  have hG5 : Blk w5 g 46 #[.int .i64 op, .bool now, .int .i64 (n : Nat), .slice A vals.length cap, .slice B al.length bcap, .string s] := (hN5.block g (HC.out w4 hba5).lt hgS).trans (HC.out w4 hba5)
  have hp5 := hp4.nf hN5 hfar
  have hwri := write_ok op now n vals (.slice A vals.length cap) 0 s.size rr w5 h0 hn hp5.2.2.1 hvl V5.T V5.S HROW.out HRI.out (by omega) (by have h : s.size ≤ 100000 := hssz; omega)
  have hwr2 : (⟨(layAll (headB rr.1 now n 0 s.size) rr.2.2.2 vals).toArray⟩ : ByteArray) = H := HHS.out.symm
  rw [hwr2] at hwri
  have HWRI := Lib.hid hwri
  clear c0 c1 c2 c3 c4 c5 hwri hwr2
  have c0 : w5.cell? ⟨g, 0, none⟩ = some (.int .i64 op) := hG5.cell 0
  have c1 : w5.cell? ⟨g, 1, none⟩ = some (.bool now) := hG5.cell 1
  have c2 : w5.cell? ⟨g, 2, none⟩ = some (.int .i64 (n : Nat)) := hG5.cell 2
  have c3 : w5.cell? ⟨g, 3, none⟩ = some (.slice A vals.length cap) := hG5.cell 3
  have c4 : w5.cell? ⟨g, 4, none⟩ = some (.slice B al.length bcap) := hG5.cell 4
  have c5 : w5.cell? ⟨g, 5, none⟩ = some (.string s) := hG5.cell 5
  go_wp2_with fail
  refine HWRI.out.mono ?_
  rintro e w6 ⟨rfl, hb6⟩
  have hB6 := hB5.below hb6 hB5.lt
  have hp6 := (ap_ok hA5 (by show ∀ y ∈ [5, noneN, 3, 8, 39, 0], y < 18446744073709551616; decide) (by show (63 : Nat) ≤ 63; decide) (by show (128 : Nat) ≤ 255; decide) (by show H.size ≤ _; omega)).on hb6
  have hb36 := below_step hb35 hb6
  have V6 := V3.on hb36
  have HW := Lib.hid (fwhat_any _ r63 nRea 5 row63 rfl w6 hp6 V6.T V6.S)
  have hI6 := hI5.on hb6
  clear c0 c1 c2 c3 c4 c5 hp6
  have d0 : w6.cell? ⟨b, 0, none⟩ = some (.int .i64 63) := hB6.cell 0
  have d1 : w6.cell? ⟨b, 1, none⟩ = some (.bool false) := hB6.cell 1
  have d2 : w6.cell? ⟨b, 2, none⟩ = some (.int .i64 128) := hB6.cell 2
  have d3 : w6.cell? ⟨b, 3, none⟩ = some (.slice A5 6 cap5) := hB6.cell 3
  have d4 : w6.cell? ⟨b, 4, none⟩ = some (.slice none 0 0) := hB6.cell 4
  have d5 : w6.cell? ⟨b, 5, none⟩ = some (.string H) := hB6.cell 5
  go_wp2_with fail
  refine HW.out.mono ?_
  rintro e w7 ⟨he7, hb7⟩
  have he8 : e = .returned (.int .u64 5) := he7
  subst he8
  have hB7 := hB6.below hb7 hB6.lt
  have k5 : w7.cell? ⟨b, 5, none⟩ = some (.string H) := hB7.cell 5
  have hI7 := hI6.on hb7
  have hb37 := below_step hb36 hb7
  have V7 := V3.on hb37
  clear he7 d0 d1 d2 d3 d4 d5 hB5 hB6 hB7 hA5
  have hbl8 : Below w7.heap.size w7 ((w7.alloc (.cells #[.string ⟨#[73, 84, 84]⟩, .string ⟨#[84, 84, 84]⟩, .string ⟨#[67, 109, 100, 83, 78]⟩] 9)).alloc (.cells #[.int .u64 1, .int .u64 4294967295, .int .u64 8] 22)) := ((Below.refl _ _).alloc (Nat.le_refl _) _).alloc (by simp) _
  have hnv8 : SRd ((w7.alloc (.cells #[.string ⟨#[73, 84, 84]⟩, .string ⟨#[84, 84, 84]⟩, .string ⟨#[67, 109, 100, 83, 78]⟩] 9)).alloc (.cells #[.int .u64 1, .int .u64 4294967295, .int .u64 8] 22)) (.slice (some ⟨w7.heap.size, 0, none⟩) 3 3) 1 3 ([nITT, nTTT, nCmd].map .string) := SRd.lit5 (n := 3) (Blk.alloc (Blk.new w7 _ _) _)
  have hvv8 : SRd ((w7.alloc (.cells #[.string ⟨#[73, 84, 84]⟩, .string ⟨#[84, 84, 84]⟩, .string ⟨#[67, 109, 100, 83, 78]⟩] 9)).alloc (.cells #[.int .u64 1, .int .u64 4294967295, .int .u64 8] 22)) (.slice (some ⟨w7.heap.size + 1, 0, none⟩) 3 3) 1 3 ([1, noneN, 8].map u64V) := by
    rw [← szA w7 (.cells #[.string ⟨#[73, 84, 84]⟩, .string ⟨#[84, 84, 84]⟩, .string ⟨#[67, 109, 100, 83, 78]⟩] 9)]
    exact SRd.lit5 (n := 3) (Blk.new _ _ _)
  have hreq8 := req_any 0 128 false [nITT, nTTT, nCmd] [1, noneN, 8] _ _ data [0, 1, noneN, 8, 0] _ (make0c (b := 1) (c := noneN) (s := 8) (by decide) (by decide) (by decide)) (by decide) (by decide) hnv8 hvv8 (by decide) (by decide) hz (V7.on hbl8)
  have HREQ8 := Lib.hid hreq8
  have HBL8 := Lib.hid hbl8
  clear hreq8 hnv8 hvv8 hbl8
  go_wp2_with fail
  refine HREQ8.out.mono ?_
  rintro e w8 ⟨⟨u8, he, hp8, hu8⟩, hb8⟩
  obtain ⟨A8, cap8, hu⟩ : ∃ A cap, u8 = .slice A 5 cap := pd_form hp8
  subst hu
  have he' : e = .returned (.tuple #[.agg #[.int .i64 0, .bool false, .int .i64 128, .slice A8 5 cap8, .slice none 0 0, .string data], .bool true]) := he
  subst he'
  have hb8r := below_step HBL8.out hb8
  have hb8a : Below w8.heap.size w8 (w8.alloc (.cells #[.int .i64 0, .bool false, .int .i64 128, .slice A8 5 cap8, .slice none 0 0, .string data] 46)) := (Below.refl _ _).alloc (Nat.le_refl _) _
  have hB8 := Blk.new w8 46 #[.int .i64 0, .bool false, .int .i64 128, .slice A8 5 cap8, .slice none 0 0, .string data]
  obtain ⟨W9, hW9⟩ : ∃ W : World, w8.alloc (.cells #[.int .i64 0, .bool false, .int .i64 128, .slice A8 5 cap8, .slice none 0 0, .string data] 46) = W := ⟨_, rfl⟩
  rw [hW9] at hb8a hB8
  have hb8w := below_step hb8r hb8a
  have hfar8 : PdFar S' ((⟨0, false, 128, [0, 1, noneN, 8, 0], [], data⟩ : PD), reqPart (.slice A8 5 cap8)) := ⟨fun _ k hk hm => by have h1 := hu8 k hk; have h2 := (hI7.lt k hm).1; have h3 := HBL8.out.size; omega, fun hn => absurd (show 0 < 0 from hn) (by decide)⟩
  have hp8 := hp8.on hb8a
  have hwr9 : wrongP (sessP confC [] false 3 8).up (⟨0, false, 128, [0, 1, noneN, 8, 0], [], data⟩ : PD) = none := wrong_ok rfl (right0 (by decide) (by decide) (by decide) (by decide)) rfl (by show data.size ≤ 100000; omega)
  have htake9 := ftake_ok (hI7.on hb8w) V3 ((⟨0, false, 128, [0, 1, noneN, 8, 0], [], data⟩ : PD), reqPart (.slice A8 5 cap8)) hp8 hfar8 hwr9 (fun h => absurd (show (0 : Int) = 4 from h) (by decide))
  rw [knows_then data _ (by omega)] at htake9
  have HT9 := Lib.hid htake9
  have hS37 : ∀ k ∈ S', w3.heap.size ≤ k := fun k hk => (hI7.lt k hk).2
  have l0 : W9.cell? ⟨w8.heap.size, 0, none⟩ = some (.int .i64 0) := hB8.cell 0
  have l1 : W9.cell? ⟨w8.heap.size, 1, none⟩ = some (.bool false) := hB8.cell 1
  have l2 : W9.cell? ⟨w8.heap.size, 2, none⟩ = some (.int .i64 128) := hB8.cell 2
  have l3 : W9.cell? ⟨w8.heap.size, 3, none⟩ = some (.slice A8 5 cap8) := hB8.cell 3
  have l4 : W9.cell? ⟨w8.heap.size, 4, none⟩ = some (.slice none 0 0) := hB8.cell 4
  have l5 : W9.cell? ⟨w8.heap.size, 5, none⟩ = some (.string data) := hB8.cell 5
  clear he htake9 hp8 hfar8 hB8 hu8 hwr9
  go_wp2_with fail
  refine HT9.out.mono ?_
  rintro e w9 ⟨v9, rfl, S9, hI9, hN9, hS9, b9, hv9, rfl, hB9, hbb9, hbS9, hA9⟩
  obtain ⟨A9, cap9, rfl⟩ := ap_form6 hA9 rfl
  have hb39 : Below w3.heap.size w3 w9 := below_nf (below_step hb37 hb8w) hN9 hS37
  have V9 := V3.on hb39
  have hp9 := ap_ok hA9 (by show ∀ y ∈ [0, 1, noneN, 4, 9, 40], y < 18446744073709551616; decide) (by show (32 : Nat) ≤ 63; decide) (by show (128 : Nat) ≤ 255; decide) hz
  have HW9 := Lib.hid (fwhat_any _ r32 nStat 4 row32 rfl w9 hp9 V9.T V9.S)
  clear l0 l1 l2 l3 l4 l5 k5 hp9 hA9
  have m0 : w9.cell? ⟨b9, 0, none⟩ = some (.int .i64 32) := hB9.cell 0
  have m1 : w9.cell? ⟨b9, 1, none⟩ = some (.bool false) := hB9.cell 1
  have m2 : w9.cell? ⟨b9, 2, none⟩ = some (.int .i64 128) := hB9.cell 2
  have m3 : w9.cell? ⟨b9, 3, none⟩ = some (.slice A9 6 cap9) := hB9.cell 3
  have m4 : w9.cell? ⟨b9, 4, none⟩ = some (.slice none 0 0) := hB9.cell 4
  have m5 : w9.cell? ⟨b9, 5, none⟩ = some (.string data) := hB9.cell 5
  go_wp2_with fail
  refine HW9.out.mono ?_
  rintro e w10 ⟨he10, hb10⟩
  have he11 : e = .returned (.int .u64 4) := he10
  subst he11
  go_wp2_with fail
  go_ret
  exact ⟨rfl, below_step (below_step HBA.out hba4) (below_step hb39 hb10)⟩
end Go.Proofs.YtiblbfpgkfopeaaGreatDoor
