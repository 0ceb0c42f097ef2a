/- The walks of NegoOwn and NegoFresh. -/
import Derived.Test.YtadhlnpegigadaaGreatDoorNegoWk
namespace Go.Proofs.YtadhlnpegigadaaGreatDoor
open Go.ChangeShapes Go.WideShapes Go.ChangeAt Go.RowKit Go.Shelf
set_option linter.unusedVariables false
def xkB (n : List UInt8) : ByteArray := ⟨#[88, 45]⟩ ++ (⟨n.toArray⟩ : ByteArray)
theorem xk_list (n : List UInt8) : (xkB n).data.toList = 88 :: 45 :: n := by
  unfold xkB
  rw [ByteArray.toList_data_append]
  rfl
theorem xk_none : ∀ n ∈ namesK, keyRow (88 :: 45 :: n) = none := by decide +kernel
theorem ownL_nil (n : ByteArray) : ownL [] n = dflOf n.data.toList := rfl
theorem dig_nil : digOf [] = 0 := by decide +kernel
theorem nval_none (g : Nat) (S : List Nat) (own rc : PairL) (n : ByteArray) (w : World) (hN : NegoH w S g own rc) (hr : keyRow n.data.toList = none) (V : Env w) : Calls Tryz.prog 40 #[.pointer (some ⟨g, 0, none⟩), .string n] w fun e w' =>
    e = .returned (.tuple #[.string ⟨#[]⟩, .iface 53 (.int .i64 5)]) ∧ Below w.heap.size w w' := by
  refine (nval_any g S own rc n w hN V).mono ?_
  rintro e w' ⟨rfl, hb⟩
  rw [hr]
  exact ⟨rfl, hb⟩
set_option maxRecDepth 20000 in
set_option maxHeartbeats 8000000 in
theorem freshNego (own : PairL) (vo : Value) (which : Int) (w : World) (hv : SRd w vo 2 own.length (pairCells own)) (hd : ∀ p ∈ own, psmall p) (hw : -9223372036854775808 ≤ which ∧ which ≤ 9223372036854775807) (V : Env w) :
    Calls Tryz.prog 12 #[vo, .int .i64 which] w fun e w' => e = .returned (.bool true) ∧ Below w.heap.size w w' := by
  go_enter Tryz.func12, Tryz.ntmps12
  go_wp2_with fail
  refine (settled_fact _ V).mono ?_
  rintro e w1 ⟨rfl, hb1⟩
  have V1 := V.on hb1
  go_wp2_with fail
  refine (keyed_fact _ V1).mono ?_
  rintro e w1b ⟨rfl, hb1b⟩
  have hb1w := below_step hb1 hb1b
  have V1b := V.on hb1w
  go_wp2_with fail
  refine (made_any own _ _ (hv.on hb1w) hd V1b).mono ?_
  rintro e w2 ⟨hm, hb2⟩
  have hb2w := below_step hb1w hb2
  have V2 := V.on hb2w
  have hnm := names_any w2 V2.S
  have hlen : namesK.length = 18 := by decide +kernel
  have HLEN := Lib.hid hlen
  clear hlen
  rcases hm with rfl | ⟨S, g, rfl, hN, hS, hnew⟩
  · go_wp2_with fail
    refine hnm.mono ?_
    rintro e w3 ⟨v, rfl, hv3, hb3⟩
    obtain ⟨A, cap, rfl, _⟩ := hv3.form
    rw [HLEN.out]
    go_wp2_with fail
    go_ret
    exact ⟨rfl, below_step hb2w hb3⟩
  go_wp2_with fail
  refine hnm.mono ?_
  rintro e w3 ⟨v, rfl, hv3, hb3⟩
  have hb3w := below_step hb2w hb3
  have V3 := V.on hb3w
  have hN3 := hN.on hb3
  obtain ⟨A, cap, rfl, _⟩ := hv3.form
  rw [HLEN.out]
  obtain ⟨k, hk, hk18⟩ := pickE which 18 (by omega)
  have hkl : k < namesK.length := by rw [HLEN.out]; exact hk18
  obtain ⟨nm, hnmk⟩ : ∃ x, namesK[k]? = some x := ⟨_, List.getElem?_eq_getElem hkl⟩
  obtain ⟨r, hr, hrn, _, _, hnl⟩ := names_row k nm hnmk
  have hx := xk_none nm (List.mem_of_getElem? hnmk)
  obtain ⟨b, o, rfl, hbl, hcell⟩ := hv3.at hnmk
  obtain ⟨NM, hNM⟩ : ∃ NM : ByteArray, (⟨nm.toArray⟩ : ByteArray) = NM := ⟨_, rfl⟩
  have hNMl : NM.data.toList = nm := by rw [← hNM]
  rw [hNM] at hcell
  obtain ⟨D, hD⟩ : ∃ D, ba (dfl r) = D := ⟨_, rfl⟩
  obtain ⟨X, hX⟩ : ∃ X, xkB nm = X := ⟨_, rfl⟩
  have hxn : keyRow X.data.toList = none := by rw [← hX, xk_list]; exact hx
  have hadd : ∀ (P : Program) (W : World), (Op.stringOp .add ⟨#[88, 45]⟩ NM).run P W = .ok (.string X) W := fun P W => by
    have := run_string_add_sum (P := P) W ⟨#[88, 45]⟩ NM (by show 2 + NM.size ≤ _; rw [← len_of, hNMl]; omega)
    rw [this, ← hX, ← hNM]
    rfl
  have hrNM : keyRow NM.data.toList = some r := by rw [hNMl]; exact hr
  have hDv : ba (ownL [] NM) = D := by rw [ownL_nil, hNMl]; unfold dflOf; rw [hr]; exact hD
  have hkc : (k : Int) < 18 := by omega
  have HK := Lib.hid hk
  have HRN := Lib.hid hrNM
  have HD := Lib.hid hD
  have HDV := Lib.hid hDv
  have HXN := Lib.hid hxn
  have hNMs : NM.size ≤ 30 := by rw [← len_of, hNMl]; exact hnl
  clear hk hkl hnmk hr hrn hx hNM hNMl hX hxn hrNM hDv hD hN hv3 hnl
  go_wp2_with fail
  refine (pickK which 18 k HK.out (by omega) (by omega) _).mono ?_
  rintro e w3' ⟨rfl, rfl⟩
  go_wp2_with fail
  refine (of_some NM r _ D _ _ _ HRN.out rfl HD.out rfl rfl V3.T).mono ?_
  rintro e w4 ⟨rfl, hb4⟩
  have hb4w := below_step hb3w hb4
  have hba : Below w4.heap.size w4 (w4.alloc (.cells #[.string ⟨r.name.toArray⟩, .int .i64 r.kind, .int .i64 r.low, .int .i64 r.high, .string D, .bool r.noth, .bool r.lonly] 58)) := (Below.refl _ _).alloc (Nat.le_refl _) _
  have hBk := Blk.new w4 58 #[.string ⟨r.name.toArray⟩, .int .i64 r.kind, .int .i64 r.low, .int .i64 r.high, .string D, .bool r.noth, .bool r.lonly]
  obtain ⟨z, hz⟩ : ∃ z, w4.heap.size = z := ⟨_, rfl⟩
  rw [hz] at hBk
  have hb5w := below_step hb4w hba
  have hN5 := (hN3.on hb4).on hba
  have V5 := V.on hb5w
  clear hN3 hcell
  go_wp2_with fail
  refine (nval_some g S own [] NM D r _ hN5 HRN.out HDV.out V5).mono ?_
  rintro e w6 ⟨rfl, hb6⟩
  have hb6w := below_step hb5w hb6
  have hN6 := hN5.on hb6
  have V6 := V.on hb6w
  have hBk6 := hBk.below hb6 hBk.lt
  clear hN5 hBk
  go_wp2_with fail
  refine (nval_none g S own [] X _ hN6 HXN.out V6).mono ?_
  rintro e w7 ⟨rfl, hb7⟩
  have hb7w := below_step hb6w hb7
  have hN7 := hN6.on hb7
  have V7 := V.on hb7w
  have hBk7 := hBk6.below hb7 hBk6.lt
  have k4 := hBk7.cell 4
  clear hN6 hBk6
  go_wp2_with fail
  refine (tell_errno 5 _ V7.L).mono ?_
  rintro e w8 ⟨rfl, hb8⟩
  have hb8w := below_step hb7w hb8
  have hN8 := hN7.on hb8
  have V8 := V.on hb8w
  clear hN7 hBk7 k4
  go_wp2_with fail
  refine (nrec_any g S own [] _ hN8 (by simp)).mono ?_
  rintro e w9 ⟨v9, rfl, hr9, hb9⟩
  have hb9w := below_step hb8w hb9
  have hN9 := hN8.on hb9
  have V9 := V.on hb9w
  obtain ⟨A9, cap9, rfl, _⟩ := hr9.form
  have hdg := ndig_any g S own [] _ hN9 V9
  rw [dig_nil] at hdg
  clear hN8 hN9 hr9
  go_wp2_with fail
  refine hdg.mono ?_
  rintro e w10 ⟨rfl, hb10⟩
  go_wp2_with fail
  go_ret
  exact ⟨rfl, below_step hb9w hb10⟩
theorem own_case (own : PairL) (n : ByteArray) (r : KeyR) (hr : keyRow n.data.toList = some r) : ∃ x b, getE (findB own n) = x ∧ (findB own n).isSome = b ∧ ((b = true ∧ ba (ownL own n) = x) ∨ (b = false ∧ ba (ownL own n) = ba (dfl r))) := by
  refine ⟨_, _, rfl, rfl, ?_⟩
  unfold ownL
  rcases hf : findB own n with _ | q
  · refine .inr ⟨rfl, ?_⟩
    unfold dflOf
    rw [hr]
  · refine .inl ⟨rfl, ?_⟩
    simp only
    rw [ba_of]
    rfl
set_option maxRecDepth 20000 in
set_option maxHeartbeats 8000000 in
theorem ownNego (own : PairL) (vo : Value) (off : PairL) (vf : Value) (which : Int) (w : World) (hv : SRd w vo 2 own.length (pairCells own)) (hd : ∀ p ∈ own, psmall p) (hv2 : SRd w vf 2 off.length (pairCells off)) (hd2 : ∀ p ∈ off, psmall p) (hw : -9223372036854775808 ≤ which ∧ which ≤ 9223372036854775807) (V : Env w) :
    Calls Tryz.prog 11 #[vo, vf, .int .i64 which] w fun e w' => e = .returned (.bool true) ∧ Below w.heap.size w w' := by
  go_enter Tryz.func11, Tryz.ntmps11
  go_wp2_with fail
  refine (settled_fact _ V).mono ?_
  rintro e w1 ⟨rfl, hb1⟩
  have V1 := V.on hb1
  go_wp2_with fail
  refine (keyed_fact _ V1).mono ?_
  rintro e w1b ⟨rfl, hb1b⟩
  have hb1w := below_step hb1 hb1b
  have V1b := V.on hb1w
  go_wp2_with fail
  refine (made_any own _ _ (hv.on hb1w) hd V1b).mono ?_
  rintro e w2 ⟨hm, hb2⟩
  have hb2w := below_step hb1w hb2
  have V2 := V.on hb2w
  have hnm := names_any w2 V2.S
  have hlen : namesK.length = 18 := by decide +kernel
  have HLEN := Lib.hid hlen
  clear hlen
  rcases hm with rfl | ⟨S, g, rfl, hN, hS, hnew⟩
  · go_wp2_with fail
    refine hnm.mono ?_
    rintro e w3 ⟨v, rfl, hv3, hb3⟩
    obtain ⟨A, cap, rfl, _⟩ := hv3.form
    rw [HLEN.out]
    go_wp2_with fail
    go_ret
    exact ⟨rfl, below_step hb2w hb3⟩
  have hS0 : ∀ k ∈ S, w.heap.size ≤ k := fun k hk => Nat.le_trans hb1w.size (hS k hk)
  go_wp2_with fail
  refine hnm.mono ?_
  rintro e w3 ⟨v, rfl, hv3, hb3⟩
  have hb3w := below_step hb2w hb3
  have hN3 := hN.on hb3
  obtain ⟨A, cap, rfl, _⟩ := hv3.form
  rw [HLEN.out]
  go_wp2_with fail
  refine (thick_any off _ _ (hv2.on hb3w) hd2).mono ?_
  rintro e w4 ⟨b0, rfl, hb4⟩
  have hb4w := below_step hb3w hb4
  have hN4 := hN3.on hb4
  rcases b0 with _ | _
  rotate_left
  · go_wp2_with fail
    go_ret
    exact ⟨rfl, hb4w⟩
  obtain ⟨k, hk, hk18⟩ := pickE which 18 (by omega)
  have hkl : k < namesK.length := by rw [HLEN.out]; exact hk18
  obtain ⟨nm, hnmk⟩ : ∃ x, namesK[k]? = some x := ⟨_, List.getElem?_eq_getElem hkl⟩
  obtain ⟨r, hr, hrn, _, _, hnl⟩ := names_row k nm hnmk
  obtain ⟨b, o, rfl, hbl, hcell⟩ := (WRd.on hv3 hb4).at hnmk
  obtain ⟨NM, hNM⟩ : ∃ NM : ByteArray, (⟨nm.toArray⟩ : ByteArray) = NM := ⟨_, rfl⟩
  have hNMl : NM.data.toList = nm := by rw [← hNM]
  rw [hNM] at hcell
  have hrNM : keyRow NM.data.toList = some r := by rw [hNMl]; exact hr
  obtain ⟨x, bo, hx, hbo, hcase⟩ := own_case own NM r hrNM
  obtain ⟨D, hD⟩ : ∃ D, ba (dfl r) = D := ⟨_, rfl⟩
  obtain ⟨O, hO⟩ : ∃ O, ba (ownL own NM) = O := ⟨_, rfl⟩
  rw [hD, hO] at hcase
  have hkc : (k : Int) < 18 := by omega
  have HK := Lib.hid hk
  have HRN := Lib.hid hrNM
  have HD := Lib.hid hD
  have HO := Lib.hid hO
  have HX := Lib.hid hx
  have HBO := Lib.hid hbo
  have HCASE := Lib.hid hcase
  have V4 := V.on hb4w
  clear hk hkl hnmk hr hrn hNM hNMl hrNM hD hO hx hbo hcase hN hN3 hv3 hnl
  go_wp2_with fail
  refine (pickK which 18 k HK.out (by omega) (by omega) _).mono ?_
  rintro e w4' ⟨rfl, rfl⟩
  go_wp2_with fail
  refine (nown_some g S own [] NM O r _ hN4 HRN.out HO.out V4).mono ?_
  rintro e w5 ⟨rfl, hb5⟩
  have hb5w := below_step hb4w hb5
  have hN5 := hN4.on hb5
  clear hN4 hcell
  go_wp2_with fail
  refine (ans_arg g S own [] off true false _ w w5 V hb5w hN5 hS0 hv2 hd2 hnew (by simp) (.inl rfl)).mono ?_
  rintro e w6 he
  have hfin : ∃ S4 R4 x4 y4, e = .returned (.tuple #[x4, y4]) ∧ NegoH w6 S4 g own R4 ∧ Below w.heap.size w w6 := by
    rcases hE : ansE [] off true with _ | E
    · rw [hE] at he
      obtain ⟨S4, u, rfl, hu, hN4, hnf, hS4, _⟩ := he
      exact ⟨S4, _, _, _, rfl, hN4, (ans_after hb5w hS0 hnf hS4).1⟩
    · rw [hE] at he
      obtain ⟨⟨t, x, rfl, _⟩, hb4⟩ := he
      exact ⟨S, _, _, _, rfl, hN5.on hb4, below_step hb5w hb4⟩
  obtain ⟨S6, R6, x6, y6, rfl, hN6, hb6w⟩ := hfin
  have V6 := V.on hb6w
  clear he hN5
  go_wp2_with fail
  refine (nown_some g S6 own R6 NM O r _ hN6 HRN.out HO.out V6).mono ?_
  rintro e w7 ⟨rfl, hb7⟩
  have hb7w := below_step hb6w hb7
  have V7 := V.on hb7w
  clear hN6
  go_wp2_with fail
  refine (of_some NM r _ D _ _ _ HRN.out rfl HD.out rfl rfl V7.T).mono ?_
  rintro e w8 ⟨rfl, hb8⟩
  have hb8w := below_step hb7w hb8
  have hba : Below w8.heap.size w8 (w8.alloc (.cells #[.string ⟨r.name.toArray⟩, .int .i64 r.kind, .int .i64 r.low, .int .i64 r.high, .string D, .bool r.noth, .bool r.lonly] 58)) := (Below.refl _ _).alloc (Nat.le_refl _) _
  have hBk := Blk.new w8 58 #[.string ⟨r.name.toArray⟩, .int .i64 r.kind, .int .i64 r.low, .int .i64 r.high, .string D, .bool r.noth, .bool r.lonly]
  obtain ⟨z, hz⟩ : ∃ z, w8.heap.size = z := ⟨_, rfl⟩
  rw [hz] at hBk
  have hb9w := below_step hb8w hba
  have hf := find_two own vo NM x bo _ (hv.on hb9w) HX.out HBO.out
  go_wp2_with fail
  refine hf.mono ?_
  rintro e w9 ⟨rfl, hb9⟩
  have hb10w := below_step hb9w hb9
  have hBk9 := hBk.below hb9 hBk.lt
  have k4 := hBk9.cell 4
  clear hBk hf
  rcases HCASE.out with ⟨h1, h2⟩ | ⟨h1, h2⟩
  · subst h1
    subst h2
    go_wp2_with fail
    go_ret
    exact ⟨rfl, hb10w⟩
  · subst h1
    subst h2
    go_wp2_with fail
    go_ret
    exact ⟨rfl, hb10w⟩
end Go.Proofs.YtadhlnpegigadaaGreatDoor
