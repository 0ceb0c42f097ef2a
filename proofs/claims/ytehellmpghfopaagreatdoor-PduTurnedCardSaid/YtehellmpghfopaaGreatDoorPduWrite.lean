/- The contract of pdu.Write. -/
import Derived.Test.YtehellmpghfopaaGreatDoorPdu
namespace Go.Proofs.YtehellmpghfopaaGreatDoor
open Go.ChangeShapes Go.WideShapes Go.ChangeAt Go.RowKit Go.Shelf
set_option linter.unusedVariables false
def hdM (k : Nat) : Bool := decide (k % 2 = 1)
def ddM (k : Nat) : Bool := decide (2 ≤ k)
theorem and_1 : ∀ k : Fin 4, bits .and .i64 (k.val : Int) 1 = if hdM k.val then 1 else 0 := by decide +kernel
theorem and_2 : ∀ k : Fin 4, bits .and .i64 (k.val : Int) 2 = if ddM k.val then 2 else 0 := by decide +kernel
theorem of_list (x : ByteArray) (l : List UInt8) (h : x.data.toList = l) : x = ⟨l.toArray⟩ := by subst h; simp
theorem cat_l (s t : ByteArray) : (s ++ t).data.toList = s.data.toList ++ t.data.toList := by rw [cat_of]
theorem modes_any (k : Nat) (hk : k < 4) (w : World) : Calls Tryz.prog 36 #[.int .i64 k] w fun e w' => e = .returned (.bool true) ∧ w = w' := by
  go_enter Tryz.func36, Tryz.ntmps36
  go_wp2_with fail
  go_ret
  exact ⟨by simp; omega, rfl⟩
set_option maxRecDepth 20000 in
set_option maxHeartbeats 2000000 in
theorem pduWrite_bad (op : Int) (now : Bool) (fl : Int) (vals : List Nat) (v : Value) (l : AhsL) (av : Value) (s : ByteArray) (k : Nat) (c : Nat) (w : World) (hk : k < 4) (hr : pduR op now fl vals l s.size = some c) (h0 : -9223372036854775808 ≤ op ∧ op ≤ 9223372036854775807) (hf : -9223372036854775808 ≤ fl ∧ fl ≤ 9223372036854775807) (hv : SRd w v 1 vals.length (vals.map u64V)) (hl : ∀ x ∈ vals, x < 18446744073709551616)
    (ha : SRd w av 2 l.length (ahsCells l)) (hd : ∀ p ∈ l, p.2.size ≤ 140737488351232) (hs : s.size ≤ 140737488351232) (hL : LaidE w) (T : Tabs w) (hS : w.ShapedOpen Tryz.prog) :
    Calls Tryz.prog 16 #[.agg #[.int .i64 op, .bool now, .int .i64 fl, v, av, .string s], .int .i64 k] w fun e w' => e = .returned (.tuple #[.string ⟨#[]⟩, .iface 43 (.int .i64 c)]) ∧ Below w.heap.size w w' := by
  obtain ⟨A, cap, rfl⟩ : ∃ A cap, v = .slice A vals.length cap := by obtain ⟨_, A, cap, hv, _⟩ := hv; exact ⟨A, cap, hv⟩
  obtain ⟨B, bcap, rfl⟩ : ∃ A cap, av = .slice A l.length cap := by obtain ⟨_, A, cap, hv, _⟩ := ha; exact ⟨A, cap, hv⟩
  have hb0 : Below w.heap.size w (w.alloc (.cells #[.int .i64 op, .bool now, .int .i64 fl, .slice A vals.length cap, .slice B l.length bcap, .string s] 27)) := (Below.refl _ _).alloc (Nat.le_refl _) _
  go_enter Tryz.func16, Tryz.ntmps16
  go_wp2_with fail
  refine (modes_any k hk _).mono ?_
  rintro e w' ⟨rfl, rfl⟩
  go_wp2_with fail
  refine (pduRight_any op now fl vals _ l _ s _ h0 hf (hv.on hb0) hl (ha.on hb0) hd hs (hL.on hb0) (T.on hb0) (shaped_ons hS hb0)).mono ?_
  rintro e w1 ⟨rfl, hb1⟩
  rw [hr]
  unfold codeV
  go_wp2_with fail
  go_ret2
  exact ⟨rfl, below_step hb0 hb1⟩
set_option maxRecDepth 20000 in
set_option maxHeartbeats 2000000 in
theorem pduWrite_ok (op : Int) (now : Bool) (F : Nat) (vals : List Nat) (v : Value) (l : AhsL) (av : Value) (s : ByteArray) (k : Nat) (r : HeadR) (w : World) (hk : k < 4) (hrow : headRow op = some r) (hF : F < 256) (h1 : rightR op now F vals = none) (h2 : rightGo l 0 0 = none) (hsz : s.size ≤ 100000) (h0 : -9223372036854775808 ≤ op ∧ op ≤ 9223372036854775807) (hv : SRd w v 1 vals.length (vals.map u64V)) (hl : ∀ x ∈ vals, x < 18446744073709551616)
    (ha : SRd w av 2 l.length (ahsCells l)) (hd : ∀ p ∈ l, p.2.size ≤ 140737488351232) (hL : LaidE w) (T : Tabs w) (hS : w.ShapedOpen Tryz.prog) :
    Calls Tryz.prog 16 #[.agg #[.int .i64 op, .bool now, .int .i64 F, v, av, .string s], .int .i64 k] w fun e w' =>
      e = .returned (.tuple #[.string ⟨(pduB (layAll (headB r.1 now F ((ahsB l).length / 4) s.size) r.2.2.2 vals) (ahsB l) s.data.toList (hdM k) (ddM k)).toArray⟩, .nilIface]) ∧ Below w.heap.size w w' := by
  obtain ⟨A, cap, rfl⟩ : ∃ A cap, v = .slice A vals.length cap := by obtain ⟨_, A, cap, hv, _⟩ := hv; exact ⟨A, cap, hv⟩
  obtain ⟨B, bcap, rfl⟩ : ∃ A cap, av = .slice A l.length cap := by obtain ⟨_, A, cap, hv, _⟩ := ha; exact ⟨A, cap, hv⟩
  obtain ⟨q, hq⟩ : ∃ q, (ahsB l).length / 4 = q := ⟨_, rfl⟩
  rw [hq]
  have HQ := Lib.hid hq
  clear hq
  obtain ⟨g, hg⟩ : ∃ g, w.heap.size = g := ⟨_, rfl⟩
  have hB0 := Blk.new w 27 #[.int .i64 op, .bool now, .int .i64 F, .slice A vals.length cap, .slice B l.length bcap, .string s]
  have hb0 : Below w.heap.size w (w.alloc (.cells #[.int .i64 op, .bool now, .int .i64 F, .slice A vals.length cap, .slice B l.length bcap, .string s] 27)) := (Below.refl _ _).alloc (Nat.le_refl _) _
  have hR : pduR op now F vals l s.size = none := by rw [pduR, h1]; simp only; rw [h2]; simp only; rw [if_neg (by omega)]
  have hmore := right_none l 0 0 (by omega) h2
  have hml := ahsB_len l
  have hmod := sumLen_mod l
  have ham := and_1 ⟨k, hk⟩
  have hbm := and_2 ⟨k, hk⟩
  simp only at ham hbm
  go_enter Tryz.func16, Tryz.ntmps16
  go_wp2_with fail
  obtain ⟨w0, hw0⟩ : ∃ w0 : World, w.alloc (.cells #[.int .i64 op, .bool now, .int .i64 F, .slice A vals.length cap, .slice B l.length bcap, .string s] 27) = w0 := ⟨_, rfl⟩
  rw [hw0] at hb0 hB0 ⊢
  clear hw0
  rw [hg] at hB0
  try rw [hg]
  have hgl := hB0.lt
  refine (modes_any k hk _).mono ?_
  rintro e w' ⟨rfl, rfl⟩
  have c0 := hB0.cell 0
  have c1 := hB0.cell 1
  have c2 := hB0.cell 2
  have c3 := hB0.cell 3
  have c4 := hB0.cell 4
  have c5 := hB0.cell 5
  go_wp2_with fail
  refine (pduRight_any op now F vals _ l _ s _ h0 (by omega) (hv.on hb0) hl (ha.on hb0) hd (by omega) (hL.on hb0) (T.on hb0) (shaped_ons hS hb0)).mono ?_
  rintro e w1 ⟨rfl, hb1⟩
  rw [hR]
  unfold codeV
  have hbw1 := below_step hb0 hb1
  have hB1 := hB0.below hb1 hgl
  have c0 := hB1.cell 0
  have c1 := hB1.cell 1
  have c2 := hB1.cell 2
  have c3 := hB1.cell 3
  have c4 := hB1.cell 4
  have c5 := hB1.cell 5
  go_wp2_with fail
  refine (ahsWrite_ok l _ _ ((ha.on hbw1)) hd h2).mono ?_
  rintro e w2 ⟨rfl, hb2⟩
  have hbw2 := below_step hbw1 hb2
  have hB2 := hB1.below hb2 hB1.lt
  have c0 := hB2.cell 0
  have c1 := hB2.cell 1
  have c2 := hB2.cell 2
  have c3 := hB2.cell 3
  have c5 := hB2.cell 5
  obtain ⟨M, hM⟩ : ∃ M : ByteArray, (⟨(ahsB l).toArray⟩ : ByteArray) = M := ⟨_, rfl⟩
  have hMz : M.size = sumLen l := by rw [← hM, size_mkl, hml]
  rw [hM]
  have HM := Lib.hid hM
  clear hM hb1 hb2
  have hqv : ((sumLen l : Nat) : Int) / 4 = ((q : Nat) : Int) := by rw [← HQ.out, hml]; omega
  have hq2 : q < 256 := by have := HQ.out; omega
  go_wp2_with fail
  refine (write_ok op now F vals _ q s.size r _ h0 hF (hv.on hbw2) hl (T.on hbw2) (shaped_ons hS hbw2) hrow h1 hq2 (by omega)).mono ?_
  rintro e w3 ⟨rfl, hb3⟩
  have hbw3 := below_step hbw2 hb3
  have hB3 := hB2.below hb3 hB2.lt
  have c5 := hB3.cell 5
  obtain ⟨HB, hHB⟩ : ∃ HB, layAll (headB r.1 now F q s.size) r.2.2.2 vals = HB := ⟨_, rfl⟩
  have hHl : HB.length = 48 := by rw [← hHB]; exact layAll_len r.2.2.2 vals _ (headT_ok r (headRow_mem hrow)) rfl
  rw [hHB]
  obtain ⟨S, hSS⟩ : ∃ S : ByteArray, (⟨HB.toArray⟩ : ByteArray) = S := ⟨_, rfl⟩
  have hSz : S.size = 48 := by rw [← hSS, size_mkl, hHl]
  rw [hSS]
  have HS := Lib.hid hSS
  have HHB := Lib.hid hHB
  clear hSS hb3 hHB
  rcases hhd : hdM k with _ | _
  all_goals
    rw [hhd] at ham
    simp only [if_true, if_false, Bool.false_eq_true] at ham
  · go_wp2_with fail
    obtain ⟨O, hO⟩ : ∃ O : ByteArray, S ++ M = O := ⟨_, rfl⟩
    have hOl : O.data.toList = HB ++ (ahsB l ++ dg4 false (HB ++ ahsB l)) := by rw [← hO, cat_of, ← HS.out, ← HM.out]; simp [dg4]
    rw [hO]
    have HOL := Lib.hid hOl
    have hOz : O.size = 48 + sumLen l := by rw [← hO]; simp; omega
    have hbw4 := hbw3
    clear hO hOl
    refine (padded_any s _ (by omega)).mono ?_
    rintro e w' ⟨rfl, rfl⟩
    obtain ⟨P, hP⟩ : ∃ P : ByteArray, (⟨(padded s.data.toList).toArray⟩ : ByteArray) = P := ⟨_, rfl⟩
    have hPl : P.data.toList = padded s.data.toList := by rw [← hP]
    have hPz : P.size = s.size + padN s.size := by rw [← hP, size_mkl, padded_len, len_of]
    have hpd := padI_rng s.size
    unfold padN at hPz
    rw [hP]
    have HPL := Lib.hid hPl
    clear hPl hP
    rcases hdd : ddM k with _ | _
    all_goals
      rw [hdd] at hbm
      simp only [if_true, if_false, Bool.false_eq_true] at hbm
    · go_wp2_with fail
      go_ret2
      refine ⟨congrArg (fun x : ByteArray => Ending.returned (.tuple #[.string x, .nilIface])) (of_list (O ++ P) _ ?_), hbw4⟩
      rw [cat_l, HOL.out, HPL.out]
      rw [HHB.out, hhd, hdd]
      simp [pduB, dg4]
    · by_cases hs0 : s.size = 0
      · have hP0 : P.toList = [] := by rw [← List.length_eq_zero_iff, toList_of, len_of]; rw [hs0] at hPz; simpa [padI] using hPz
        have hP1 : P.toList.isEmpty = true := by rw [hP0]; rfl
        go_wp2_with fail
        go_ret2
        refine ⟨congrArg (fun x : ByteArray => Ending.returned (.tuple #[.string x, .nilIface])) (of_list (O ++ P) _ ?_), hbw4⟩
        have hsl : s.data.toList.length = 0 := by rw [len_of, hs0]
        rw [cat_l, HOL.out, HPL.out]
        rw [HHB.out, hhd, hdd]
        unfold pduB
        rw [hsl]
        simp [dg4]
      · have hP0 : ¬ P.toList = [] := by rw [← List.length_eq_zero_iff, toList_of, len_of]; omega
        have hP1 : P.toList.isEmpty = false := by simpa using hP0
        go_wp2_with fail
        refine (digest_any P _ (by omega)).mono ?_
        rintro e w5 ⟨rfl, hb5⟩
        rw [HPL.out]
        obtain ⟨D2, hD2⟩ : ∃ D : ByteArray, (⟨(digB (crcN (padded s.data.toList))).toArray⟩ : ByteArray) = D := ⟨_, rfl⟩
        rw [hD2]
        have hD2l : D2.data.toList = dg4 true (padded s.data.toList) := by rw [← hD2]; rfl
        have hD2z : D2.size = 4 := by rw [← hD2]; rfl
        have HD2L := Lib.hid hD2l
        have hslp : 0 < s.data.toList.length := by rw [len_of]; omega
        have HSP := Lib.hid hslp
        have hbw5 := below_step hbw4 hb5
        clear hD2 hD2l hslp hb5
        go_wp2_with fail
        go_ret2
        refine ⟨congrArg (fun x : ByteArray => Ending.returned (.tuple #[.string x, .nilIface])) (of_list (O ++ P ++ D2) _ ?_), hbw5⟩
        rw [cat_l, cat_l, HOL.out, HPL.out, HD2L.out]
        rw [HHB.out, hhd, hdd]
        unfold pduB
        rw [decide_eq_true HSP.out]
        simp
  · go_wp2_with fail
    refine (digest_any (S ++ M) _ (by simp; omega)).mono ?_
    rintro e w4 ⟨rfl, hb4⟩
    have hbw4 := below_step hbw3 hb4
    have hB4 := hB3.below hb4 hB3.lt
    have c5 := hB4.cell 5
    have hSM : (S ++ M).data.toList = HB ++ ahsB l := by rw [cat_of, ← HS.out, ← HM.out]
    rw [hSM]
    obtain ⟨D, hD⟩ : ∃ D : ByteArray, (⟨(digB (crcN (HB ++ ahsB l))).toArray⟩ : ByteArray) = D := ⟨_, rfl⟩
    rw [hD]
    have hDl : D.data.toList = dg4 true (HB ++ ahsB l) := by rw [← hD]; rfl
    have HDL := Lib.hid hDl
    have hDz : D.size = 4 := by rw [← hD]; rfl
    have HSM := Lib.hid hSM
    clear hD hDl hSM hb4
    go_wp2_with fail
    obtain ⟨O, hO⟩ : ∃ O : ByteArray, S ++ M ++ D = O := ⟨_, rfl⟩
    have hOl : O.data.toList = HB ++ (ahsB l ++ dg4 true (HB ++ ahsB l)) := by rw [← hO, cat_of, HSM.out, HDL.out, List.append_assoc]
    try rw [hO]
    have HOL := Lib.hid hOl
    have hOz : O.size = 48 + sumLen l + 4 := by rw [← hO]; simp; omega
    clear hO hOl
    refine (padded_any s _ (by omega)).mono ?_
    rintro e w' ⟨rfl, rfl⟩
    obtain ⟨P, hP⟩ : ∃ P : ByteArray, (⟨(padded s.data.toList).toArray⟩ : ByteArray) = P := ⟨_, rfl⟩
    have hPl : P.data.toList = padded s.data.toList := by rw [← hP]
    have hPz : P.size = s.size + padN s.size := by rw [← hP, size_mkl, padded_len, len_of]
    have hpd := padI_rng s.size
    unfold padN at hPz
    rw [hP]
    have HPL := Lib.hid hPl
    clear hPl hP
    rcases hdd : ddM k with _ | _
    all_goals
      rw [hdd] at hbm
      simp only [if_true, if_false, Bool.false_eq_true] at hbm
    · go_wp2_with fail
      go_ret2
      refine ⟨congrArg (fun x : ByteArray => Ending.returned (.tuple #[.string x, .nilIface])) (of_list (O ++ P) _ ?_), hbw4⟩
      rw [cat_l, HOL.out, HPL.out]
      rw [HHB.out, hhd, hdd]
      simp [pduB, dg4]
    · by_cases hs0 : s.size = 0
      · have hP0 : P.toList = [] := by rw [← List.length_eq_zero_iff, toList_of, len_of]; rw [hs0] at hPz; simpa [padI] using hPz
        have hP1 : P.toList.isEmpty = true := by rw [hP0]; rfl
        go_wp2_with fail
        go_ret2
        refine ⟨congrArg (fun x : ByteArray => Ending.returned (.tuple #[.string x, .nilIface])) (of_list (O ++ P) _ ?_), hbw4⟩
        have hsl : s.data.toList.length = 0 := by rw [len_of, hs0]
        rw [cat_l, HOL.out, HPL.out]
        rw [HHB.out, hhd, hdd]
        unfold pduB
        rw [hsl]
        simp [dg4]
      · have hP0 : ¬ P.toList = [] := by rw [← List.length_eq_zero_iff, toList_of, len_of]; omega
        have hP1 : P.toList.isEmpty = false := by simpa using hP0
        go_wp2_with fail
        refine (digest_any P _ (by omega)).mono ?_
        rintro e w5 ⟨rfl, hb5⟩
        rw [HPL.out]
        obtain ⟨D2, hD2⟩ : ∃ D : ByteArray, (⟨(digB (crcN (padded s.data.toList))).toArray⟩ : ByteArray) = D := ⟨_, rfl⟩
        rw [hD2]
        have hD2l : D2.data.toList = dg4 true (padded s.data.toList) := by rw [← hD2]; rfl
        have hD2z : D2.size = 4 := by rw [← hD2]; rfl
        have HD2L := Lib.hid hD2l
        have hslp : 0 < s.data.toList.length := by rw [len_of]; omega
        have HSP := Lib.hid hslp
        have hbw5 := below_step hbw4 hb5
        clear hD2 hD2l hslp hb5
        go_wp2_with fail
        go_ret2
        refine ⟨congrArg (fun x : ByteArray => Ending.returned (.tuple #[.string x, .nilIface])) (of_list (O ++ P ++ D2) _ ?_), hbw5⟩
        rw [cat_l, cat_l, HOL.out, HPL.out, HD2L.out]
        rw [HHB.out, hhd, hdd]
        unfold pduB
        rw [decide_eq_true HSP.out]
        simp
end Go.Proofs.YtehellmpghfopaaGreatDoor
