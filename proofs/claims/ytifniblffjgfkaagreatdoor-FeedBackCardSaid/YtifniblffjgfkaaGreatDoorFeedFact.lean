/- The fact fed. -/
import Derived.Test.YtifniblffjgfkaaGreatDoorFeedAll
import Derived.Test.YtifniblffjgfkaaGreatDoorFeedBackP
import Derived.Test.YtifniblffjgfkaaGreatDoorFeedSame
namespace Go.Proofs.YtifniblffjgfkaaGreatDoor
open Go.ChangeShapes Go.WideShapes Go.ChangeAt Go.RowKit Go.Shelf
set_option linter.unusedVariables false
theorem nop_right : ∃ r, headRow 0 = some r ∧ r.1 = 0 ∧ PduR r true 128 nopL [] helloB := by
  obtain ⟨r, hr, hrr, hlay, hE, hV⟩ := nop_facts
  have hr0 : r.1 = 0 := by have := headRow_op hr; omega
  exact ⟨r, hr, hr0, by rw [hr0]; exact hr, by decide, by decide, by rw [hr0]; exact hrr, rfl, by decide⟩
set_option maxRecDepth 20000 in
set_option maxHeartbeats 2000000 in
theorem fed_fact (w : World) (hL : LaidE w) (T : Tabs w) (hS : w.ShapedOpen Tryz.prog) : Calls Tryz.prog 13 #[] w fun e w' => e = .returned (.bool true) ∧ Below w.heap.size w w' := by
  obtain ⟨r, hr, hr0, hR⟩ := nop_right
  have hlen := PB_len r true 128 nopL [] helloB 0 hR.row
  obtain ⟨P, hP⟩ : ∃ P, PB r true 128 nopL [] helloB 0 = P := ⟨_, rfl⟩
  have hn1 := next_part hR 100 0 50 (by decide) (by rw [hlen]; decide)
  have hn2 := all_back hR 100 0 [120] (by decide)
  rw [hP] at hn1 hn2 hlen
  rw [allF_no (show nextP 100 (hdM 0) (ddM 0) [120] = .no from rfl)] at hn2
  have hPz : P.length = 56 := by rw [hlen]; rfl
  obtain ⟨W, hW⟩ : ∃ W : ByteArray, (⟨P.toArray⟩ : ByteArray) = W := ⟨_, rfl⟩
  have hWl : W.data.toList = P := by rw [← hW]
  have hWz : W.size = 56 := by rw [← len_of, hWl, hPz]
  obtain ⟨X, hX⟩ : ∃ X : ByteArray, W.extract 0 50 = X := ⟨_, rfl⟩
  have hXl : X.data.toList = P.take 50 := by rw [← hX, take_ext, hWl]
  have hXz : X.size = 50 := by rw [← len_of, hXl, List.length_take]; omega
  obtain ⟨Y, hY⟩ : ∃ Y : ByteArray, W.extract 50 W.size ++ ⟨#[120]⟩ = Y := ⟨_, rfl⟩
  have hYl : Y.data.toList = P.drop 50 ++ [120] := by
    rw [← hY, cat_l, ext_of, hWl]
    show List.take _ _ ++ _ = _
    rw [List.take_of_length_le (by rw [List.length_drop]; omega)]
  have hYz : Y.size = 7 := by rw [← len_of, hYl]; simp; omega
  have hXY : (X ++ Y).data.toList = P ++ [120] := by rw [cat_l, hXl, hYl, ← List.append_assoc, List.take_append_drop]
  rw [← hXl] at hn1
  rw [← hXY] at hn2
  have HR := Lib.hid hr
  have HR0 := Lib.hid hr0
  have HRR := Lib.hid hR
  have HN1 := Lib.hid hn1
  have HN2 := Lib.hid hn2
  have HP := Lib.hid hP
  have HW := Lib.hid hW
  have HX := Lib.hid hX
  have HY := Lib.hid hY
  have HXZ := Lib.hid hXz
  have HYZ := Lib.hid hYz
  have HWZ := Lib.hid hWz
  have hW50 : (50 : Int) ≤ W.size := by omega
  have hWb : W.size ≤ 1000 := by omega
  have hWd : decide ((W.size : Int) < 50) = false := by simp; omega
  clear hr hr0 hlen hR hn1 hn2 hP hPz hW hWl hX hXl hY hYl hXY hXz hYz hWz
  go_enter Tryz.func13, Tryz.ntmps13
  go_wp2_with fail
  refine (fnew_ok 100 w (by omega)).mono ?_
  rintro e w1 ⟨rfl, hF1, hb1⟩
  obtain ⟨G, hG⟩ : ∃ G, w.heap.size = G := ⟨_, rfl⟩
  rw [hG] at hF1
  rw [hG]
  go_wp2_with fail
  refine (nop_any _).mono ?_
  rintro e w2 ⟨v, rfl, hv, hb2⟩
  obtain ⟨A, cap, rfl⟩ : ∃ A cap, v = .slice A nopL.length cap := by obtain ⟨_, A, cap, hv, _⟩ := hv; exact ⟨A, cap, hv⟩
  have hbw2 := below_step hb1 hb2
  have hF2 := Blk.below hF1 hb2 hF1.lt
  go_wp2_with fail
  rw [show (⟨#[104, 101, 108, 108, 111]⟩ : ByteArray) = helloB from rfl]
  have hPW : (⟨(PB r true 128 nopL [] helloB 0).toArray⟩ : ByteArray) = W := by rw [HP.out]; exact HW.out
  unfold PB at hPW
  have HPW := Lib.hid hPW
  clear hPW
  refine (pduWrite_ok 0 true 128 nopL _ [] _ helloB 0 r _ (by decide) HR.out (by decide) (by have := HRR.out.right; rw [HR0.out] at this; exact this) rfl (by decide) (by decide) hv (by decide) (nilS _ 2) (fun p hp => (List.not_mem_nil hp).elim) (hL.on hbw2) (T.on hbw2) (shaped_ons hS hbw2)).mono ?_
  rintro e w3 ⟨rfl, hb3⟩
  rw [HPW.out]
  have hbw3 := below_step hbw2 hb3
  have hF3 := Blk.below hF2 hb3 hF2.lt
  go_wp2_with fail
  rw [HX.out]
  refine (fput_ok G ⟨#[]⟩ X 100 0 _ hF3 (by rw [HXZ.out]; decide)).mono ?_
  rintro e w4 ⟨rfl, hF4, hs4⟩
  rw [nil_cat] at hF4
  have hbw4 : Below w.heap.size w w4 := hbw3.trans (hs4.below (Nat.le_of_eq hG) hbw3.size)
  go_wp2_with fail
  refine (fnext_no G X 100 0 _ hF4 (by rw [HXZ.out]; decide) (by decide) HN1.out).mono ?_
  rintro e w5 ⟨rfl, hb5⟩
  unfold zeroPcC
  have hF5 := Blk.below hF4 hb5 hF4.lt
  have hbw5 := below_step hbw4 hb5
  have hb6 : Below w5.heap.size w5 (w5.alloc (.cells #[.int .i64 0, .bool false, .int .i64 0, .slice none 0 0, .slice none 0 0, .string ⟨#[]⟩, .string ⟨#[]⟩] 40)) := (Below.refl _ _).alloc (Nat.le_refl _) _
  have hF6 := Blk.below hF5 hb6 hF5.lt
  have hbw6 := below_step hbw5 hb6
  go_wp2_with fail
  refine (fkept G X 100 0 .nilIface _ hF6).mono ?_
  rintro e w' ⟨rfl, rfl⟩
  have hx50 : ((X.size : Int) != 50) = false := by rw [HXZ.out]; rfl
  go_wp2_with fail
  rw [HY.out]
  refine (fput_ok G X Y 100 0 _ hF6 (by rw [HXZ.out, HYZ.out]; decide)).mono ?_
  rintro e w7 ⟨rfl, hF7, hs7⟩
  have hbw7 : Below w.heap.size w w7 := hbw6.trans (hs7.below (Nat.le_of_eq hG) hbw6.size)
  have hXYz : (X ++ Y).size ≤ 1000000 := by rw [ByteArray.size_append, HXZ.out, HYZ.out]; decide
  clear hx50
  go_wp2_with fail
  refine (fall_any G (X ++ Y) 100 0 _ w hF7 (by decide) hXYz hbw7 (Nat.le_of_eq hG) hL T hS).mono ?_
  rw [HN2.out]
  rintro e w8 ⟨v8, R, rfl, hP8, hR8, hF8, hs8⟩
  simp only [errv0] at *
  have hbw8 : Below w.heap.size w w8 := hbw7.trans (hs8.below (Nat.le_of_eq hG) hbw7.size)
  obtain ⟨L, hL1, hL2, hL3⟩ := hP8.rd
  obtain ⟨x, rfl⟩ : ∃ x, L = [x] := List.length_eq_one_iff.1 (by have := congrArg List.length hL1; simpa using this)
  have hx1 : x.1 = pcOf r true 128 nopL [] helloB := by simpa using hL1
  obtain ⟨b, o, cp, hv8, hbl, c0, c1, c2, c3, c4, c5, c6⟩ := hL2.piece (k := 0) rfl
  rw [hx1] at c5
  have hR1 : ((R.size : Int) == 1) = true := by rw [← len_of, hR8]; rfl
  subst hv8
  have c5' : w8.cell? ⟨b, o + 5, none⟩ = some (.string helloB) := by
    have h : (⟨(pcOf r true 128 nopL [] helloB).data.toArray⟩ : ByteArray) = helloB := (str_of helloB).symm
    rw [h] at c5
    simpa using c5
  have hH : helloB.toList = [104, 101, 108, 108, 111] := by rw [toList_of]; rfl
  clear c0 c1 c2 c3 c4 c5 c6 hL1 hL2 hL3 hx1 hR8 hP8
  go_wp2_with fail
  refine (fkept G R 100 0 .nilIface _ hF8).mono ?_
  rintro e w' ⟨rfl, rfl⟩
  go_wp2_with fail
  go_ret
  exact ⟨rfl, hbw8⟩
end Go.Proofs.YtifniblffjgfkaaGreatDoor
