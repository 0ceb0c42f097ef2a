/- The walks of the laws PduCut, PduTurned, PduHead, PduLong. -/
import Derived.Test.YtehellmpghfopaaGreatDoorPduBackW
import Derived.Test.YtehellmpghfopaaGreatDoorTurn
import Derived.LoopN
namespace Go.Proofs.YtehellmpghfopaaGreatDoor
open Go.ChangeShapes Go.WideShapes Go.ChangeAt Go.RowKit Go.Shelf
set_option linter.unusedVariables false
/- the bytes of a PDU that is right, as a string -/
structure Bytes (W : ByteArray) (N : Nat) (r : HeadR) (now : Bool) (F : Nat) (vals : List Nat) (l : AhsL) (s : ByteArray) (k : Nat) : Prop where
  eq : W = ⟨(PB r now F vals l s k).toArray⟩
  list : W.data.toList = PB r now F vals l s k
  size : W.size = N
  lo : 48 ≤ N
  hi : N ≤ 1200 + s.size
  all : allN W.data.toList (hdM k) (ddM k) = N
  ok : prE W.data.toList (hdM k) (ddM k) = none
theorem bytes_of_pdu (r : HeadR) (now : Bool) (F : Nat) (vals : List Nat) (l : AhsL) (s : ByteArray) (k : Nat) (hrow : headRow (r.1 : Int) = some r) (hF : F < 256) (hl : ∀ x ∈ vals, x < 18446744073709551616) (h1 : rightR (r.1 : Int) now F vals = none) (h2 : rightGo l 0 0 = none) (h5 : s.size ≤ 100000) : ∃ W N, Bytes W N r now F vals l s k := by
  have hbd := PB_bound r now F vals l s k hrow h2
  obtain ⟨X, hX, p1, p2, _⟩ := pdu_parts r now F vals l s.data.toList [] (hdM k) (ddM k) hrow hF hl h1 h2 (by rw [len_of]; exact h5)
  rw [List.append_nil, len_of] at hX
  rw [len_of] at p2
  have hX2 : X = PB r now F vals l s k := hX
  refine ⟨⟨(PB r now F vals l s k).toArray⟩, (PB r now F vals l s k).length, rfl, rfl, rfl, hbd.1, hbd.2.1, ?_, ?_⟩
  · rw [hX2] at p2; exact p2
  · rw [hX2] at p1; exact p1
set_option maxRecDepth 20000 in
set_option maxHeartbeats 2000000 in
theorem cutPdu (op : Int) (now : Bool) (fl : Int) (vals : List Nat) (v : Value) (l : AhsL) (av : Value) (s : ByteArray) (mode : Int) (at_ : Int) (w : World) (h0 : -9223372036854775808 ≤ op ∧ op ≤ 9223372036854775807) (hf : -9223372036854775808 ≤ fl ∧ fl ≤ 9223372036854775807) (hv : SRd w v 1 vals.length (vals.map u64V)) (hl : ∀ x ∈ vals, x < 18446744073709551616)
    (ha : SRd w av 2 l.length (ahsCells l)) (hb : ∀ q ∈ l, -9223372036854775808 ≤ q.1 ∧ q.1 ≤ 9223372036854775807) (hd : ∀ p ∈ l, p.2.size ≤ 140737488351232) (hs : s.size ≤ 140737488351232) (hm : -9223372036854775808 ≤ mode ∧ mode ≤ 9223372036854775807) (hm2 : -9223372036854775808 ≤ at_ ∧ at_ ≤ 9223372036854775807) (hL : LaidE w) (T : Tabs w) (hS : w.ShapedOpen Tryz.prog) :
    Calls Tryz.prog 5 #[.agg #[.int .i64 op, .bool now, .int .i64 fl, v, av, .string s], .int .i64 mode, .int .i64 at_] w fun e w' => e = .returned (.bool true) ∧ Below w.heap.size w w' := by
  clear hb
  obtain ⟨A, cap, rfl⟩ : ∃ A cap, v = .slice A vals.length cap := by obtain ⟨_, A, cap, hv, _⟩ := hv; exact ⟨A, cap, hv⟩
  obtain ⟨B, bcap, rfl⟩ : ∃ A cap, av = .slice A l.length cap := by obtain ⟨_, A, cap, hv, _⟩ := ha; exact ⟨A, cap, hv⟩
  obtain ⟨k, hk, hk4⟩ := pickN mode 4 (by omega)
  have HK := Lib.hid hk
  clear hk
  have hb0 : Below w.heap.size w (w.alloc (.cells #[.int .i64 op, .bool now, .int .i64 fl, .slice A vals.length cap, .slice B l.length bcap, .string s] 27)) := (Below.refl _ _).alloc (Nat.le_refl _) _
  have hB0 := Blk.new w 27 #[.int .i64 op, .bool now, .int .i64 fl, .slice A vals.length cap, .slice B l.length bcap, .string s]
  obtain ⟨g, hg⟩ : ∃ g, w.heap.size = g := ⟨_, rfl⟩
  rw [hg] at hB0
  go_enter Tryz.func5, Tryz.ntmps5
  go_wp2_with fail
  obtain ⟨w0, hw0⟩ : ∃ w0 : World, w.alloc (.cells #[.int .i64 op, .bool now, .int .i64 fl, .slice A vals.length cap, .slice B l.length bcap, .string s] 27) = w0 := ⟨_, rfl⟩
  rw [hw0] at hb0 hB0 ⊢
  try rw [hg]
  have HG := Lib.hid hg
  clear hw0 hg
  refine (wrapped_fact _ (hL.on hb0) (T.on hb0) (shaped_ons hS hb0)).mono ?_
  rintro e w1 ⟨rfl, hb1⟩
  have hb0w := hb0
  have hb1w := below_step hb0w hb1
  have hB1 := hB0.below hb1 hB0.lt
  have c0 := hB1.cell 0
  have c1 := hB1.cell 1
  have c2 := hB1.cell 2
  have c3 := hB1.cell 3
  have c4 := hB1.cell 4
  have c5 := hB1.cell 5
  clear hB0 hb1
  go_wp2_with fail
  refine (large_any op now fl vals _ l _ s _ (hv.on hb1w) (ha.on hb1w) hd hs).mono ?_
  rintro e w2 ⟨⟨b, rfl, hsm⟩, hb2⟩
  clear c0 c1 c2 c3 c4 c5
  have hb2w := below_step hb1w hb2
  have hB2 := hB1.below hb2 hB1.lt
  have c0 := hB2.cell 0
  have c1 := hB2.cell 1
  have c2 := hB2.cell 2
  have c3 := hB2.cell 3
  have c4 := hB2.cell 4
  have c5 := hB2.cell 5
  clear hB1 hb2
  rcases b with _ | _
  rotate_left
  · go_wp2_with fail
    go_ret
    first | exact ⟨rfl, hb2w⟩ | exact ⟨rfl, by rw [← HG.out]; exact hb2w⟩
  obtain ⟨hz1, hz2⟩ := hsm rfl
  clear hsm
  rcases hr : pduR op now fl vals l s.size with _ | c
  rotate_left
  · have HR := Lib.hid hr
    clear hr
    go_wp2_with fail
    refine (pduRight_bad op now fl vals _ l _ s c _ HR.out h0 hf (hv.on hb2w) hl (ha.on hb2w) hd hs (hL.on hb2w) (T.on hb2w) (shaped_ons hS hb2w)).mono ?_
    rintro e w3 ⟨rfl, hb3⟩
    have hb3w := below_step hb2w hb3
    go_wp2_with fail
    go_ret
    first | exact ⟨rfl, hb3w⟩ | exact ⟨rfl, by rw [← HG.out]; exact hb3w⟩
  obtain ⟨r, F, rfl, hrow, rfl, hF, h1, h2, h5⟩ := pdu_row hr hf.2
  have HR := Lib.hid hr
  have HROW := Lib.hid hrow
  have H1 := Lib.hid h1
  have H2 := Lib.hid h2
  clear hr hrow h1 h2
  go_wp2_with fail
  refine (pduRight_nil (r.1 : Int) now F vals _ l _ s _ HR.out h0 hf (hv.on hb2w) hl (ha.on hb2w) hd hs (hL.on hb2w) (T.on hb2w) (shaped_ons hS hb2w)).mono ?_
  rintro e w3 ⟨rfl, hb3⟩
  clear c0 c1 c2 c3 c4 c5
  have hb3w := below_step hb2w hb3
  have hB3 := hB2.below hb3 hB2.lt
  have c0 := hB3.cell 0
  have c1 := hB3.cell 1
  have c2 := hB3.cell 2
  have c3 := hB3.cell 3
  have c4 := hB3.cell 4
  have c5 := hB3.cell 5
  clear hB2 hb3
  go_wp2_with fail
  refine (pick_to mode 4 k HK.out (by omega) (by omega) _).mono ?_
  rintro e w' ⟨rfl, rfl⟩
  obtain ⟨W, N, hW⟩ := bytes_of_pdu r now F vals l s k HROW.out hF hl H1.out H2.out h5
  have hWb : W.size ≤ 4000 := by have := hW.hi; have := hW.size; omega
  have hWn : (W.size : Int) = N := by rw [hW.size]
  have hWz := hW.lo
  obtain ⟨j, hj, hjN⟩ := pickN at_ N (by omega)
  have HJ := Lib.hid hj
  have hWe : W.toList.isEmpty = false := by
    rw [toList_of]
    rcases hl0 : W.data.toList with _ | ⟨x, y⟩
    · have := len_of W; rw [hl0, hW.size] at this; simp at this; omega
    · rfl
  have hWe2 : ¬ W.toList = [] := by
    intro h
    rw [h] at hWe
    cases hWe
  have HW := Lib.hid hW
  have hxl : (W.extract 0 j).data.toList = W.data.toList.take j := by rw [ext_of, List.drop_zero, Nat.sub_zero]
  obtain ⟨X, hX⟩ : ∃ X : ByteArray, W.extract 0 j = X := ⟨_, rfl⟩
  rw [hX] at hxl
  have hXz : X.size ≤ 1000000 := by rw [← hX]; exact Nat.le_trans (size_ext _ _ _) (by omega)
  have hE : prE X.data.toList (hdM k) (ddM k) = some 7 := by
    rw [hxl]
    exact pdu_cut _ _ _ j (by rw [len_of, hW.size]; exact hjN) (by rw [hW.all, len_of, hW.size])
  have HE := Lib.hid hE
  have hjs : (j : Int) ≤ W.size := by omega
  clear hj hW hxl hE
  go_wp2_with fail
  refine (pduWrite_to W now F vals _ l _ s k r _ hk4 HROW.out hF H1.out H2.out h5 HW.out.eq (hv.on hb3w) hl (ha.on hb3w) hd (hL.on hb3w) (T.on hb3w) (shaped_ons hS hb3w)).mono ?_
  rintro e w4 ⟨rfl, hb4⟩
  clear c0 c1 c2 c3 c4 c5
  have hb4w := below_step hb3w hb4
  have hB4 := hB3.below hb4 hB3.lt
  have c0 := hB4.cell 0
  have c1 := hB4.cell 1
  have c2 := hB4.cell 2
  have c3 := hB4.cell 3
  have c4 := hB4.cell 4
  have c5 := hB4.cell 5
  clear hB3 hb4
  go_wp2_with fail
  refine (pick_to at_ N j HJ.out (by omega) (by omega) _).mono ?_
  rintro e w' ⟨rfl, rfl⟩
  go_wp2_with fail
  refine (pduRead_any X k _ hk4 hXz (hL.on hb4w) (T.on hb4w) (shaped_ons hS hb4w)).mono ?_
  rintro e w5 ⟨hp, hb5⟩
  unfold pduIs at hp
  rw [HE.out] at hp
  obtain rfl : e = _ := hp
  unfold zeroP
  have hb5w := below_step hb4w hb5
  go_wp2_with fail
  have hb5a : Below w5.heap.size w5 (w5.alloc (.cells #[.int .i64 0, .bool false, .int .i64 0, .slice none 0 0, .slice none 0 0, .string ⟨#[]⟩] 27)) := (Below.refl _ _).alloc (Nat.le_refl _) _
  have hb5b := below_step hb5w hb5a
  refine (tell_errno 7 _ (hL.on hb5b)).mono ?_
  rintro e w6 ⟨rfl, hb6⟩
  have hb6w := below_step hb5b hb6
  go_wp2_with fail
  go_ret
  first | exact ⟨rfl, hb6w⟩ | exact ⟨rfl, by rw [← HG.out]; exact hb6w⟩
set_option maxRecDepth 20000 in
set_option maxHeartbeats 2000000 in
theorem turnedPdu (op : Int) (now : Bool) (fl : Int) (vals : List Nat) (v : Value) (l : AhsL) (av : Value) (s : ByteArray) (first bits : Int) (w : World) (h0 : -9223372036854775808 ≤ op ∧ op ≤ 9223372036854775807) (hf : -9223372036854775808 ≤ fl ∧ fl ≤ 9223372036854775807) (hv : SRd w v 1 vals.length (vals.map u64V)) (hl : ∀ x ∈ vals, x < 18446744073709551616)
    (ha : SRd w av 2 l.length (ahsCells l)) (hb : ∀ q ∈ l, -9223372036854775808 ≤ q.1 ∧ q.1 ≤ 9223372036854775807) (hd : ∀ p ∈ l, p.2.size ≤ 140737488351232) (hs : s.size ≤ 140737488351232) (hm : -9223372036854775808 ≤ first ∧ first ≤ 9223372036854775807) (hm2 : 0 ≤ bits ∧ bits < 4294967296) (hL : LaidE w) (T : Tabs w) (hS : w.ShapedOpen Tryz.prog) :
    Calls Tryz.prog 6 #[.agg #[.int .i64 op, .bool now, .int .i64 fl, v, av, .string s], .int .i64 first, .int .u32 bits] w fun e w' => e = .returned (.bool true) ∧ Below w.heap.size w w' := by
  clear hb
  obtain ⟨A, cap, rfl⟩ : ∃ A cap, v = .slice A vals.length cap := by obtain ⟨_, A, cap, hv, _⟩ := hv; exact ⟨A, cap, hv⟩
  obtain ⟨B, bcap, rfl⟩ : ∃ A cap, av = .slice A l.length cap := by obtain ⟨_, A, cap, hv, _⟩ := ha; exact ⟨A, cap, hv⟩
  obtain ⟨b, rfl⟩ := Int.eq_ofNat_of_zero_le hm2.1
  have hb0 : Below w.heap.size w (w.alloc (.cells #[.int .i64 op, .bool now, .int .i64 fl, .slice A vals.length cap, .slice B l.length bcap, .string s] 27)) := (Below.refl _ _).alloc (Nat.le_refl _) _
  have hB0 := Blk.new w 27 #[.int .i64 op, .bool now, .int .i64 fl, .slice A vals.length cap, .slice B l.length bcap, .string s]
  obtain ⟨g, hg⟩ : ∃ g, w.heap.size = g := ⟨_, rfl⟩
  rw [hg] at hB0
  go_enter Tryz.func6, Tryz.ntmps6
  go_wp2_with fail
  obtain ⟨w0, hw0⟩ : ∃ w0 : World, w.alloc (.cells #[.int .i64 op, .bool now, .int .i64 fl, .slice A vals.length cap, .slice B l.length bcap, .string s] 27) = w0 := ⟨_, rfl⟩
  rw [hw0] at hb0 hB0 ⊢
  try rw [hg]
  have HG := Lib.hid hg
  clear hw0 hg
  refine (wrapped_fact _ (hL.on hb0) (T.on hb0) (shaped_ons hS hb0)).mono ?_
  rintro e w1 ⟨rfl, hb1⟩
  have hb0w := hb0
  have hb1w := below_step hb0w hb1
  have hB1 := hB0.below hb1 hB0.lt
  have c0 := hB1.cell 0
  have c1 := hB1.cell 1
  have c2 := hB1.cell 2
  have c3 := hB1.cell 3
  have c4 := hB1.cell 4
  have c5 := hB1.cell 5
  clear hB0 hb1
  go_wp2_with fail
  refine (large_any op now fl vals _ l _ s _ (hv.on hb1w) (ha.on hb1w) hd hs).mono ?_
  rintro e w2 ⟨⟨b, rfl, hsm⟩, hb2⟩
  clear c0 c1 c2 c3 c4 c5
  have hb2w := below_step hb1w hb2
  have hB2 := hB1.below hb2 hB1.lt
  have c0 := hB2.cell 0
  have c1 := hB2.cell 1
  have c2 := hB2.cell 2
  have c3 := hB2.cell 3
  have c4 := hB2.cell 4
  have c5 := hB2.cell 5
  clear hB1 hb2
  rcases b with _ | _
  rotate_left
  · go_wp2_with fail
    go_ret
    first | exact ⟨rfl, hb2w⟩ | exact ⟨rfl, by rw [← HG.out]; exact hb2w⟩
  obtain ⟨hz1, hz2⟩ := hsm rfl
  clear hsm
  rcases hr : pduR op now fl vals l s.size with _ | c
  rotate_left
  · have HR := Lib.hid hr
    clear hr
    go_wp2_with fail
    refine (pduRight_bad op now fl vals _ l _ s c _ HR.out h0 hf (hv.on hb2w) hl (ha.on hb2w) hd hs (hL.on hb2w) (T.on hb2w) (shaped_ons hS hb2w)).mono ?_
    rintro e w3 ⟨rfl, hb3⟩
    have hb3w := below_step hb2w hb3
    go_wp2_with fail
    go_ret
    first | exact ⟨rfl, hb3w⟩ | exact ⟨rfl, by rw [← HG.out]; exact hb3w⟩
  obtain ⟨r, F, rfl, hrow, rfl, hF, h1, h2, h5⟩ := pdu_row hr hf.2
  have HR := Lib.hid hr
  have HROW := Lib.hid hrow
  have H1 := Lib.hid h1
  have H2 := Lib.hid h2
  clear hr hrow h1 h2
  go_wp2_with fail
  refine (pduRight_nil (r.1 : Int) now F vals _ l _ s _ HR.out h0 hf (hv.on hb2w) hl (ha.on hb2w) hd hs (hL.on hb2w) (T.on hb2w) (shaped_ons hS hb2w)).mono ?_
  rintro e w3 ⟨rfl, hb3⟩
  clear c0 c1 c2 c3 c4 c5
  have hb3w := below_step hb2w hb3
  have hB3 := hB2.below hb3 hB2.lt
  have c0 := hB3.cell 0
  have c1 := hB3.cell 1
  have c2 := hB3.cell 2
  have c3 := hB3.cell 3
  have c4 := hB3.cell 4
  have c5 := hB3.cell 5
  clear hB2 hb3
  obtain ⟨W, N, hW⟩ := bytes_of_pdu r now F vals l s 3 HROW.out hF hl H1.out H2.out h5
  have hWb : W.size ≤ 4000 := by have := hW.hi; have := hW.size; omega
  have hWn : (W.size : Int) = N := by rw [hW.size]
  have hWz := hW.lo
  obtain ⟨j, hj, hjN⟩ := pickN first (8 * N) (by omega)
  have HJ := Lib.hid hj
  have hWe : W.toList.isEmpty = false := by
    rw [toList_of]
    rcases hl0 : W.data.toList with _ | ⟨x, y⟩
    · have := len_of W; rw [hl0, hW.size] at this; simp at this; omega
    · rfl
  have hWe2 : ¬ W.toList = [] := by
    intro h
    rw [h] at hWe
    cases hWe
  obtain ⟨X, hX⟩ : ∃ X : ByteArray, X = ⟨(turnedL W.data.toList j b 32).toArray⟩ := ⟨_, rfl⟩
  have hxl : X.data.toList = turnedL W.data.toList j b 32 := by rw [hX]
  have hXz : (X.size : Int) = N := by rw [← len_of, hxl, turnedL_len, len_of, hW.size]
  have hc := close_turn W.data.toList j b (by rw [len_of, hW.size]; omega)
  rw [← hxl] at hc
  have HC := Lib.hid hc
  have HW := Lib.hid hW
  have HX := Lib.hid hX
  clear hj hW hxl hX hc
  go_wp2_with fail
  refine (pduWrite_to W now F vals _ l _ s 3 r _ (by decide) HROW.out hF H1.out H2.out h5 HW.out.eq (hv.on hb3w) hl (ha.on hb3w) hd (hL.on hb3w) (T.on hb3w) (shaped_ons hS hb3w)).mono ?_
  rintro e w4 ⟨rfl, hb4⟩
  clear c0 c1 c2 c3 c4 c5
  have hb4w := below_step hb3w hb4
  have hB4 := hB3.below hb4 hB3.lt
  have c0 := hB4.cell 0
  have c1 := hB4.cell 1
  have c2 := hB4.cell 2
  have c3 := hB4.cell 3
  have c4 := hB4.cell 4
  have c5 := hB4.cell 5
  clear hB3 hb4
  go_wp2_with fail
  have hpk := pick_to first (8 * N) j HJ.out (by omega) (by omega) w4
  rw [show ((8 * N : Nat) : Int) = 8 * (N : Int) from by omega] at hpk
  refine hpk.mono ?_
  rintro e w' ⟨rfl, rfl⟩
  clear hpk
  go_wp2_with fail
  refine (turned_any W j b _ (by omega) (by omega) (by omega)).mono ?_
  rintro e w5 ⟨rfl, hb5⟩
  rw [← HX.out]
  have hb5w := below_step hb4w hb5
  have hEX : (X.extract 4 8).data.toList = (X.data.toList.drop 4).take 4 := by rw [ext_of]
  have hEW : (W.extract 4 8).data.toList = (W.data.toList.drop 4).take 4 := by rw [ext_of]
  obtain ⟨EX, hX4⟩ : ∃ E : ByteArray, X.extract 4 8 = E := ⟨_, rfl⟩
  obtain ⟨EW, hW4⟩ : ∃ E : ByteArray, W.extract 4 8 = E := ⟨_, rfl⟩
  rw [hX4] at hEX
  rw [hW4] at hEW
  by_cases h8 : EX.data.toList = EW.data.toList
  rotate_left
  · have e0 : (EX.toList == EW.toList) = false := by rw [toList_of, toList_of]; simpa using h8
    have e1 : (EX.toList != EW.toList) = true := by rw [bne, e0]; rfl
    clear hEX hEW h8
    have h8N : (8 : Int) ≤ (N : Int) := by omega
    go_wp2_with fail
    go_region
    have hb5d := hb5w.drew
    go_wp2_with fail
    go_ret
    first | exact ⟨by simp, hb5d⟩ | exact ⟨by simp, by rw [← HG.out]; exact hb5d⟩
  have e0 : (EX.toList == EW.toList) = true := by rw [toList_of, toList_of, h8]; simp
  have e1 : (EX.toList != EW.toList) = false := by rw [bne, e0]; rfl
  have H8 := Lib.hid (show (X.data.toList.drop 4).take 4 = (W.data.toList.drop 4).take 4 by rw [← hEX, ← hEW, h8])
  clear hEX hEW h8
  have h8N : (8 : Int) ≤ (N : Int) := by omega
  go_wp2_with fail
  go_region
  have hb5w := hb5w.drew
  go_wp2_with fail
  refine (pduRead_any X 3 _ (by decide) (by omega) (hL.on hb5w) (T.on hb5w) (shaped_ons hS hb5w)).mono ?_
  rintro e w6 ⟨hp, hb6⟩
  have hb6w := below_step hb5w hb6
  unfold pduIs at hp
  rcases hE : prE X.data.toList (hdM 3) (ddM 3) with _ | c
  · rw [hE] at hp
    obtain ⟨r0, A6, cap6, al6, B6, bcap6, p1, p2, rfl, p4, p5⟩ := hp
    have hXW : X.data.toList = W.data.toList := pdu_turned W.data.toList X.data.toList HC.out H8.out HW.out.ok (by rw [len_of, HW.out.size]; exact HW.out.all) hE
    have e2 : (W.toList == X.toList) = true := by rw [toList_of, toList_of, hXW]; simp
    clear hE hXW p1 p2 p4 p5
    go_wp2_with fail
    go_ret
    exact ⟨by simp, by first | exact hb6w.alloc (by have := hb6w.size; omega) _ | (rw [← HG.out]; exact hb6w.alloc (by have := hb6w.size; omega) _)⟩
  · rw [hE] at hp
    obtain rfl : e = _ := hp
    unfold zeroP
    have e2 : (W.toList == X.toList) = false := by
      rw [toList_of, toList_of]
      simp only [beq_eq_false_iff_ne, ne_eq]
      intro h
      rw [← h, HW.out.ok] at hE
      cases hE
    clear hE
    go_wp2_with fail
    go_ret
    exact ⟨by simp, by first | exact hb6w.alloc (by have := hb6w.size; omega) _ | (rw [← HG.out]; exact hb6w.alloc (by have := hb6w.size; omega) _)⟩
set_option maxRecDepth 20000 in
set_option maxHeartbeats 2000000 in
theorem headPdu (op : Int) (now : Bool) (fl : Int) (vals : List Nat) (v : Value) (l : AhsL) (av : Value) (s : ByteArray) (mode : Int) (w : World) (h0 : -9223372036854775808 ≤ op ∧ op ≤ 9223372036854775807) (hf : -9223372036854775808 ≤ fl ∧ fl ≤ 9223372036854775807) (hv : SRd w v 1 vals.length (vals.map u64V)) (hl : ∀ x ∈ vals, x < 18446744073709551616)
    (ha : SRd w av 2 l.length (ahsCells l)) (hb : ∀ q ∈ l, -9223372036854775808 ≤ q.1 ∧ q.1 ≤ 9223372036854775807) (hd : ∀ p ∈ l, p.2.size ≤ 140737488351232) (hs : s.size ≤ 140737488351232) (hm : -9223372036854775808 ≤ mode ∧ mode ≤ 9223372036854775807) (hL : LaidE w) (T : Tabs w) (hS : w.ShapedOpen Tryz.prog) :
    Calls Tryz.prog 8 #[.agg #[.int .i64 op, .bool now, .int .i64 fl, v, av, .string s], .int .i64 mode] w fun e w' => e = .returned (.bool true) ∧ Below w.heap.size w w' := by
  clear hb
  obtain ⟨A, cap, rfl⟩ : ∃ A cap, v = .slice A vals.length cap := by obtain ⟨_, A, cap, hv, _⟩ := hv; exact ⟨A, cap, hv⟩
  obtain ⟨B, bcap, rfl⟩ : ∃ A cap, av = .slice A l.length cap := by obtain ⟨_, A, cap, hv, _⟩ := ha; exact ⟨A, cap, hv⟩
  obtain ⟨k, hk, hk4⟩ := pickN mode 4 (by omega)
  have HK := Lib.hid hk
  clear hk
  have hb0 : Below w.heap.size w (w.alloc (.cells #[.int .i64 op, .bool now, .int .i64 fl, .slice A vals.length cap, .slice B l.length bcap, .string s] 27)) := (Below.refl _ _).alloc (Nat.le_refl _) _
  have hB0 := Blk.new w 27 #[.int .i64 op, .bool now, .int .i64 fl, .slice A vals.length cap, .slice B l.length bcap, .string s]
  obtain ⟨g, hg⟩ : ∃ g, w.heap.size = g := ⟨_, rfl⟩
  rw [hg] at hB0
  go_enter Tryz.func8, Tryz.ntmps8
  go_wp2_with fail
  obtain ⟨w0, hw0⟩ : ∃ w0 : World, w.alloc (.cells #[.int .i64 op, .bool now, .int .i64 fl, .slice A vals.length cap, .slice B l.length bcap, .string s] 27) = w0 := ⟨_, rfl⟩
  rw [hw0] at hb0 hB0 ⊢
  try rw [hg]
  have HG := Lib.hid hg
  clear hw0 hg
  refine (wrapped_fact _ (hL.on hb0) (T.on hb0) (shaped_ons hS hb0)).mono ?_
  rintro e w1 ⟨rfl, hb1⟩
  have hb0w := hb0
  have hb1w := below_step hb0w hb1
  have hB1 := hB0.below hb1 hB0.lt
  have c0 := hB1.cell 0
  have c1 := hB1.cell 1
  have c2 := hB1.cell 2
  have c3 := hB1.cell 3
  have c4 := hB1.cell 4
  have c5 := hB1.cell 5
  clear hB0 hb1
  go_wp2_with fail
  refine (headed_fact _ (T.on hb1w) (shaped_ons hS hb1w)).mono ?_
  rintro e wa ⟨rfl, hba⟩
  clear c0 c1 c2 c3 c4 c5
  have hbaw := below_step hb1w hba
  have hBa := hB1.below hba hB1.lt
  have c0 := hBa.cell 0
  have c1 := hBa.cell 1
  have c2 := hBa.cell 2
  have c3 := hBa.cell 3
  have c4 := hBa.cell 4
  have c5 := hBa.cell 5
  clear hB1 hba
  have hb1w := hbaw
  have hB1 := hBa
  clear hbaw hBa
  go_wp2_with fail
  refine (more_fact _ (hL.on hb1w)).mono ?_
  rintro e wb ⟨rfl, hbb⟩
  clear c0 c1 c2 c3 c4 c5
  have hbbw := below_step hb1w hbb
  have hBb := hB1.below hbb hB1.lt
  have c0 := hBb.cell 0
  have c1 := hBb.cell 1
  have c2 := hBb.cell 2
  have c3 := hBb.cell 3
  have c4 := hBb.cell 4
  have c5 := hBb.cell 5
  clear hB1 hbb
  have hb1w := hbbw
  have hB1 := hBb
  clear hbbw hBb
  go_wp2_with fail
  refine (large_any op now fl vals _ l _ s _ (hv.on hb1w) (ha.on hb1w) hd hs).mono ?_
  rintro e w2 ⟨⟨b, rfl, hsm⟩, hb2⟩
  clear c0 c1 c2 c3 c4 c5
  have hb2w := below_step hb1w hb2
  have hB2 := hB1.below hb2 hB1.lt
  have c0 := hB2.cell 0
  have c1 := hB2.cell 1
  have c2 := hB2.cell 2
  have c3 := hB2.cell 3
  have c4 := hB2.cell 4
  have c5 := hB2.cell 5
  clear hB1 hb2
  rcases b with _ | _
  rotate_left
  · go_wp2_with fail
    go_ret
    first | exact ⟨rfl, hb2w⟩ | exact ⟨rfl, by rw [← HG.out]; exact hb2w⟩
  obtain ⟨hz1, hz2⟩ := hsm rfl
  clear hsm
  rcases hr : pduR op now fl vals l s.size with _ | c
  rotate_left
  · have HR := Lib.hid hr
    clear hr
    go_wp2_with fail
    refine (pduRight_bad op now fl vals _ l _ s c _ HR.out h0 hf (hv.on hb2w) hl (ha.on hb2w) hd hs (hL.on hb2w) (T.on hb2w) (shaped_ons hS hb2w)).mono ?_
    rintro e w3 ⟨rfl, hb3⟩
    have hb3w := below_step hb2w hb3
    go_wp2_with fail
    go_ret
    first | exact ⟨rfl, hb3w⟩ | exact ⟨rfl, by rw [← HG.out]; exact hb3w⟩
  obtain ⟨r, F, rfl, hrow, rfl, hF, h1, h2, h5⟩ := pdu_row hr hf.2
  have HR := Lib.hid hr
  have HROW := Lib.hid hrow
  have H1 := Lib.hid h1
  have H2 := Lib.hid h2
  clear hr hrow h1 h2
  go_wp2_with fail
  refine (pduRight_nil (r.1 : Int) now F vals _ l _ s _ HR.out h0 hf (hv.on hb2w) hl (ha.on hb2w) hd hs (hL.on hb2w) (T.on hb2w) (shaped_ons hS hb2w)).mono ?_
  rintro e w3 ⟨rfl, hb3⟩
  clear c0 c1 c2 c3 c4 c5
  have hb3w := below_step hb2w hb3
  have hB3 := hB2.below hb3 hB2.lt
  have c0 := hB3.cell 0
  have c1 := hB3.cell 1
  have c2 := hB3.cell 2
  have c3 := hB3.cell 3
  have c4 := hB3.cell 4
  have c5 := hB3.cell 5
  clear hB2 hb3
  obtain ⟨W, N, hW⟩ := bytes_of_pdu r now F vals l s k HROW.out hF hl H1.out H2.out h5
  have hWb : W.size ≤ 4000 := by have := hW.hi; have := hW.size; omega
  have hall := right_none l 0 0 (by omega) H2.out
  have hml : (ahsB l).length = sumLen l := ahsB_len l
  have hmod := sumLen_mod l
  obtain ⟨q, hq⟩ : ∃ q, (ahsB l).length / 4 = q := ⟨_, rfl⟩
  obtain ⟨M, hM⟩ : ∃ M : ByteArray, (⟨(ahsB l).toArray⟩ : ByteArray) = M := ⟨_, rfl⟩
  have hMl : M.data.toList = ahsB l := by rw [← hM]
  have hMz : M.size = sumLen l := by rw [← len_of, hMl, hml]
  have hMq : (M.size : Int) / 4 = (q : Int) := by omega
  obtain ⟨HB, hHB⟩ : ∃ HB, layAll (headB r.1 now F q s.size) r.2.2.2 vals = HB := ⟨_, rfl⟩
  have hHl : HB.length = 48 := by rw [← hHB]; exact layAll_len r.2.2.2 vals _ (headT_ok r (headRow_mem HROW.out)) rfl
  have hWl : ∃ R, W.data.toList = HB ++ (ahsB l ++ R) := by
    refine ⟨dg4 (hdM k) (HB ++ ahsB l) ++ (padded s.data.toList ++ dg4 (ddM k && decide (0 < s.data.toList.length)) (padded s.data.toList)), ?_⟩
    rw [hW.list, PB, hq, hHB]
    rfl
  obtain ⟨R, hWl⟩ := hWl
  have hSl : (W.extract 0 48).data.toList = HB := by rw [ext_of, hWl]; exact take_at hHl
  have hAl : (W.extract 48 (48 + M.size)).data.toList = ahsB l := by
    rw [ext_of, hWl]
    show ((HB ++ (ahsB l ++ R)).drop 48).take (48 + M.size - 48) = _
    rw [drop_at hHl, Nat.add_sub_cancel_left]
    exact take_at (by rw [hMz, hml])
  obtain ⟨SH, hSH⟩ : ∃ SH : ByteArray, W.extract 0 48 = SH := ⟨_, rfl⟩
  obtain ⟨SA, hSA⟩ : ∃ SA : ByteArray, W.extract 48 (48 + M.size) = SA := ⟨_, rfl⟩
  rw [hSH] at hSl
  rw [hSA] at hAl
  have e0 : (SA.toList == M.toList) = true := by rw [toList_of, toList_of, hAl, hMl]; simp
  have hlo : 48 + M.size ≤ W.size := by rw [← len_of W, hWl, List.length_append, List.length_append, hHl, hMz, hml]; omega
  have hloi : (48 : Int) + M.size ≤ W.size := by omega
  have hMle : M.size ≤ 1020 := by omega
  have HSH := Lib.hid (show SH = ⟨(layAll (headB r.1 now F q s.size) r.2.2.2 vals).toArray⟩ by rw [hHB, ← hSl])
  have HW := Lib.hid hW
  have HM := Lib.hid hM
  have hq2 : q < 256 := by omega
  have hgl3 := hB3.lt
  have hr3 : Below w3.heap.size w3 w3.drew := (Below.refl _ _).drew
  have hb3d := hb3w.drew
  clear hW hM hall hml hmod hq hMl hMz hHB hHl hWl hSl hAl
  go_wp2_with fail
  go_region_held3 (fun w' => w'.cell? ⟨g, 0, none⟩ = some (.int .i64 r.1) ∧ w'.cell? ⟨g, 1, none⟩ = some (.bool now) ∧ w'.cell? ⟨g, 2, none⟩ = some (.int .i64 F) ∧ w'.cell? ⟨g, 3, none⟩ = some (.slice A vals.length cap) ∧ w'.cell? ⟨g, 4, none⟩ = some (.slice B l.length bcap) ∧ w'.cell? ⟨g, 5, none⟩ = some (.string s)) (first | go_keep | exact ⟨k0, k1, k2, k3, k4, k5⟩)
    (first | (go_at_call 15; refine (pick_to mode 4 k HK.out (by omega) (by omega) _).mono ?_; rintro e w' ⟨rfl, rfl⟩) | (go_at_call 16; refine (pduWrite_to W now F vals _ l _ s k r _ hk4 HROW.out hF H1.out H2.out h5 HW.out.eq (hv.on hb3d) hl (ha.on hb3d) hd (hL.on hb3d) (T.on hb3d) (shaped_ons hS hb3d)).mono ?_; rintro e w4 ⟨rfl, hb4⟩; have hb34 := hr3.trans hb4; have k0 := (hb34.cell (p := ⟨g, 0, none⟩) hgl3).trans c0; have k1 := (hb34.cell (p := ⟨g, 1, none⟩) hgl3).trans c1; have k2 := (hb34.cell (p := ⟨g, 2, none⟩) hgl3).trans c2; have k3 := (hb34.cell (p := ⟨g, 3, none⟩) hgl3).trans c3; have k4 := (hb34.cell (p := ⟨g, 4, none⟩) hgl3).trans c4; have k5 := (hb34.cell (p := ⟨g, 5, none⟩) hgl3).trans c5))
  clear k0 k1 k2 k3 k4 k5 hb4
  have hb4 := hb34
  clear hb34
  clear c0 c1 c2 c3 c4 c5
  have hb4w := below_step hb3w hb4
  have hB4 := hB3.below hb4 hB3.lt
  have c0 := hB4.cell 0
  have c1 := hB4.cell 1
  have c2 := hB4.cell 2
  have c3 := hB4.cell 3
  have c4 := hB4.cell 4
  have c5 := hB4.cell 5
  clear hB3 hb4
  go_wp2_with fail
  refine (ahsWrite_ok l _ _ (ha.on hb4w) hd H2.out).mono ?_
  rintro e w5 ⟨rfl, hb5⟩
  rw [HM.out]
  clear c0 c1 c2 c3 c4 c5
  have hb5w := below_step hb4w hb5
  have hB5 := hB4.below hb5 hB4.lt
  have c0 := hB5.cell 0
  have c1 := hB5.cell 1
  have c2 := hB5.cell 2
  have c3 := hB5.cell 3
  have c4 := hB5.cell 4
  have c5 := hB5.cell 5
  clear hB4 hb5
  go_wp2_with fail
  refine (read_back SH (r.1 : Int) now F q s.size vals r _ HROW.out HSH.out hF hq2 (by omega) hl H1.out (T.on hb5w) (shaped_ons hS hb5w)).mono ?_
  rintro e w6 ⟨v6, rfl, hv6, hb6⟩
  obtain ⟨A6, cap6, rfl⟩ : ∃ A cap, v6 = .slice A vals.length cap := by obtain ⟨_, A, cap, hv, _⟩ := hv6; exact ⟨A, cap, hv⟩
  clear c0 c1 c2 c3 c4 c5
  have hb6w := below_step hb5w hb6
  have hB6 := hB5.below hb6 hB5.lt
  have c0 := hB6.cell 0
  have c1 := hB6.cell 1
  have c2 := hB6.cell 2
  have c3 := hB6.cell 3
  have c4 := hB6.cell 4
  have c5 := hB6.cell 5
  clear hB5 hb6
  have hgl6 := hB6.lt
  go_wp2_with fail
  have hb67 : Below w6.heap.size w6 (w6.alloc (.cells #[.int .i64 r.1, .bool now, .int .i64 F, .slice A6 vals.length cap6] 24)) := (Below.refl _ _).alloc (Nat.le_refl _) _
  have hb7w := below_step hb6w hb67
  refine (same_yes (r.1 : Int) now F vals _ _ _ (hv6.on hb67) (hv.on hb7w)).mono ?_
  rintro e w8 ⟨rfl, hb8⟩
  have hB8 := hB6.below (hb67.trans (hb8.mono (by simp))) hB6.lt
  have hb8w := below_step hb7w hb8
  clear c0 c1 c2 c3 c4 c5
  have c5 := hB8.cell 5
  have e1 : ((s.size : Int) == s.size) = true := by simp
  have e2 : ((q : Int) == q) = true := by simp
  go_wp2_with fail
  go_ret
  first | exact ⟨by simp, hb8w⟩ | exact ⟨by simp, by rw [← HG.out]; exact hb8w⟩
set_option maxRecDepth 20000 in
set_option maxHeartbeats 2000000 in
theorem longPdu (op : Int) (now : Bool) (fl : Int) (vals : List Nat) (v : Value) (l : AhsL) (av : Value) (s : ByteArray) (w : World) (h0 : -9223372036854775808 ≤ op ∧ op ≤ 9223372036854775807) (hf : -9223372036854775808 ≤ fl ∧ fl ≤ 9223372036854775807) (hv : SRd w v 1 vals.length (vals.map u64V)) (hl : ∀ x ∈ vals, x < 18446744073709551616)
    (ha : SRd w av 2 l.length (ahsCells l)) (hb : ∀ q ∈ l, -9223372036854775808 ≤ q.1 ∧ q.1 ≤ 9223372036854775807) (hd : ∀ p ∈ l, p.2.size ≤ 140737488351232) (hs : s.size ≤ 140737488351232) (hL : LaidE w) (T : Tabs w) (hS : w.ShapedOpen Tryz.prog) :
    Calls Tryz.prog 7 #[.agg #[.int .i64 op, .bool now, .int .i64 fl, v, av, .string s]] w fun e w' => e = .returned (.bool true) ∧ Below w.heap.size w w' := by
  clear hb
  obtain ⟨A, cap, rfl⟩ : ∃ A cap, v = .slice A vals.length cap := by obtain ⟨_, A, cap, hv, _⟩ := hv; exact ⟨A, cap, hv⟩
  obtain ⟨B, bcap, rfl⟩ : ∃ A cap, av = .slice A l.length cap := by obtain ⟨_, A, cap, hv, _⟩ := ha; exact ⟨A, cap, hv⟩
  have hb0 : Below w.heap.size w (w.alloc (.cells #[.int .i64 op, .bool now, .int .i64 fl, .slice A vals.length cap, .slice B l.length bcap, .string s] 27)) := (Below.refl _ _).alloc (Nat.le_refl _) _
  have hB0 := Blk.new w 27 #[.int .i64 op, .bool now, .int .i64 fl, .slice A vals.length cap, .slice B l.length bcap, .string s]
  obtain ⟨g, hg⟩ : ∃ g, w.heap.size = g := ⟨_, rfl⟩
  rw [hg] at hB0
  go_enter Tryz.func7, Tryz.ntmps7
  go_wp2_with fail
  obtain ⟨w0, hw0⟩ : ∃ w0 : World, w.alloc (.cells #[.int .i64 op, .bool now, .int .i64 fl, .slice A vals.length cap, .slice B l.length bcap, .string s] 27) = w0 := ⟨_, rfl⟩
  rw [hw0] at hb0 hB0 ⊢
  try rw [hg]
  have HG := Lib.hid hg
  clear hw0 hg
  refine (wrapped_fact _ (hL.on hb0) (T.on hb0) (shaped_ons hS hb0)).mono ?_
  rintro e w1 ⟨rfl, hb1⟩
  have hb0w := hb0
  have hb1w := below_step hb0w hb1
  have hB1 := hB0.below hb1 hB0.lt
  have c0 := hB1.cell 0
  have c1 := hB1.cell 1
  have c2 := hB1.cell 2
  have c3 := hB1.cell 3
  have c4 := hB1.cell 4
  have c5 := hB1.cell 5
  clear hB0 hb1
  go_wp2_with fail
  refine (more_fact _ (hL.on hb1w)).mono ?_
  rintro e wa ⟨rfl, hba⟩
  clear c0 c1 c2 c3 c4 c5
  have hbaw := below_step hb1w hba
  have hBa := hB1.below hba hB1.lt
  have c0 := hBa.cell 0
  have c1 := hBa.cell 1
  have c2 := hBa.cell 2
  have c3 := hBa.cell 3
  have c4 := hBa.cell 4
  have c5 := hBa.cell 5
  clear hB1 hba
  have hb1w := hbaw
  have hB1 := hBa
  clear hbaw hBa
  go_wp2_with fail
  refine (large_any op now fl vals _ l _ s _ (hv.on hb1w) (ha.on hb1w) hd hs).mono ?_
  rintro e w2 ⟨⟨b, rfl, hsm⟩, hb2⟩
  clear c0 c1 c2 c3 c4 c5
  have hb2w := below_step hb1w hb2
  have hB2 := hB1.below hb2 hB1.lt
  have c0 := hB2.cell 0
  have c1 := hB2.cell 1
  have c2 := hB2.cell 2
  have c3 := hB2.cell 3
  have c4 := hB2.cell 4
  have c5 := hB2.cell 5
  clear hB1 hb2
  rcases b with _ | _
  rotate_left
  · go_wp2_with fail
    go_ret
    first | exact ⟨rfl, hb2w⟩ | exact ⟨rfl, by rw [← HG.out]; exact hb2w⟩
  obtain ⟨hz1, hz2⟩ := hsm rfl
  clear hsm
  rcases hr : pduR op now fl vals l s.size with _ | c
  rotate_left
  · have HR := Lib.hid hr
    clear hr
    go_wp2_with fail
    refine (pduRight_bad op now fl vals _ l _ s c _ HR.out h0 hf (hv.on hb2w) hl (ha.on hb2w) hd hs (hL.on hb2w) (T.on hb2w) (shaped_ons hS hb2w)).mono ?_
    rintro e w3 ⟨rfl, hb3⟩
    have hb3w := below_step hb2w hb3
    go_wp2_with fail
    go_ret
    first | exact ⟨rfl, hb3w⟩ | exact ⟨rfl, by rw [← HG.out]; exact hb3w⟩
  obtain ⟨r, F, rfl, hrow, rfl, hF, h1, h2, h5⟩ := pdu_row hr hf.2
  have HR := Lib.hid hr
  have HROW := Lib.hid hrow
  have H1 := Lib.hid h1
  have H2 := Lib.hid h2
  clear hr hrow h1 h2
  go_wp2_with fail
  refine (pduRight_nil (r.1 : Int) now F vals _ l _ s _ HR.out h0 hf (hv.on hb2w) hl (ha.on hb2w) hd hs (hL.on hb2w) (T.on hb2w) (shaped_ons hS hb2w)).mono ?_
  rintro e w3 ⟨rfl, hb3⟩
  clear c0 c1 c2 c3 c4 c5
  have hb3w := below_step hb2w hb3
  have hB3 := hB2.below hb3 hB2.lt
  have c0 := hB3.cell 0
  have c1 := hB3.cell 1
  have c2 := hB3.cell 2
  have c3 := hB3.cell 3
  have c4 := hB3.cell 4
  have c5 := hB3.cell 5
  clear hB2 hb3
  obtain ⟨W0, N0, hW0⟩ := bytes_of_pdu r now F vals l s 0 HROW.out hF hl H1.out H2.out h5
  obtain ⟨W1, N1, hW1⟩ := bytes_of_pdu r now F vals l s 1 HROW.out hF hl H1.out H2.out h5
  obtain ⟨W2, N2, hW2⟩ := bytes_of_pdu r now F vals l s 2 HROW.out hF hl H1.out H2.out h5
  obtain ⟨W3, N3, hW3⟩ := bytes_of_pdu r now F vals l s 3 HROW.out hF hl H1.out H2.out h5
  have HW0 := Lib.hid hW0
  have HW1 := Lib.hid hW1
  have HW2 := Lib.hid hW2
  have HW3 := Lib.hid hW3
  clear hW0 hW1 hW2 hW3
  have hgl3 := hB3.lt
  obtain ⟨G, hG⟩ : ∃ G, w3.heap.size = G := ⟨_, rfl⟩
  have hN4 : Blk (w3.alloc (.cells #[.int .i64 0, .int .i64 0, .int .i64 0, .int .i64 0] 49)) G 49 #[.int .i64 0, .int .i64 0, .int .i64 0, .int .i64 0] := by rw [← hG]; exact Blk.new w3 _ _
  have hb4 : Below w3.heap.size w3 (w3.alloc (.cells #[.int .i64 0, .int .i64 0, .int .i64 0, .int .i64 0] 49)) := (Below.refl _ _).alloc (Nat.le_refl _) _
  have hwG : w.heap.size ≤ G := by have := HG.out; omega
  go_wp2_with fail
  obtain ⟨w4, hw4⟩ : ∃ w4 : World, w3.alloc (.cells #[.int .i64 0, .int .i64 0, .int .i64 0, .int .i64 0] 49) = w4 := ⟨_, rfl⟩
  rw [hw4] at hN4 hb4 ⊢
  try rw [hG]
  have hgG : g < G := by omega
  clear hw4 hG
  clear c0 c1 c2 c3 c4 c5
  have hb4w := below_step hb3w hb4
  have hB4 := hB3.below hb4 hB3.lt
  have c0 := hB4.cell 0
  have c1 := hB4.cell 1
  have c2 := hB4.cell 2
  have c3 := hB4.cell 3
  have c4 := hB4.cell 4
  have c5 := hB4.cell 5
  clear hB3 hb4
  have z0 : W0.size ≤ 4000 := by have := HW0.out.hi; have := HW0.out.size; omega
  have z1 : W1.size ≤ 4000 := by have := HW1.out.hi; have := HW1.out.size; omega
  have z2 : W2.size ≤ 4000 := by have := HW2.out.hi; have := HW2.out.size; omega
  have z3 : W3.size ≤ 4000 := by have := HW3.out.hi; have := HW3.out.size; omega
  refine wp_loop_rounds 5 ?_
  rw [rounds_succ]
  go_wp2_with fail
  refine (pduWrite_to W0 now F vals _ l _ s 0 r _ (by decide) HROW.out hF H1.out H2.out h5 HW0.out.eq (hv.on hb4w) hl (ha.on hb4w) hd (hL.on hb4w) (T.on hb4w) (shaped_ons hS hb4w)).mono ?_
  rintro e w5 ⟨rfl, hb5⟩
  have hN5 := hN4.below hb5 hN4.lt
  clear c0 c1 c2 c3 c4 c5
  have hb5w := below_step hb4w hb5
  have hB5 := hB4.below hb5 hB4.lt
  have c0 := hB5.cell 0
  have c1 := hB5.cell 1
  have c2 := hB5.cell 2
  have c3 := hB5.cell 3
  have c4 := hB5.cell 4
  have c5 := hB5.cell 5
  clear hB4 hb5
  have nj := hN5.cell 0
  have mj := hN5.frozen 0
  go_wp2_with fail
  obtain ⟨w6, hw6⟩ : ∃ w' : World, w5.setCell ⟨G, 0, none⟩ (.int .i64 W0.size) = w' := ⟨_, rfl⟩
  have hb6w : Below w.heap.size w w6 := by rw [← hw6]; exact hb5w.setCell (by simp only; omega) _
  have hB6 := hB5.far (p := ⟨G, 0, none⟩) (by simp only; omega) (.int .i64 W0.size)
  have hN6 : Blk w6 G 49 #[.int .i64 W0.size, .int .i64 0, .int .i64 0, .int .i64 0] := by rw [← hw6]; exact hN5.put 0 _
  rw [hw6] at hB6
  rw [hw6]
  clear nj mj hw6 c0 c1 c2 c3 c4 c5 hN4 hN5 hB5 hb5w
  have c0 := hB6.cell 0
  have c1 := hB6.cell 1
  have c2 := hB6.cell 2
  have c3 := hB6.cell 3
  have c4 := hB6.cell 4
  have c5 := hB6.cell 5
  rw [rounds_succ]
  go_wp2_with fail
  refine (pduWrite_to W1 now F vals _ l _ s 1 r _ (by decide) HROW.out hF H1.out H2.out h5 HW1.out.eq (hv.on hb6w) hl (ha.on hb6w) hd (hL.on hb6w) (T.on hb6w) (shaped_ons hS hb6w)).mono ?_
  rintro e w7 ⟨rfl, hb7⟩
  have hN7 := hN6.below hb7 hN6.lt
  clear c0 c1 c2 c3 c4 c5
  have hb7w := below_step hb6w hb7
  have hB7 := hB6.below hb7 hB6.lt
  have c0 := hB7.cell 0
  have c1 := hB7.cell 1
  have c2 := hB7.cell 2
  have c3 := hB7.cell 3
  have c4 := hB7.cell 4
  have c5 := hB7.cell 5
  clear hB6 hb7
  have nj := hN7.cell 1
  have mj := hN7.frozen 1
  go_wp2_with fail
  obtain ⟨w8, hw8⟩ : ∃ w' : World, w7.setCell ⟨G, 1, none⟩ (.int .i64 W1.size) = w' := ⟨_, rfl⟩
  have hb8w : Below w.heap.size w w8 := by rw [← hw8]; exact hb7w.setCell (by simp only; omega) _
  have hB8 := hB7.far (p := ⟨G, 1, none⟩) (by simp only; omega) (.int .i64 W1.size)
  have hN8 : Blk w8 G 49 #[.int .i64 W0.size, .int .i64 W1.size, .int .i64 0, .int .i64 0] := by rw [← hw8]; exact hN7.put 1 _
  rw [hw8] at hB8
  rw [hw8]
  clear nj mj hw8 c0 c1 c2 c3 c4 c5 hN6 hN7 hB7 hb7w
  have c0 := hB8.cell 0
  have c1 := hB8.cell 1
  have c2 := hB8.cell 2
  have c3 := hB8.cell 3
  have c4 := hB8.cell 4
  have c5 := hB8.cell 5
  rw [rounds_succ]
  go_wp2_with fail
  refine (pduWrite_to W2 now F vals _ l _ s 2 r _ (by decide) HROW.out hF H1.out H2.out h5 HW2.out.eq (hv.on hb8w) hl (ha.on hb8w) hd (hL.on hb8w) (T.on hb8w) (shaped_ons hS hb8w)).mono ?_
  rintro e w9 ⟨rfl, hb9⟩
  have hN9 := hN8.below hb9 hN8.lt
  clear c0 c1 c2 c3 c4 c5
  have hb9w := below_step hb8w hb9
  have hB9 := hB8.below hb9 hB8.lt
  have c0 := hB9.cell 0
  have c1 := hB9.cell 1
  have c2 := hB9.cell 2
  have c3 := hB9.cell 3
  have c4 := hB9.cell 4
  have c5 := hB9.cell 5
  clear hB8 hb9
  have nj := hN9.cell 2
  have mj := hN9.frozen 2
  go_wp2_with fail
  obtain ⟨w10, hw10⟩ : ∃ w' : World, w9.setCell ⟨G, 2, none⟩ (.int .i64 W2.size) = w' := ⟨_, rfl⟩
  have hb10w : Below w.heap.size w w10 := by rw [← hw10]; exact hb9w.setCell (by simp only; omega) _
  have hB10 := hB9.far (p := ⟨G, 2, none⟩) (by simp only; omega) (.int .i64 W2.size)
  have hN10 : Blk w10 G 49 #[.int .i64 W0.size, .int .i64 W1.size, .int .i64 W2.size, .int .i64 0] := by rw [← hw10]; exact hN9.put 2 _
  rw [hw10] at hB10
  rw [hw10]
  clear nj mj hw10 c0 c1 c2 c3 c4 c5 hN8 hN9 hB9 hb9w
  have c0 := hB10.cell 0
  have c1 := hB10.cell 1
  have c2 := hB10.cell 2
  have c3 := hB10.cell 3
  have c4 := hB10.cell 4
  have c5 := hB10.cell 5
  rw [rounds_succ]
  go_wp2_with fail
  refine (pduWrite_to W3 now F vals _ l _ s 3 r _ (by decide) HROW.out hF H1.out H2.out h5 HW3.out.eq (hv.on hb10w) hl (ha.on hb10w) hd (hL.on hb10w) (T.on hb10w) (shaped_ons hS hb10w)).mono ?_
  rintro e w11 ⟨rfl, hb11⟩
  have hN11 := hN10.below hb11 hN10.lt
  clear c0 c1 c2 c3 c4 c5
  have hb11w := below_step hb10w hb11
  have hB11 := hB10.below hb11 hB10.lt
  have c0 := hB11.cell 0
  have c1 := hB11.cell 1
  have c2 := hB11.cell 2
  have c3 := hB11.cell 3
  have c4 := hB11.cell 4
  have c5 := hB11.cell 5
  clear hB10 hb11
  have nj := hN11.cell 3
  have mj := hN11.frozen 3
  go_wp2_with fail
  obtain ⟨w12, hw12⟩ : ∃ w' : World, w11.setCell ⟨G, 3, none⟩ (.int .i64 W3.size) = w' := ⟨_, rfl⟩
  have hb12w : Below w.heap.size w w12 := by rw [← hw12]; exact hb11w.setCell (by simp only; omega) _
  have hB12 := hB11.far (p := ⟨G, 3, none⟩) (by simp only; omega) (.int .i64 W3.size)
  have hN12 : Blk w12 G 49 #[.int .i64 W0.size, .int .i64 W1.size, .int .i64 W2.size, .int .i64 W3.size] := by rw [← hw12]; exact hN11.put 3 _
  rw [hw12] at hB12
  rw [hw12]
  clear nj mj hw12 c0 c1 c2 c3 c4 c5 hN10 hN11 hB11 hb11w
  have c0 := hB12.cell 0
  have c1 := hB12.cell 1
  have c2 := hB12.cell 2
  have c3 := hB12.cell 3
  have c4 := hB12.cell 4
  have c5 := hB12.cell 5
  obtain ⟨M, hM⟩ : ∃ M : ByteArray, (⟨(ahsB l).toArray⟩ : ByteArray) = M := ⟨_, rfl⟩
  have hall := right_none l 0 0 (by omega) H2.out
  have hMz : M.size = sumLen l := by rw [← hM, size_mkl]; exact ahsB_len l
  have hM2 : M.size ≤ 1020 := by omega
  have HM := Lib.hid hM
  have HMZ := Lib.hid hMz
  clear hM hMz hall
  rw [rounds_succ]
  go_wp2_with fail
  refine (ahsWrite_ok l _ _ (ha.on hb12w) hd H2.out).mono ?_
  rintro e w13 ⟨rfl, hb13⟩
  rw [HM.out]
  have hN13 := hN12.below hb13 hN12.lt
  clear c0 c1 c2 c3 c4 c5
  have hb13w := below_step hb12w hb13
  have hB13 := hB12.below hb13 hB12.lt
  have c0 := hB13.cell 0
  have c1 := hB13.cell 1
  have c2 := hB13.cell 2
  have c3 := hB13.cell 3
  have c4 := hB13.cell 4
  have c5 := hB13.cell 5
  clear hB12 hb13
  have n0 := hN13.cell 0
  have n1 := hN13.cell 1
  have n2 := hN13.cell 2
  have n3 := hN13.cell 3
  obtain ⟨P, hP⟩ : ∃ P : ByteArray, (⟨(padded s.data.toList).toArray⟩ : ByteArray) = P := ⟨_, rfl⟩
  have hPz : P.size = s.size + padN s.size := by rw [← hP, size_mkl, padded_len, len_of]
  have hp3 : padN s.size ≤ 3 := by have := padI_rng s.size; unfold padN; omega
  have hP2 : P.size ≤ 4000 := by omega
  have l0 : W0.size = 48 + M.size + P.size := by have := HW0.out.size; have h := PB_len r now F vals l s 0 HROW.out; rw [← HW0.out.list, len_of] at h; rw [h, HMZ.out, hPz]; show 48 + sumLen l + 0 + (s.size + padN s.size) + 0 = _; omega
  have l1 : W1.size = W0.size + 4 := by have h := PB_len r now F vals l s 1 HROW.out; rw [← HW1.out.list, len_of] at h; rw [h, l0, HMZ.out, hPz]; show 48 + sumLen l + 4 + (s.size + padN s.size) + 0 = _; omega
  have l2 : W2.size = W0.size + (if 0 < s.size then 4 else 0) := by
    have h := PB_len r now F vals l s 2 HROW.out
    rw [← HW2.out.list, len_of] at h
    have hd2 : ddN (ddM 2) s.size = if 0 < s.size then 4 else 0 := by unfold ddN; rw [show ddM 2 = true from rfl, Bool.true_and]; simp
    rw [h, l0, HMZ.out, hPz, hd2]
    show 48 + sumLen l + 0 + (s.size + padN s.size) + _ = _
    omega
  have l3 : W3.size = W1.size + (if 0 < s.size then 4 else 0) := by
    have h := PB_len r now F vals l s 3 HROW.out
    rw [← HW3.out.list, len_of] at h
    have hd2 : ddN (ddM 3) s.size = if 0 < s.size then 4 else 0 := by unfold ddN; rw [show ddM 3 = true from rfl, Bool.true_and]; simp
    rw [h, l1, l0, HMZ.out, hPz, hd2]
    show 48 + sumLen l + 4 + (s.size + padN s.size) + _ = _
    omega
  have HP := Lib.hid hP
  by_cases hs0 : s.size = 0
  · have s0 : s.toList = [] := by rw [← List.length_eq_zero_iff, toList_of, len_of, hs0]
    have s1 : s.toList.isEmpty = true := by rw [s0]; rfl
    rw [if_neg (by omega)] at l2 l3
    have e0 : ((W0.size : Int) == 48 + M.size + P.size) = true := by rw [beq_iff_eq]; omega
    have e1 : ((W1.size : Int) == W0.size + 4) = true := by rw [beq_iff_eq]; omega
    have e2 : ((W2.size : Int) == W0.size) = true := by rw [beq_iff_eq]; omega
    have e3 : ((W3.size : Int) == W1.size) = true := by rw [beq_iff_eq]; omega
    have r0 : IntKind.i64.wrap (48 + (M.size : Int)) = 48 + (M.size : Int) := wrap_nat _ (by omega) (by omega)
    have r1 : IntKind.i64.wrap (48 + (M.size : Int) + (P.size : Int)) = 48 + (M.size : Int) + (P.size : Int) := wrap_nat _ (by omega) (by omega)
    have r2 : IntKind.i64.wrap ((W0.size : Int) + 4) = (W0.size : Int) + 4 := wrap_nat _ (by omega) (by omega)
    have r3 : IntKind.i64.wrap (W0.size : Int) = (W0.size : Int) := wrap_nat _ (by omega) (by omega)
    have r4 : IntKind.i64.wrap (W1.size : Int) = (W1.size : Int) := wrap_nat _ (by omega) (by omega)
    clear l0 l1 l2 l3 hP hPz
    go_wp2_with fail
    go_region_held3 (fun w' => w'.cell? ⟨g, 5, none⟩ = some (.string s) ∧ w'.cell? ⟨G, 0, none⟩ = some (.int .i64 W0.size) ∧ w'.cell? ⟨G, 1, none⟩ = some (.int .i64 W1.size) ∧ w'.cell? ⟨G, 2, none⟩ = some (.int .i64 W2.size) ∧ w'.cell? ⟨G, 3, none⟩ = some (.int .i64 W3.size)) (first | go_keep | exact ⟨c5, n0, n1, n2, n3⟩) ((go_at_call 25; refine (padded_any s _ (by omega)).mono ?_; rintro e w' ⟨rfl, rfl⟩; rw [HP.out]))
    have hb14w := hb13w.drew
    clear r0 r1 r2 r3 r4
    go_wp2_with fail
    go_ret
    first | exact ⟨by simp, hb14w⟩ | exact ⟨by simp, by rw [← HG.out]; exact hb14w⟩
  · have s0 : ¬ s.toList = [] := by rw [← List.length_eq_zero_iff, toList_of, len_of]; exact hs0
    have s1 : s.toList.isEmpty = false := by simpa using s0
    rw [if_pos (by omega)] at l2 l3
    have e0 : ((W0.size : Int) == 48 + M.size + P.size) = true := by rw [beq_iff_eq]; omega
    have e1 : ((W1.size : Int) == W0.size + 4) = true := by rw [beq_iff_eq]; omega
    have e2 : ((W2.size : Int) == W0.size + 4) = true := by rw [beq_iff_eq]; omega
    have e3 : ((W3.size : Int) == W1.size + 4) = true := by rw [beq_iff_eq]; omega
    have r0 : IntKind.i64.wrap (48 + (M.size : Int)) = 48 + (M.size : Int) := wrap_nat _ (by omega) (by omega)
    have r1 : IntKind.i64.wrap (48 + (M.size : Int) + (P.size : Int)) = 48 + (M.size : Int) + (P.size : Int) := wrap_nat _ (by omega) (by omega)
    have r2 : IntKind.i64.wrap ((W0.size : Int) + 4) = (W0.size : Int) + 4 := wrap_nat _ (by omega) (by omega)
    have r3 : IntKind.i64.wrap ((W0.size : Int) + 4) = (W0.size : Int) + 4 := wrap_nat _ (by omega) (by omega)
    have r4 : IntKind.i64.wrap ((W1.size : Int) + 4) = (W1.size : Int) + 4 := wrap_nat _ (by omega) (by omega)
    clear l0 l1 l2 l3 hP hPz
    go_wp2_with fail
    go_region_held3 (fun w' => w'.cell? ⟨g, 5, none⟩ = some (.string s) ∧ w'.cell? ⟨G, 0, none⟩ = some (.int .i64 W0.size) ∧ w'.cell? ⟨G, 1, none⟩ = some (.int .i64 W1.size) ∧ w'.cell? ⟨G, 2, none⟩ = some (.int .i64 W2.size) ∧ w'.cell? ⟨G, 3, none⟩ = some (.int .i64 W3.size)) (first | go_keep | exact ⟨c5, n0, n1, n2, n3⟩) ((go_at_call 25; refine (padded_any s _ (by omega)).mono ?_; rintro e w' ⟨rfl, rfl⟩; rw [HP.out]))
    have hb14w := hb13w.drew
    clear r0 r1 r2 r3 r4
    go_wp2_with fail
    go_ret
    first | exact ⟨by simp, hb14w⟩ | exact ⟨by simp, by rw [← HG.out]; exact hb14w⟩
end Go.Proofs.YtehellmpghfopaaGreatDoor
