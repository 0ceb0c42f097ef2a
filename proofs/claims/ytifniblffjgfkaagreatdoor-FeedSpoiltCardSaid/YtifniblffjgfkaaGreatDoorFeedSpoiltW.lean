/- The walk of the law FeedSpoilt. -/
import Derived.Test.YtifniblffjgfkaaGreatDoorFeedStopsW
import Derived.Test.YtifniblffjgfkaaGreatDoorFeedSpoiltP
namespace Go.Proofs.YtifniblffjgfkaaGreatDoor
open Go.ChangeShapes Go.WideShapes Go.ChangeAt Go.RowKit Go.Shelf
set_option linter.unusedVariables false
theorem xor_byte (c : UInt8) (n : Nat) (hn : n < 256) : bits .xor .u8 (c.toNat : Int) (n : Int) = ((c ^^^ UInt8.ofNat n).toNat : Nat) := by
  rw [u8_xor_nat _ _ c.toNat_lt hn, UInt8.toNat_xor, UInt8.toNat_ofNat', Nat.mod_eq_of_lt hn]
theorem set_modify (m : List UInt8) (I : Nat) (c b : UInt8) (h : m[I]? = some c) : m.set I (c ^^^ b) = m.modify I (· ^^^ b) := by
  apply List.ext_getElem?
  intro i
  rw [List.getElem?_set, List.getElem?_modify]
  by_cases e : I = i
  · subst e
    have hl := (List.getElem?_eq_some_iff.1 h).1
    obtain ⟨_, h2⟩ := List.getElem?_eq_some_iff.1 h
    simp [hl, h2]
  · simp [e]
theorem all_spoilt {r : HeadR} {now : Bool} {F : Nat} {vals : List Nat} {l : AhsL} {d : ByteArray} (h : PduR r now F vals l d) {r2 : HeadR} {now2 : Bool} {F2 : Nat} {vals2 : List Nat} {l2 : AhsL} {d2 : ByteArray} (h2 : PduR r2 now2 F2 vals2 l2 d2) (j : Nat) (b : UInt8) (hj : j < d.size) (hb : b ≠ 0) :
    allF 100000 (hdM 2) (ddM 2) ((PB r now F vals l d 2).modify (48 + (ahsB l).length + j) (· ^^^ b) ++ PB r2 now2 F2 vals2 l2 d2 2) = ([{ zeroPc with sp := (PB r now F vals l d 2).take 48 }, pcOf r2 now2 F2 vals2 l2 d2], 0, []) := by
  have hn := next_spoilt h 100000 j b (PB r2 now2 F2 vals2 l2 d2 2) h.size hj hb
  have hl : ((PB r now F vals l d 2).modify (48 + (ahsB l).length + j) (· ^^^ b)).length = (PB r now F vals l d 2).length := by simp
  have ha := all_back h2 100000 2 [] h2.size
  rw [List.append_nil, allF_no (nextP_nil _ _ _)] at ha
  rw [allF_pc (show nextP 100000 (hdM 2) (ddM 2) _ = _ from hn), List.drop_left' hl, ha]
set_option maxRecDepth 20000 in
set_option maxHeartbeats 8000000 in
theorem spoiltFeed (op : Int) (now : Bool) (fl : Int) (vals : List Nat) (v : Value) (l : AhsL) (av : Value) (s : ByteArray) (op2 : Int) (now2 : Bool) (fl2 : Int) (vals2 : List Nat) (v2 : Value) (l2 : AhsL) (av2 : Value) (s2 : ByteArray) (at_ bi : Int) (w : World) (h0 : -9223372036854775808 ≤ op ∧ op ≤ 9223372036854775807) (hf : -9223372036854775808 ≤ fl ∧ fl ≤ 9223372036854775807) (hv : SRd w v 1 vals.length (vals.map u64V)) (hl : ∀ x ∈ vals, x < 18446744073709551616) (ha : SRd w av 2 l.length (ahsCells l)) (hc : ∀ q ∈ l, -9223372036854775808 ≤ q.1 ∧ q.1 ≤ 9223372036854775807) (hd : ∀ p ∈ l, p.2.size ≤ 140737488351232) (hs : s.size ≤ 140737488351232) (h02 : -9223372036854775808 ≤ op2 ∧ op2 ≤ 9223372036854775807) (hf2 : -9223372036854775808 ≤ fl2 ∧ fl2 ≤ 9223372036854775807) (hv2 : SRd w v2 1 vals2.length (vals2.map u64V)) (hl2 : ∀ x ∈ vals2, x < 18446744073709551616) (ha2 : SRd w av2 2 l2.length (ahsCells l2)) (hc2 : ∀ q ∈ l2, -9223372036854775808 ≤ q.1 ∧ q.1 ≤ 9223372036854775807) (hd2 : ∀ p ∈ l2, p.2.size ≤ 140737488351232) (hs2 : s2.size ≤ 140737488351232)
    (hat : -9223372036854775808 ≤ at_ ∧ at_ ≤ 9223372036854775807) (hbi : 0 ≤ bi ∧ bi ≤ 255) (hL : LaidE w) (T : Tabs w) (hS : w.ShapedOpen Tryz.prog) :
    Calls Tryz.prog 4 #[.agg #[.int .i64 op, .bool now, .int .i64 fl, v, av, .string s], .agg #[.int .i64 op2, .bool now2, .int .i64 fl2, v2, av2, .string s2], .int .i64 at_, .int .u8 bi] w fun e w' => e = .returned (.bool true) ∧ Below w.heap.size w w' := by
  clear hc hc2
  obtain ⟨A, cap, rfl⟩ : ∃ A cap, v = .slice A vals.length cap := by obtain ⟨_, A, cap, hv, _⟩ := hv; exact ⟨A, cap, hv⟩
  obtain ⟨B, bcap, rfl⟩ : ∃ A cap, av = .slice A l.length cap := by obtain ⟨_, A, cap, hv, _⟩ := ha; exact ⟨A, cap, hv⟩
  obtain ⟨A2, cap2, rfl⟩ : ∃ A cap, v2 = .slice A vals2.length cap := by obtain ⟨_, A, cap, hv, _⟩ := hv2; exact ⟨A, cap, hv⟩
  obtain ⟨B2, bcap2, rfl⟩ : ∃ A cap, av2 = .slice A l2.length cap := by obtain ⟨_, A, cap, hv, _⟩ := ha2; exact ⟨A, cap, hv⟩
  obtain ⟨n, rfl⟩ := Int.eq_ofNat_of_zero_le hbi.1
  have hn256 : n < 256 := by omega
  have hb0w : Below w.heap.size w ((w.alloc (.cells #[.int .i64 op, .bool now, .int .i64 fl, .slice A vals.length cap, .slice B l.length bcap, .string s] 38)).alloc (.cells #[.int .i64 op2, .bool now2, .int .i64 fl2, .slice A2 vals2.length cap2, .slice B2 l2.length bcap2, .string s2] 38)) := ((Below.refl _ _).alloc (Nat.le_refl _) _).alloc (by simp) _
  have hP0 := (Blk.new w 38 #[.int .i64 op, .bool now, .int .i64 fl, .slice A vals.length cap, .slice B l.length bcap, .string s]).alloc (.cells #[.int .i64 op2, .bool now2, .int .i64 fl2, .slice A2 vals2.length cap2, .slice B2 l2.length bcap2, .string s2] 38)
  have hQ0 : Blk ((w.alloc (.cells #[.int .i64 op, .bool now, .int .i64 fl, .slice A vals.length cap, .slice B l.length bcap, .string s] 38)).alloc (.cells #[.int .i64 op2, .bool now2, .int .i64 fl2, .slice A2 vals2.length cap2, .slice B2 l2.length bcap2, .string s2] 38)) (w.heap.size + 1) 38 #[.int .i64 op2, .bool now2, .int .i64 fl2, .slice A2 vals2.length cap2, .slice B2 l2.length bcap2, .string s2] := by
    have := Blk.new (w.alloc (.cells #[.int .i64 op, .bool now, .int .i64 fl, .slice A vals.length cap, .slice B l.length bcap, .string s] 38)) 38 #[.int .i64 op2, .bool now2, .int .i64 fl2, .slice A2 vals2.length cap2, .slice B2 l2.length bcap2, .string s2]
    simpa using this
  obtain ⟨g, hg⟩ : ∃ g, w.heap.size = g := ⟨_, rfl⟩
  rw [hg] at hP0 hQ0
  go_enter Tryz.func4, Tryz.ntmps4
  go_wp2_with fail
  obtain ⟨w0, hw0⟩ : ∃ w0 : World, (w.alloc (.cells #[.int .i64 op, .bool now, .int .i64 fl, .slice A vals.length cap, .slice B l.length bcap, .string s] 38)).alloc (.cells #[.int .i64 op2, .bool now2, .int .i64 fl2, .slice A2 vals2.length cap2, .slice B2 l2.length bcap2, .string s2] 38) = w0 := ⟨_, rfl⟩
  rw [hw0] at hb0w hP0 hQ0 ⊢
  try rw [hg]
  have HG := Lib.hid hg
  clear hw0 hg
  refine (fed_fact _ (hL.on hb0w) (T.on hb0w) (shaped_ons hS hb0w)).mono ?_
  rintro e w1 ⟨rfl, hb1⟩
  have hb1w := below_step hb0w hb1
  have hP1 := hP0.below hb1 hP0.lt
  have hQ1 := hQ0.below hb1 hQ0.lt
  have c0 := hP1.cell 0
  have c1 := hP1.cell 1
  have c2 := hP1.cell 2
  have c3 := hP1.cell 3
  have c4 := hP1.cell 4
  have c5 := hP1.cell 5
  have k0 := hQ1.cell 0
  have k1 := hQ1.cell 1
  have k2 := hQ1.cell 2
  have k3 := hQ1.cell 3
  have k4 := hQ1.cell 4
  have k5 := hQ1.cell 5
  clear hP0 hQ0 hb1
  go_wp2_with fail
  refine (wrapped_fact _ (hL.on hb1w) (T.on hb1w) (shaped_ons hS hb1w)).mono ?_
  rintro e w2 ⟨rfl, hb2⟩
  clear c0 c1 c2 c3 c4 c5 k0 k1 k2 k3 k4 k5
  have hb2w := below_step hb1w hb2
  have hP2 := hP1.below hb2 hP1.lt
  have hQ2 := hQ1.below hb2 hQ1.lt
  have c0 := hP2.cell 0
  have c1 := hP2.cell 1
  have c2 := hP2.cell 2
  have c3 := hP2.cell 3
  have c4 := hP2.cell 4
  have c5 := hP2.cell 5
  have k0 := hQ2.cell 0
  have k1 := hQ2.cell 1
  have k2 := hQ2.cell 2
  have k3 := hQ2.cell 3
  have k4 := hQ2.cell 4
  have k5 := hQ2.cell 5
  clear hP1 hQ1 hb2
  go_wp2_with fail
  refine (large_any op now fl vals _ l _ s _ (hv.on hb2w) (ha.on hb2w) hd hs).mono ?_
  rintro e w3 ⟨⟨b3, rfl, hsm⟩, hb3⟩
  clear c0 c1 c2 c3 c4 c5 k0 k1 k2 k3 k4 k5
  have hb3w := below_step hb2w hb3
  have hP3 := hP2.below hb3 hP2.lt
  have hQ3 := hQ2.below hb3 hQ2.lt
  have c0 := hP3.cell 0
  have c1 := hP3.cell 1
  have c2 := hP3.cell 2
  have c3 := hP3.cell 3
  have c4 := hP3.cell 4
  have c5 := hP3.cell 5
  have k0 := hQ3.cell 0
  have k1 := hQ3.cell 1
  have k2 := hQ3.cell 2
  have k3 := hQ3.cell 3
  have k4 := hQ3.cell 4
  have k5 := hQ3.cell 5
  clear hP2 hQ2 hb3
  rcases b3 with _ | _
  rotate_left
  · go_wp2_with fail
    go_ret
    first | exact ⟨rfl, hb3w⟩ | exact ⟨rfl, by rw [← HG.out]; exact hb3w⟩
  obtain ⟨hz1, hz2⟩ := hsm rfl
  clear hsm
  go_wp2_with fail
  refine (large_any op2 now2 fl2 vals2 _ l2 _ s2 _ (hv2.on hb3w) (ha2.on hb3w) hd2 hs2).mono ?_
  rintro e w4 ⟨⟨b4, rfl, hsm2⟩, hb4⟩
  clear c0 c1 c2 c3 c4 c5 k0 k1 k2 k3 k4 k5
  have hb4w := below_step hb3w hb4
  have hP4 := hP3.below hb4 hP3.lt
  have hQ4 := hQ3.below hb4 hQ3.lt
  have c0 := hP4.cell 0
  have c1 := hP4.cell 1
  have c2 := hP4.cell 2
  have c3 := hP4.cell 3
  have c4 := hP4.cell 4
  have c5 := hP4.cell 5
  have k0 := hQ4.cell 0
  have k1 := hQ4.cell 1
  have k2 := hQ4.cell 2
  have k3 := hQ4.cell 3
  have k4 := hQ4.cell 4
  have k5 := hQ4.cell 5
  clear hP3 hQ3 hb4
  rcases b4 with _ | _
  rotate_left
  · go_wp2_with fail
    go_ret
    first | exact ⟨rfl, hb4w⟩ | exact ⟨rfl, by rw [← HG.out]; exact hb4w⟩
  obtain ⟨hz12, hz22⟩ := hsm2 rfl
  clear hsm2
  rcases hr : pduR op now fl vals l s.size with _ | cc
  rotate_left
  · have HR := Lib.hid hr
    clear hr
    go_wp2_with fail
    refine (pduRight_bad op now fl vals _ l _ s cc _ HR.out h0 hf (hv.on hb4w) hl (ha.on hb4w) hd hs (hL.on hb4w) (T.on hb4w) (shaped_ons hS hb4w)).mono ?_
    rintro e w5 ⟨rfl, hb5⟩
    have hb5w := below_step hb4w hb5
    go_wp2_with fail
    go_ret
    first | exact ⟨rfl, hb5w⟩ | exact ⟨rfl, by rw [← HG.out]; exact hb5w⟩
  obtain ⟨r, F, rfl, hrow, rfl, hF, h1, h2, h5⟩ := pdu_row hr hf.2
  have HR := Lib.hid hr
  have HROW := Lib.hid hrow
  have HPR := Lib.hid (⟨hrow, hF, hl, h1, h2, h5⟩ : PduR r now F vals l s)
  have H1 := Lib.hid h1
  have H2 := Lib.hid h2
  clear hr hrow h1 h2
  go_wp2_with fail
  refine (pduRight_nil (r.1 : Int) now F vals _ l _ s _ HR.out h0 hf (hv.on hb4w) hl (ha.on hb4w) hd hs (hL.on hb4w) (T.on hb4w) (shaped_ons hS hb4w)).mono ?_
  rintro e w5 ⟨rfl, hb5⟩
  clear c0 c1 c2 c3 c4 c5 k0 k1 k2 k3 k4 k5
  have hb5w := below_step hb4w hb5
  have hP5 := hP4.below hb5 hP4.lt
  have hQ5 := hQ4.below hb5 hQ4.lt
  have c0 := hP5.cell 0
  have c1 := hP5.cell 1
  have c2 := hP5.cell 2
  have c3 := hP5.cell 3
  have c4 := hP5.cell 4
  have c5 := hP5.cell 5
  have k0 := hQ5.cell 0
  have k1 := hQ5.cell 1
  have k2 := hQ5.cell 2
  have k3 := hQ5.cell 3
  have k4 := hQ5.cell 4
  have k5 := hQ5.cell 5
  clear hP4 hQ4 hb5
  rcases hr2 : pduR op2 now2 fl2 vals2 l2 s2.size with _ | cc2
  rotate_left
  · have HR := Lib.hid hr2
    clear hr2
    go_wp2_with fail
    refine (pduRight_bad op2 now2 fl2 vals2 _ l2 _ s2 cc2 _ HR.out h02 hf2 (hv2.on hb5w) hl2 (ha2.on hb5w) hd2 hs2 (hL.on hb5w) (T.on hb5w) (shaped_ons hS hb5w)).mono ?_
    rintro e w6 ⟨rfl, hb6⟩
    have hb6w := below_step hb5w hb6
    go_wp2_with fail
    go_ret
    first | exact ⟨rfl, hb6w⟩ | exact ⟨rfl, by rw [← HG.out]; exact hb6w⟩
  obtain ⟨r2, F2, rfl, hrow2, rfl, hF2, h12, h22, h52⟩ := pdu_row hr2 hf2.2
  have HR2 := Lib.hid hr2
  have HROW2 := Lib.hid hrow2
  have HPR2 := Lib.hid (⟨hrow2, hF2, hl2, h12, h22, h52⟩ : PduR r2 now2 F2 vals2 l2 s2)
  have H12 := Lib.hid h12
  have H22 := Lib.hid h22
  clear hr2 hrow2 h12 h22
  go_wp2_with fail
  refine (pduRight_nil (r2.1 : Int) now2 F2 vals2 _ l2 _ s2 _ HR2.out h02 hf2 (hv2.on hb5w) hl2 (ha2.on hb5w) hd2 hs2 (hL.on hb5w) (T.on hb5w) (shaped_ons hS hb5w)).mono ?_
  rintro e w6 ⟨rfl, hb6⟩
  clear c0 c1 c2 c3 c4 c5 k0 k1 k2 k3 k4 k5
  have hb6w := below_step hb5w hb6
  have hP6 := hP5.below hb6 hP5.lt
  have hQ6 := hQ5.below hb6 hQ5.lt
  have c0 := hP6.cell 0
  have c1 := hP6.cell 1
  have c2 := hP6.cell 2
  have c3 := hP6.cell 3
  have c4 := hP6.cell 4
  have c5 := hP6.cell 5
  have k0 := hQ6.cell 0
  have k1 := hQ6.cell 1
  have k2 := hQ6.cell 2
  have k3 := hQ6.cell 3
  have k4 := hQ6.cell 4
  have k5 := hQ6.cell 5
  clear hP5 hQ5 hb6
  by_cases hse0 : s.size = 0
  · have hse : s.toList = [] := by
      rw [toList_of]
      exact List.eq_nil_of_length_eq_zero (by rw [len_of]; exact hse0)
    clear hse0
    go_wp2_with fail
    go_ret
    first | exact ⟨rfl, hb6w⟩ | exact ⟨rfl, by rw [← HG.out]; exact hb6w⟩
  have hse1 : ¬ s.toList = [] := by
    intro h
    rw [toList_of] at h
    have := len_of s
    rw [h] at this
    exact hse0 (by simpa using this.symm)
  have hse2 : s.toList.isEmpty = false := by simpa using hse1
  by_cases hn0 : n = 0
  · subst hn0
    go_wp2_with fail
    go_ret
    first | exact ⟨rfl, hb6w⟩ | exact ⟨rfl, by rw [← HG.out]; exact hb6w⟩
  have hbz : ((n : Int) == 0) = false := by simp; omega
  obtain ⟨j, hj, hjs⟩ := pickN at_ s.size (by omega)
  have HJ := Lib.hid hj
  clear hj
  have hPB := PB_bound r now F vals l s 2 HPR.out.row HPR.out.ahs
  have hPB2 := PB_bound r2 now2 F2 vals2 l2 s2 2 HPR2.out.row HPR2.out.ahs
  have hPL := PB_len r now F vals l s 2 HPR.out.row
  obtain ⟨W, hWe⟩ : ∃ W : ByteArray, W = ⟨(PB r now F vals l s 2).toArray⟩ := ⟨_, rfl⟩
  have hWl : W.data.toList = PB r now F vals l s 2 := by rw [hWe]
  rw [← hWl, len_of] at hPB
  obtain ⟨W2, hWe2⟩ : ∃ W : ByteArray, W = ⟨(PB r2 now2 F2 vals2 l2 s2 2).toArray⟩ := ⟨_, rfl⟩
  have hWl2 : W2.data.toList = PB r2 now2 F2 vals2 l2 s2 2 := by rw [hWe2]
  rw [← hWl2, len_of] at hPB2
  rw [← hWl, len_of] at hPL
  have hsum := (right_none l 0 0 (by omega) H2.out).2
  obtain ⟨M, hMe⟩ : ∃ M : ByteArray, (⟨(ahsB l).toArray⟩ : ByteArray) = M := ⟨_, rfl⟩
  have hMz : M.size = sumLen l := by rw [← hMe, size_mkl, ahsB_len]
  have hdn2 : ddN (ddM 2) s.size = 4 := by unfold ddN; rw [show decide (0 < s.size) = true from by simp; omega]; rfl
  have hhd2 : hdN (hdM 2) = 0 := rfl
  rw [hdn2, hhd2] at hPL
  obtain ⟨I, hIe⟩ : ∃ I, 48 + M.size + j = I := ⟨_, rfl⟩
  have hIW : I < W.size := by omega
  have hII : (48 : Int) + (M.size : Int) + (j : Int) = (I : Int) := by omega
  have hWz : 48 + s.size ≤ W.size := by omega
  have hWb : W.size ≤ 4000 := by omega
  have hWb2 : W2.size ≤ 4000 := by omega
  have hMb : M.size ≤ 1020 := by omega
  obtain ⟨c, hc⟩ : ∃ c, W.data.toList[I]? = some c := ⟨_, List.getElem?_eq_getElem (by rw [len_of]; exact hIW)⟩
  have hall := all_spoilt HPR.out HPR2.out j (UInt8.ofNat n) hjs (by intro h; have := congrArg UInt8.toNat h; rw [UInt8.toNat_ofNat', Nat.mod_eq_of_lt hn256] at this; exact hn0 this)
  rw [← hWl, ← hWl2, show 48 + (ahsB l).length + j = I from by rw [← hIe, hMz, ahsB_len]] at hall
  have hx := xor_byte c n hn256
  have hset := set_modify W.data.toList I c (UInt8.ofNat n) hc
  have HX := Lib.hid hx
  have HSET := Lib.hid hset
  have HALL := Lib.hid hall
  have HWE := Lib.hid hWe
  have HWE2 := Lib.hid hWe2
  have HWL := Lib.hid hWl
  have HME := Lib.hid hMe
  have HII := Lib.hid hII
  have HC := Lib.hid hc
  have hWs : decide ((W.size : Int) < 48 + (s.size : Int)) = false := by simp; omega
  clear hx hset hall hWe hWe2 hWl hWl2 hMe hII hc hPB hPB2 hPL hdn2 hhd2 hIe hMz hsum hse0
  go_wp2_with fail
  refine (pduWrite_to W now F vals _ l _ s 2 r _ (by decide) HPR.out.row hF H1.out H2.out h5 HWE.out (hv.on hb6w) hl (ha.on hb6w) hd (hL.on hb6w) (T.on hb6w) (shaped_ons hS hb6w)).mono ?_
  rintro e w7 ⟨rfl, hb7⟩
  clear c0 c1 c2 c3 c4 c5 k0 k1 k2 k3 k4 k5
  have hb7w := below_step hb6w hb7
  have hP7 := hP6.below hb7 hP6.lt
  have hQ7 := hQ6.below hb7 hQ6.lt
  have c0 := hP7.cell 0
  have c1 := hP7.cell 1
  have c2 := hP7.cell 2
  have c3 := hP7.cell 3
  have c4 := hP7.cell 4
  have c5 := hP7.cell 5
  have k0 := hQ7.cell 0
  have k1 := hQ7.cell 1
  have k2 := hQ7.cell 2
  have k3 := hQ7.cell 3
  have k4 := hQ7.cell 4
  have k5 := hQ7.cell 5
  clear hP6 hQ6 hb7
  go_wp2_with fail
  refine (pduWrite_to W2 now2 F2 vals2 _ l2 _ s2 2 r2 _ (by decide) HPR2.out.row hF2 H12.out H22.out h52 HWE2.out (hv2.on hb7w) hl2 (ha2.on hb7w) hd2 (hL.on hb7w) (T.on hb7w) (shaped_ons hS hb7w)).mono ?_
  rintro e w8 ⟨rfl, hb8⟩
  clear c0 c1 c2 c3 c4 c5 k0 k1 k2 k3 k4 k5
  have hb8w := below_step hb7w hb8
  have hP8 := hP7.below hb8 hP7.lt
  have hQ8 := hQ7.below hb8 hQ7.lt
  have c0 := hP8.cell 0
  have c1 := hP8.cell 1
  have c2 := hP8.cell 2
  have c3 := hP8.cell 3
  have c4 := hP8.cell 4
  have c5 := hP8.cell 5
  have k0 := hQ8.cell 0
  have k1 := hQ8.cell 1
  have k2 := hQ8.cell 2
  have k3 := hQ8.cell 3
  have k4 := hQ8.cell 4
  have k5 := hQ8.cell 5
  clear hP7 hQ7 hb8
  go_wp2_with fail
  refine (fnew_ok 100000 _ (by omega)).mono ?_
  rintro e w9 ⟨rfl, hG9, hb9⟩
  have hgl8 := hP8.lt
  have hql8 := hQ8.lt
  clear c0 c1 c2 c3 c4 c5 k0 k1 k2 k3 k4 k5
  have hb9w := below_step hb8w hb9
  have hP9 := hP8.below hb9 hP8.lt
  have hQ9 := hQ8.below hb9 hQ8.lt
  have c0 := hP9.cell 0
  have c1 := hP9.cell 1
  have c2 := hP9.cell 2
  have c3 := hP9.cell 3
  have c4 := hP9.cell 4
  have c5 := hP9.cell 5
  have k0 := hQ9.cell 0
  have k1 := hQ9.cell 1
  have k2 := hQ9.cell 2
  have k3 := hQ9.cell 3
  have k4 := hQ9.cell 4
  have k5 := hQ9.cell 5
  clear hP8 hQ8 hb9
  obtain ⟨G, hGe⟩ : ∃ G, w8.heap.size = G := ⟨_, rfl⟩
  have hwG : w.heap.size ≤ G := by rw [← hGe]; exact hb8w.size
  have hgG : g ≠ G := by omega
  have hqG : g + 1 ≠ G := by omega
  rw [hGe] at hG9 ⊢
  clear hGe
  go_wp2_with fail
  refine (fmode_ok G ⟨#[]⟩ 100000 0 2 _ hG9 (by decide)).mono ?_
  rintro e w10 ⟨rfl, hG10, hs10⟩
  clear c0 c1 c2 c3 c4 c5 k0 k1 k2 k3 k4 k5
  have hP10 := Blk.step hP9 hs10 hgG
  have hQ10 := Blk.step hQ9 hs10 hqG
  have hb10w := below_stepG hb9w hs10 hwG
  clear hP9 hQ9 hG9 hs10
  obtain ⟨bc, C, fr, hbc, hCe, hfr, hconv⟩ := bytes_of w10 W
  have hb11 : Below w10.heap.size w10 (w10.drew.alloc (.cells C 5 fr)) := (Below.refl _ _).drew.alloc (Nat.le_refl _) _
  have hB11 : BlkM (w10.drew.alloc (.cells C 5 fr)) w10.heap.size 5 C := BlkM.new w10.drew _ _ _ _ hfr
  have HCE := Lib.hid hCe
  clear hCe
  obtain ⟨w11, hw11⟩ : ∃ w11 : World, w10.drew.alloc (.cells C 5 fr) = w11 := ⟨_, rfl⟩
  obtain ⟨gb, hgb⟩ : ∃ gb, w10.heap.size = gb := ⟨_, rfl⟩
  have hgbw : w.heap.size ≤ gb := by rw [← hgb]; exact hb10w.size
  have hgbG : gb ≠ G := by have := hG10.lt; omega
  have hgbg : g ≠ gb := by have := hP10.lt; omega
  have hgbq : g + 1 ≠ gb := by have := hQ10.lt; omega
  rw [hw11, hgb] at hB11
  rw [hw11] at hconv hb11
  rw [hgb] at hconv
  clear hw11 hgb
  have hG11 := Blk.below hG10 hb11 hG10.lt
  have hb11w := below_step hb10w hb11
  have hP11 := hP10.below hb11 hP10.lt
  have hQ11 := hQ10.below hb11 hQ10.lt
  have c0 := hP11.cell 0
  have c1 := hP11.cell 1
  have c2 := hP11.cell 2
  have c3 := hP11.cell 3
  have c4 := hP11.cell 4
  have c5 := hP11.cell 5
  have k0 := hQ11.cell 0
  have k1 := hQ11.cell 1
  have k2 := hQ11.cell 2
  have k3 := hQ11.cell 3
  have k4 := hQ11.cell 4
  have k5 := hQ11.cell 5
  clear hP10 hQ10 hb11
  go_wp2_with fail
  refine (ahsWrite_ok l _ _ (ha.on hb11w) hd H2.out).mono ?_
  rintro e w12 ⟨rfl, hb12⟩
  rw [HME.out]
  clear hconv
  have hG12 := Blk.below hG11 hb12 hG11.lt
  have hB12 := hB11.below hb12 hB11.lt
  clear c0 c1 c2 c3 c4 c5 k0 k1 k2 k3 k4 k5
  have hb12w := below_step hb11w hb12
  have hP12 := hP11.below hb12 hP11.lt
  have hQ12 := hQ11.below hb12 hQ11.lt
  have c0 := hP12.cell 0
  have c1 := hP12.cell 1
  have c2 := hP12.cell 2
  have c3 := hP12.cell 3
  have c4 := hP12.cell 4
  have c5 := hP12.cell 5
  have k0 := hQ12.cell 0
  have k1 := hQ12.cell 1
  have k2 := hQ12.cell 2
  have k3 := hQ12.cell 3
  have k4 := hQ12.cell 4
  have k5 := hQ12.cell 5
  clear hP11 hQ11 hb12
  go_wp2_with fail
  refine (pick_to at_ s.size j HJ.out (by omega) (by omega) _).mono ?_
  rintro e w' ⟨rfl, rfl⟩
  have hII := HII.out
  have hIW1 : (I : Int) < W.size := by omega
  have hIW2 : decide ((W.size : Int) ≤ (I : Int)) = false := by simp; omega
  have hI0 : (0 : Int) ≤ (I : Int) := by omega
  rw [HCE.out] at hB12
  have hcB := (hB12.cell I).trans (rowGet HC.out)
  have hfB := hB12.frozen I (rowSize (by rw [len_of]; exact hIW))
  have hput := hB12.put I (byteV (c ^^^ UInt8.ofNat n))
  rw [rowSet _ (by rw [len_of]; exact hIW), HSET.out] at hput
  have HPUT := Lib.hid hput
  have hx := HX.out
  clear hput hB11 hB12
  go_upto_region 16 with (fail)
  have hxe : (Value.int .u8 ((c.toNat ^^^ n % 256 : Nat) : Int)) = byteV (c ^^^ UInt8.ofNat n) := by unfold byteV; rw [UInt8.toNat_xor, UInt8.toNat_ofNat']
  obtain ⟨w13, hw13⟩ : ∃ w13 : World, w12.setCell ⟨gb, I, none⟩ (.int .u8 ((c.toNat ^^^ n % 256 : Nat) : Int)) = w13 := ⟨_, rfl⟩
  have hB13 : BlkM w13 gb 5 ((W.data.toList.modify I (· ^^^ UInt8.ofNat n)).map byteV ++ List.replicate (bc - W.size) (byteV 0)).toArray := by rw [← hw13, hxe]; exact HPUT.out
  have hcv := blkM_string (cap := bc) hB13
  rw [List.length_modify, len_of] at hcv
  have hb13w : Below w.heap.size w w13 := by rw [← hw13]; exact hb12w.setCell hgbw _
  have hP13 : Blk w13 g 38 #[.int .i64 r.1, .bool now, .int .i64 F, .slice A vals.length cap, .slice B l.length bcap, .string s] := by rw [← hw13]; exact Blk.far hP12 hgbg _
  have hQ13 : Blk w13 (g + 1) 38 #[.int .i64 r2.1, .bool now2, .int .i64 F2, .slice A2 vals2.length cap2, .slice B2 l2.length bcap2, .string s2] := by rw [← hw13]; exact Blk.far hQ12 hgbq _
  have hG13 : FBlk w13 G ⟨#[]⟩ 100000 2 .nilIface := by rw [← hw13]; exact Blk.far hG12 hgbG.symm _
  rw [hw13]
  clear c0 c1 c2 c3 c4 c5 k0 k1 k2 k3 k4 k5
  clear hw13 hxe hcB hfB hP12 hQ12 hG12
  have hmz : (⟨(W.data.toList.modify I (· ^^^ UInt8.ofNat n)).toArray⟩ : ByteArray).size ≤ 4000 := by rw [size_mkl, List.length_modify, len_of]; exact hWb
  obtain ⟨V, hV⟩ : ∃ V : ByteArray, (⟨(W.data.toList.modify I (· ^^^ UInt8.ofNat n)).toArray⟩ : ByteArray) = V := ⟨_, rfl⟩
  rw [hV] at hmz hcv
  have hVl : V.data.toList = W.data.toList.modify I (· ^^^ UInt8.ofNat n) := by rw [← hV]
  have hXz : (V ++ W2).size ≤ 8000 := by rw [ByteArray.size_append]; omega
  have hall := HALL.out
  rw [← hVl, ← cat_l] at hall
  have HALLX := Lib.hid hall
  clear hall hVl hV
  go_wp2_with fail
  refine (fput_ok G ⟨#[]⟩ (V ++ W2) 100000 2 _ hG13 (by show 0 + (V ++ W2).size ≤ _; omega)).mono ?_
  rintro e w14 ⟨rfl, hG14, hs14⟩
  rw [nil_cat] at hG14
  have hP14 := Blk.step hP13 hs14 hgG
  have hQ14 := Blk.step hQ13 hs14 hqG
  have hb14w := below_stepG hb13w hs14 hwG
  clear hP13 hQ13 hG13 hs14 hcv hB13
  go_wp2_with fail
  refine (fall_any G (V ++ W2) 100000 2 _ w hG14 (by decide) (by omega) hb14w hwG hL T hS).mono ?_
  rw [HALLX.out]
  rintro e w15 ⟨v15, R, rfl, hR15, hRl, hG15, hs15⟩
  simp only at hR15 hRl
  simp only [errv0]
  have hP15 := Blk.step hP14 hs15 hgG
  have hQ15 := Blk.step hQ14 hs15 hqG
  have hb15w := below_stepG hb14w hs15 hwG
  clear hP14 hQ14 hG14 hs15
  obtain ⟨L, hL1, hL2, hL3⟩ := hR15.rd
  obtain ⟨x, y, rfl⟩ : ∃ x y, L = [x, y] := by
    have hl2 := congrArg List.length hL1
    rcases L with _ | ⟨x, _ | ⟨y, _ | ⟨z, L⟩⟩⟩
    · simp at hl2
    · simp at hl2
    · exact ⟨x, y, rfl⟩
    · simp at hl2
  have hx1 : x.1 = { zeroPc with sp := W.data.toList.take 48 } := (List.cons.inj hL1).1
  have hy1 : y.1 = pcOf r2 now2 F2 vals2 l2 s2 := (List.cons.inj (List.cons.inj hL1).2).1
  obtain ⟨bk, o, cp, hv15, hbl, c0, c1, c2, c3, c4, c5, c6⟩ := hL2.piece (k := 0) rfl
  obtain ⟨bk2, o2, cp2, hv16, hbl2, d0, d1, d2, d3, d4, d5, d6⟩ := hL2.piece (k := 1) rfl
  rw [hv15] at hv16
  injection hv16 with e1 e0 e3
  injection e1 with e1
  injection e1 with e1 e2
  subst e1
  subst e2
  clear e0 e3
  have hXx := hL3 x (by simp)
  have hYy := hL3 y (by simp)
  obtain ⟨x, XA, xcap, XB, xbcap⟩ := x
  obtain ⟨y, YA, ycap, YB, ybcap⟩ := y
  simp only at hx1 hy1
  subst hx1
  subst hy1
  have hv17 : v15 = .slice (some ⟨bk, o, none⟩) 2 cp := hv15
  clear hv15
  subst hv17
  obtain ⟨X48, h48⟩ : ∃ X : ByteArray, W.extract 0 48 = X := ⟨_, rfl⟩
  have h48e : (⟨(W.data.toList.take 48).toArray⟩ : ByteArray) = X48 := by rw [← h48, ext_of, List.drop_zero]
  have hs2e : (⟨s2.data.toList.toArray⟩ : ByteArray) = s2 := (str_of s2).symm
  have z00 : ∀ i : BW w15, i.v.cell? ⟨bk, o, none⟩ = some (.int .i64 0) := fun i => (i.h.cell (p := ⟨bk, o, none⟩) hbl).trans (by exact c0)
  have z01 : ∀ i : BW w15, i.v.cell? ⟨bk, o + 1, none⟩ = some (.bool false) := fun i => (i.h.cell (p := ⟨bk, o + 1, none⟩) hbl).trans (by exact c1)
  have z02 : ∀ i : BW w15, i.v.cell? ⟨bk, o + 2, none⟩ = some (.int .i64 0) := fun i => (i.h.cell (p := ⟨bk, o + 2, none⟩) hbl).trans (by exact c2)
  have z03 : ∀ i : BW w15, i.v.cell? ⟨bk, o + 3, none⟩ = some (.slice XA 0 xcap) := fun i => (i.h.cell (p := ⟨bk, o + 3, none⟩) hbl).trans (by exact c3)
  have z04 : ∀ i : BW w15, i.v.cell? ⟨bk, o + 4, none⟩ = some (.slice XB 0 xbcap) := fun i => (i.h.cell (p := ⟨bk, o + 4, none⟩) hbl).trans (by exact c4)
  have z05 : ∀ i : BW w15, i.v.cell? ⟨bk, o + 5, none⟩ = some (.string ⟨#[]⟩) := fun i => (i.h.cell (p := ⟨bk, o + 5, none⟩) hbl).trans (by exact c5)
  have z06 : ∀ i : BW w15, i.v.cell? ⟨bk, o + 6, none⟩ = some (.string X48) := fun i => (i.h.cell (p := ⟨bk, o + 6, none⟩) hbl).trans (by rw [show ({ zeroPc with sp := W.data.toList.take 48 } : Pc).sp = W.data.toList.take 48 from rfl, h48e] at c6; exact c6)
  have z10 : ∀ i : BW w15, i.v.cell? ⟨bk, o + 7, none⟩ = some (.int .i64 r2.1) := fun i => (i.h.cell (p := ⟨bk, o + 7, none⟩) hbl).trans (by exact d0)
  have z11 : ∀ i : BW w15, i.v.cell? ⟨bk, o + 8, none⟩ = some (.bool now2) := fun i => (i.h.cell (p := ⟨bk, o + 8, none⟩) hbl).trans (by exact d1)
  have z12 : ∀ i : BW w15, i.v.cell? ⟨bk, o + 9, none⟩ = some (.int .i64 F2) := fun i => (i.h.cell (p := ⟨bk, o + 9, none⟩) hbl).trans (by exact d2)
  have z13 : ∀ i : BW w15, i.v.cell? ⟨bk, o + 10, none⟩ = some (.slice YA vals2.length ycap) := fun i => (i.h.cell (p := ⟨bk, o + 10, none⟩) hbl).trans (by exact d3)
  have z14 : ∀ i : BW w15, i.v.cell? ⟨bk, o + 11, none⟩ = some (.slice YB l2.length ybcap) := fun i => (i.h.cell (p := ⟨bk, o + 11, none⟩) hbl).trans (by exact d4)
  have z15 : ∀ i : BW w15, i.v.cell? ⟨bk, o + 12, none⟩ = some (.string s2) := fun i => (i.h.cell (p := ⟨bk, o + 12, none⟩) hbl).trans (by rw [show (pcOf r2 now2 F2 vals2 l2 s2).data = s2.data.toList from rfl, hs2e] at d5; exact d5)
  have z16 : ∀ i : BW w15, i.v.cell? ⟨bk, o + 13, none⟩ = some (.string ⟨#[]⟩) := fun i => (i.h.cell (p := ⟨bk, o + 13, none⟩) hbl).trans (by exact d6)
  have zq0 : ∀ i : BW w15, i.v.cell? ⟨g + 1, 0, none⟩ = some (.int .i64 r2.1) := fun i => (hQ15.below i.h hQ15.lt).cell 0
  have zq1 : ∀ i : BW w15, i.v.cell? ⟨g + 1, 1, none⟩ = some (.bool now2) := fun i => (hQ15.below i.h hQ15.lt).cell 1
  have zq2 : ∀ i : BW w15, i.v.cell? ⟨g + 1, 2, none⟩ = some (.int .i64 F2) := fun i => (hQ15.below i.h hQ15.lt).cell 2
  have zq3 : ∀ i : BW w15, i.v.cell? ⟨g + 1, 3, none⟩ = some (.slice A2 vals2.length cap2) := fun i => (hQ15.below i.h hQ15.lt).cell 3
  have zq4 : ∀ i : BW w15, i.v.cell? ⟨g + 1, 4, none⟩ = some (.slice B2 l2.length bcap2) := fun i => (hQ15.below i.h hQ15.lt).cell 4
  have zq5 : ∀ i : BW w15, i.v.cell? ⟨g + 1, 5, none⟩ = some (.string s2) := fun i => (hQ15.below i.h hQ15.lt).cell 5
  have sm0 : ∀ i : BW w15, Calls Tryz.prog 21 #[.agg #[.int .i64 0, .bool false, .int .i64 0, .slice XA 0 xcap, .slice XB 0 xbcap, .string ⟨#[]⟩], .agg #[.int .i64 0, .bool false, .int .i64 0, .slice none 0 0, .slice none 0 0, .string ⟨#[]⟩]] i.v fun e w' => e = .returned (.bool true) ∧ Below i.v.heap.size i.v w' := fun i => samePdu_yes 0 false 0 [] [] _ _ _ _ ⟨#[]⟩ _ (hXx.1.on i.h) (nilS _ 1) (hXx.2.on i.h) (nilS _ 2)
  have sm1 : ∀ i : BW w15, Calls Tryz.prog 21 #[.agg #[.int .i64 r2.1, .bool now2, .int .i64 F2, .slice YA vals2.length ycap, .slice YB l2.length ybcap, .string s2], .agg #[.int .i64 r2.1, .bool now2, .int .i64 F2, .slice A2 vals2.length cap2, .slice B2 l2.length bcap2, .string s2]] i.v fun e w' => e = .returned (.bool true) ∧ Below i.v.heap.size i.v w' := fun i => samePdu_yes r2.1 now2 F2 vals2 l2 _ _ _ _ s2 _ (hYy.1.on i.h) ((hv2.on hb15w).on i.h) (hYy.2.on i.h) ((ha2.on hb15w).on i.h)
  have e48 : (X48.toList == (W.extract 0 48).toList) = true := by rw [h48]; simp
  have h48I : (48 : Int) ≤ W.size := by omega
  have H48 := Lib.hid h48
  clear c0 c1 c2 c3 c4 c5 c6 d0 d1 d2 d3 d4 d5 d6 h48 h48e hs2e hL1 hL2 hL3 hR15 hRl hv hv2 ha ha2 hXx hYy hP15 hQ15
  go_wp2_with fail
  refine wp_region_quietB (by kernel_rfl) (by kernel_rfl) ?_
  repeat (first | go_big_quiet_skip | (go_big_quiet_want; go_big_quiet_op; first | go_big_quiet_on | (apply Exists.intro; refine ⟨fun _ => ?_, ?_⟩; ((first | (go_at_call 21; with_reducible exact calls_bw (sm0 _)) | (go_at_call 21; with_reducible exact calls_bw (sm1 _)))); go_big_quiet_on)))
  refine wpQuiet_nil ?_
  rintro _ ⟨iq, rfl⟩
  go_wp2_with fail
  go_ret
  first | exact ⟨rfl, below_step hb15w iq.h⟩ | exact ⟨rfl, by rw [← HG.out]; exact below_step hb15w iq.h⟩
end Go.Proofs.YtifniblffjgfkaaGreatDoor
