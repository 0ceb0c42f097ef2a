/- The walks of the laws PduBack and PduCut. -/
import Derived.Test.YtehellmpghfopaaGreatDoorPduFact
namespace Go.Proofs.YtehellmpghfopaaGreatDoor
open Go.ChangeShapes Go.WideShapes Go.ChangeAt Go.RowKit Go.Shelf
set_option linter.unusedVariables false
theorem pdu_row {op : Int} {now : Bool} {fl : Int} {vals : List Nat} {l : AhsL} {n : Nat} (h : pduR op now fl vals l n = none) (hf : fl ≤ 9223372036854775807) :
    ∃ (r : HeadR) (F : Nat), op = (r.1 : Int) ∧ headRow (r.1 : Int) = some r ∧ fl = (F : Int) ∧ F < 256 ∧ rightR (r.1 : Int) now F vals = none ∧ rightGo l 0 0 = none ∧ n ≤ 100000 := by
  obtain ⟨h1, h2, h3⟩ := rightR_parts h
  obtain ⟨r, hrow⟩ := right_row h1
  obtain ⟨F, rfl, hF⟩ := right_flags hrow h1 hf
  have ho := headRow_op hrow
  subst ho
  exact ⟨r, F, rfl, hrow, rfl, hF, h1, h2, h3⟩
def PB (r : HeadR) (now : Bool) (F : Nat) (vals : List Nat) (l : AhsL) (d : ByteArray) (k : Nat) : List UInt8 := pduB (layAll (headB r.1 now F ((ahsB l).length / 4) d.size) r.2.2.2 vals) (ahsB l) d.data.toList (hdM k) (ddM k)
theorem PB_len (r : HeadR) (now : Bool) (F : Nat) (vals : List Nat) (l : AhsL) (d : ByteArray) (k : Nat) (hrow : headRow (r.1 : Int) = some r) : (PB r now F vals l d k).length = 48 + sumLen l + hdN (hdM k) + (d.size + padN d.size) + ddN (ddM k) d.size := by
  have hHl : (layAll (headB r.1 now F ((ahsB l).length / 4) d.size) r.2.2.2 vals).length = 48 := layAll_len r.2.2.2 vals _ (headT_ok r (headRow_mem hrow)) rfl
  unfold PB pduB
  rw [List.length_append, List.length_append, List.length_append, List.length_append, dg4_len, dg4_len, hHl, ahsB_len, padded_len, len_of]
  unfold hdN ddN
  omega
theorem PB_bound (r : HeadR) (now : Bool) (F : Nat) (vals : List Nat) (l : AhsL) (d : ByteArray) (k : Nat) (hrow : headRow (r.1 : Int) = some r) (h2 : rightGo l 0 0 = none) : 48 ≤ (PB r now F vals l d k).length ∧ (PB r now F vals l d k).length ≤ 1200 + d.size ∧ (PB r now F vals l d k).length % 4 = 0 := by
  have hall := right_none l 0 0 (by omega) h2
  have hmod := sumLen_mod l
  have hp := padI_rng d.size
  have hm : (d.size + padN d.size) % 4 = 0 := by
    have : padI d.size = (-(d.size : Int)) % 4 := by unfold padI; rw [if_neg (by omega)]
    unfold padN
    omega
  have h4 : padN d.size ≤ 3 := by unfold padN; omega
  have h5 : hdN (hdM k) = 0 ∨ hdN (hdM k) = 4 := by unfold hdN; split <;> simp
  have h6 : ddN (ddM k) d.size = 0 ∨ ddN (ddM k) d.size = 4 := by unfold ddN; split <;> simp
  rw [PB_len r now F vals l d k hrow]
  refine ⟨by omega, by omega, by omega⟩
theorem pickN (a : Int) (n : Nat) (hn : 0 < n) : ∃ k : Nat, pickI a n = k ∧ k < n := by
  have := pick_rng a n (by omega)
  obtain ⟨k, hk⟩ := Int.eq_ofNat_of_zero_le this.1
  exact ⟨k, hk, by omega⟩
theorem pick_to (a : Int) (n : Nat) (k : Nat) (hk : pickI a n = k) (hn : 0 < n) (hn2 : n < 9223372036854775808) (w : World) : Calls Tryz.prog 15 #[.int .i64 a, .int .i64 n] w fun e w' => e = .returned (.int .i64 k) ∧ w = w' := by
  rw [← hk]
  exact pick_any a n w (by omega) (by omega)
theorem sizes_to (s : ByteArray) (n : Nat) (k : Nat) (w : World) (hk : k < 4) (h48 : 48 ≤ s.size) (hs : s.size ≤ 1000000) (hn : allN s.data.toList (hdM k) (ddM k) = n) : Calls Tryz.prog 19 #[.string s, .int .i64 k] w fun e w' => e = .returned (.tuple #[.int .i64 n, .nilIface]) ∧ Below w.heap.size w w' := by
  rw [← hn]
  exact size_ok s k w hk h48 hs
theorem pduRight_nil (op : Int) (now : Bool) (fl : Int) (vals : List Nat) (v : Value) (l : AhsL) (av : Value) (s : ByteArray) (w : World) (hr : pduR op now fl vals l s.size = none) (h0 : -9223372036854775808 ≤ op ∧ op ≤ 9223372036854775807) (hf : -9223372036854775808 ≤ fl ∧ fl ≤ 9223372036854775807) (hv : SRd w v 1 vals.length (vals.map u64V)) (hl : ∀ x ∈ vals, x < 18446744073709551616)
    (ha : SRd w av 2 l.length (ahsCells l)) (hd : ∀ p ∈ l, p.2.size ≤ 140737488351232) (hs : s.size ≤ 140737488351232) (hL : LaidE w) (T : Tabs w) (hS : w.ShapedOpen Tryz.prog) :
    Calls Tryz.prog 17 #[.agg #[.int .i64 op, .bool now, .int .i64 fl, v, av, .string s]] w fun e w' => e = .returned .nilIface ∧ Below w.heap.size w w' := by
  have := pduRight_any op now fl vals v l av s w h0 hf hv hl ha hd hs hL T hS
  rw [hr] at this
  exact this
theorem pduRight_bad (op : Int) (now : Bool) (fl : Int) (vals : List Nat) (v : Value) (l : AhsL) (av : Value) (s : ByteArray) (c : Nat) (w : World) (hr : pduR op now fl vals l s.size = some c) (h0 : -9223372036854775808 ≤ op ∧ op ≤ 9223372036854775807) (hf : -9223372036854775808 ≤ fl ∧ fl ≤ 9223372036854775807) (hv : SRd w v 1 vals.length (vals.map u64V)) (hl : ∀ x ∈ vals, x < 18446744073709551616)
    (ha : SRd w av 2 l.length (ahsCells l)) (hd : ∀ p ∈ l, p.2.size ≤ 140737488351232) (hs : s.size ≤ 140737488351232) (hL : LaidE w) (T : Tabs w) (hS : w.ShapedOpen Tryz.prog) :
    Calls Tryz.prog 17 #[.agg #[.int .i64 op, .bool now, .int .i64 fl, v, av, .string s]] w fun e w' => e = .returned (.iface 43 (.int .i64 c)) ∧ Below w.heap.size w w' := by
  have := pduRight_any op now fl vals v l av s w h0 hf hv hl ha hd hs hL T hS
  rw [hr] at this
  exact this
theorem pduWrite_to (W : ByteArray) (now : Bool) (F : Nat) (vals : List Nat) (v : Value) (l : AhsL) (av : Value) (s : ByteArray) (k : Nat) (r : HeadR) (w : World) (hk : k < 4) (hrow : headRow (r.1 : Int) = some r) (hF : F < 256) (h1 : rightR (r.1 : Int) now F vals = none) (h2 : rightGo l 0 0 = none) (hsz : s.size ≤ 100000) (hW : W = ⟨(PB r now F vals l s k).toArray⟩) (hv : SRd w v 1 vals.length (vals.map u64V)) (hl : ∀ x ∈ vals, x < 18446744073709551616)
    (ha : SRd w av 2 l.length (ahsCells l)) (hd : ∀ p ∈ l, p.2.size ≤ 140737488351232) (hL : LaidE w) (T : Tabs w) (hS : w.ShapedOpen Tryz.prog) :
    Calls Tryz.prog 16 #[.agg #[.int .i64 r.1, .bool now, .int .i64 F, v, av, .string s], .int .i64 k] w fun e w' => e = .returned (.tuple #[.string W, .nilIface]) ∧ Below w.heap.size w w' := by
  have h64 := headT_small r (headRow_mem hrow)
  have := pduWrite_ok (r.1 : Int) now F vals v l av s k r w hk hrow hF h1 h2 hsz (by omega) hv hl ha hd hL T hS
  rw [hW]
  exact this
set_option maxRecDepth 20000 in
set_option maxHeartbeats 2000000 in
theorem backPdu (op : Int) (now : Bool) (fl : Int) (vals : List Nat) (v : Value) (l : AhsL) (av : Value) (s : ByteArray) (mode : Int) (t : ByteArray) (w : World) (h0 : -9223372036854775808 ≤ op ∧ op ≤ 9223372036854775807) (hf : -9223372036854775808 ≤ fl ∧ fl ≤ 9223372036854775807) (hv : SRd w v 1 vals.length (vals.map u64V)) (hl : ∀ x ∈ vals, x < 18446744073709551616)
    (ha : SRd w av 2 l.length (ahsCells l)) (hb : ∀ q ∈ l, -9223372036854775808 ≤ q.1 ∧ q.1 ≤ 9223372036854775807) (hd : ∀ p ∈ l, p.2.size ≤ 140737488351232) (hs : s.size ≤ 140737488351232) (hm : -9223372036854775808 ≤ mode ∧ mode ≤ 9223372036854775807) (ht : t.size ≤ 140737488351232) (hL : LaidE w) (T : Tabs w) (hS : w.ShapedOpen Tryz.prog) :
    Calls Tryz.prog 3 #[.agg #[.int .i64 op, .bool now, .int .i64 fl, v, av, .string s], .int .i64 mode, .string t] w fun e w' => e = .returned (.bool true) ∧ Below w.heap.size w w' := by
  clear hb
  obtain ⟨A, cap, rfl⟩ : ∃ A cap, v = .slice A vals.length cap := by obtain ⟨_, A, cap, hv, _⟩ := hv; exact ⟨A, cap, hv⟩
  obtain ⟨B, bcap, rfl⟩ : ∃ A cap, av = .slice A l.length cap := by obtain ⟨_, A, cap, hv, _⟩ := ha; exact ⟨A, cap, hv⟩
  obtain ⟨k, hk, hk4⟩ := pickN mode 4 (by omega)
  have HK := Lib.hid hk
  clear hk
  have hb0 : Below w.heap.size w (w.alloc (.cells #[.int .i64 op, .bool now, .int .i64 fl, .slice A vals.length cap, .slice B l.length bcap, .string s] 27)) := (Below.refl _ _).alloc (Nat.le_refl _) _
  have hB0 := Blk.new w 27 #[.int .i64 op, .bool now, .int .i64 fl, .slice A vals.length cap, .slice B l.length bcap, .string s]
  obtain ⟨g, hg⟩ : ∃ g, w.heap.size = g := ⟨_, rfl⟩
  rw [hg] at hB0
  go_enter Tryz.func3, Tryz.ntmps3
  go_wp2_with fail
  obtain ⟨w0, hw0⟩ : ∃ w0 : World, w.alloc (.cells #[.int .i64 op, .bool now, .int .i64 fl, .slice A vals.length cap, .slice B l.length bcap, .string s] 27) = w0 := ⟨_, rfl⟩
  rw [hw0] at hb0 hB0 ⊢
  try rw [hg]
  have HG := Lib.hid hg
  clear hw0 hg
  refine (wrapped_fact _ (hL.on hb0) (T.on hb0) (shaped_ons hS hb0)).mono ?_
  rintro e w1 ⟨rfl, hb1⟩
  have hb0w := hb0
  have hb1w := below_step hb0w hb1
  have hB1 := hB0.below hb1 hB0.lt
  have c0 := hB1.cell 0
  have c1 := hB1.cell 1
  have c2 := hB1.cell 2
  have c3 := hB1.cell 3
  have c4 := hB1.cell 4
  have c5 := hB1.cell 5
  clear hB0 hb1
  go_wp2_with fail
  refine (large_any op now fl vals _ l _ s _ (hv.on hb1w) (ha.on hb1w) hd hs).mono ?_
  rintro e w2 ⟨⟨b, rfl, hsm⟩, hb2⟩
  clear c0 c1 c2 c3 c4 c5
  have hb2w := below_step hb1w hb2
  have hB2 := hB1.below hb2 hB1.lt
  have c0 := hB2.cell 0
  have c1 := hB2.cell 1
  have c2 := hB2.cell 2
  have c3 := hB2.cell 3
  have c4 := hB2.cell 4
  have c5 := hB2.cell 5
  clear hB1 hb2
  rcases b with _ | _
  rotate_left
  · go_wp2_with fail
    go_ret
    first | exact ⟨rfl, hb2w⟩ | exact ⟨rfl, by rw [← HG.out]; exact hb2w⟩
  obtain ⟨hz1, hz2⟩ := hsm rfl
  clear hsm
  by_cases ht3 : 300 < t.size
  · go_wp2_with fail
    go_ret
    first | exact ⟨rfl, hb2w⟩ | exact ⟨rfl, by rw [← HG.out]; exact hb2w⟩
  go_wp2_with fail
  refine (pick_to mode 4 k HK.out (by omega) (by omega) _).mono ?_
  rintro e w' ⟨rfl, rfl⟩
  rcases hr : pduR op now fl vals l s.size with _ | c
  · obtain ⟨r, F, rfl, hrow, rfl, hF, h1, h2, h5⟩ := pdu_row hr hf.2
    have hbd := PB_bound r now F vals l s k hrow h2
    obtain ⟨W, hW⟩ : ∃ W : ByteArray, W = ⟨(PB r now F vals l s k).toArray⟩ := ⟨_, rfl⟩
    have hWl : W.data.toList = PB r now F vals l s k := by rw [hW]
    have hWz : W.size = (PB r now F vals l s k).length := by rw [← len_of, hWl]
    obtain ⟨X, hX, _, p2, _⟩ := pdu_parts r now F vals l s.data.toList [] (hdM k) (ddM k) hrow hF hl h1 h2 (by rw [len_of]; exact h5)
    rw [List.append_nil, len_of] at hX
    rw [len_of] at p2
    have hXW : X = W.data.toList := by rw [hWl, hX]; rfl
    rw [hXW] at p2
    obtain ⟨N, hN⟩ : ∃ N, (PB r now F vals l s k).length = N := ⟨_, rfl⟩
    have p2' : allN W.data.toList (hdM k) (ddM k) = N := by rw [p2, ← hN]; rfl
    rw [hN] at hbd hWz
    have HR := Lib.hid hr
    have HROW := Lib.hid hrow
    have H1 := Lib.hid h1
    have H2 := Lib.hid h2
    have HW := Lib.hid hW
    have HWL := Lib.hid hWl
    have HN := Lib.hid hN
    have HALL := Lib.hid p2'
    have hm4 : ((N : Int) % 4 == 0) = true := by simp; omega
    have hz3 : ((W.size : Int) == N) = true := by rw [hWz]; simp
    have hz4 : ((N : Int) == W.size) = true := by rw [hWz]; simp
    have HWZ := Lib.hid hWz
    have hWb : W.size ≤ 4000 := by omega
    clear hr hrow h1 h2 hW hWl hX p2 hXW hN p2' hWz
    go_wp2_with fail
    refine (pduWrite_to W now F vals _ l _ s k r _ hk4 HROW.out hF H1.out H2.out h5 HW.out (hv.on hb2w) hl (ha.on hb2w) hd (hL.on hb2w) (T.on hb2w) (shaped_ons hS hb2w)).mono ?_
    rintro e w3 ⟨rfl, hb3⟩
    clear c0 c1 c2 c3 c4 c5
    have hb3w := below_step hb2w hb3
    have hB3 := hB2.below hb3 hB2.lt
    have c0 := hB3.cell 0
    have c1 := hB3.cell 1
    have c2 := hB3.cell 2
    have c3 := hB3.cell 3
    have c4 := hB3.cell 4
    have c5 := hB3.cell 5
    clear hB2 hb3
    go_wp2_with fail
    refine (pduRight_nil (r.1 : Int) now F vals _ l _ s _ HR.out h0 hf (hv.on hb3w) hl (ha.on hb3w) hd hs (hL.on hb3w) (T.on hb3w) (shaped_ons hS hb3w)).mono ?_
    rintro e w4 ⟨rfl, hb4⟩
    clear c0 c1 c2 c3 c4 c5
    have hb4w := below_step hb3w hb4
    have hB4 := hB3.below hb4 hB3.lt
    have c0 := hB4.cell 0
    have c1 := hB4.cell 1
    have c2 := hB4.cell 2
    have c3 := hB4.cell 3
    have c4 := hB4.cell 4
    have c5 := hB4.cell 5
    clear hB3 hb4
    have hSl : (W ++ t).data.toList = PB r now F vals l s k ++ t.data.toList := by rw [cat_of, HWL.out]
    obtain ⟨S, hSS⟩ : ∃ S : ByteArray, W ++ t = S := ⟨_, rfl⟩
    rw [hSS] at hSl
    have hSz : S.size ≤ 10000 := by rw [← hSS]; simp; rw [HWZ.out]; omega
    have HSL := Lib.hid hSl
    clear hSl
    go_wp2_with fail
    refine (pduRead_back S r now F vals l s t.data.toList k _ hk4 HROW.out hF hl H1.out H2.out h5 HSL.out (by omega) (hL.on hb4w) (T.on hb4w) (shaped_ons hS hb4w)).mono ?_
    rintro e w5 ⟨A5, cap5, B5, bcap5, rfl, hv5, ha5, hb5⟩
    rw [show (pduB (layAll (headB r.1 now F ((ahsB l).length / 4) s.size) r.2.2.2 vals) (ahsB l) s.data.toList (hdM k) (ddM k)).length = N from HN.out]
    clear c0 c1 c2 c3 c4 c5
    have hb5w := below_step hb4w hb5
    have hB5 := hB4.below hb5 hB4.lt
    have c0 := hB5.cell 0
    have c1 := hB5.cell 1
    have c2 := hB5.cell 2
    have c3 := hB5.cell 3
    have c4 := hB5.cell 4
    have c5 := hB5.cell 5
    clear hB4 hb5
    have hgl5 := hB5.lt
    go_wp2_with fail
    obtain ⟨w6, hw6⟩ : ∃ w6 : World, w5.alloc (.cells #[.int .i64 r.1, .bool now, .int .i64 F, .slice A5 vals.length cap5, .slice B5 l.length bcap5, .string s] 27) = w6 := ⟨_, rfl⟩
    obtain ⟨g5, hg5⟩ : ∃ g5, w5.heap.size = g5 := ⟨_, rfl⟩
    have hb6 : Below w5.heap.size w5 w6 := by rw [← hw6]; exact (Below.refl _ _).alloc (Nat.le_refl _) _
    have hD6 : Blk w6 g5 27 #[.int .i64 r.1, .bool now, .int .i64 F, .slice A5 vals.length cap5, .slice B5 l.length bcap5, .string s] := by rw [← hw6, ← hg5]; exact Blk.new w5 _ _
    rw [hw6]
    try rw [hg5]
    have hv6 := hv5.on hb6
    have ha6 := ha5.on hb6
    clear hw6 hv5 ha5 hg5
    clear c0 c1 c2 c3 c4 c5
    have hb6w := below_step hb5w hb6
    have hB6 := hB5.below hb6 hB5.lt
    have c0 := hB6.cell 0
    have c1 := hB6.cell 1
    have c2 := hB6.cell 2
    have c3 := hB6.cell 3
    have c4 := hB6.cell 4
    have c5 := hB6.cell 5
    clear hB5 hb6
    refine (sizes_to W N k _ hk4 (by rw [HWZ.out]; omega) (by omega) HALL.out).mono ?_
    rintro e w7 ⟨rfl, hb7⟩
    have hD7 := hD6.below hb7 hD6.lt
    have d0 := hD7.cell 0
    have d1 := hD7.cell 1
    have d2 := hD7.cell 2
    have d3 := hD7.cell 3
    have d4 := hD7.cell 4
    have d5 := hD7.cell 5
    have hv7 := hv6.on hb7
    have ha7 := ha6.on hb7
    clear c0 c1 c2 c3 c4 c5
    have hb7w := below_step hb6w hb7
    have hB7 := hB6.below hb7 hB6.lt
    have c0 := hB7.cell 0
    have c1 := hB7.cell 1
    have c2 := hB7.cell 2
    have c3 := hB7.cell 3
    have c4 := hB7.cell 4
    have c5 := hB7.cell 5
    clear hB6 hb7
    go_wp2_with fail
    refine (samePdu_yes (r.1 : Int) now F vals l _ _ _ _ s _ (hv.on hb7w) hv7 (ha.on hb7w) ha7).mono ?_
    rintro e w8 ⟨rfl, hb8⟩
    have hb8w := below_step hb7w hb8
    have hz3 : ((N : Int) == W.size) = true := by rw [HWZ.out]; simp
    go_wp2_with fail
    go_ret
    first | exact ⟨by simp, hb8w⟩ | exact ⟨by simp, by rw [← HG.out]; exact hb8w⟩
  · have HR := Lib.hid hr
    clear hr
    go_wp2_with fail
    refine (pduWrite_bad op now fl vals _ l _ s k c _ hk4 HR.out h0 hf (hv.on hb2w) hl (ha.on hb2w) hd hs (hL.on hb2w) (T.on hb2w) (shaped_ons hS hb2w)).mono ?_
    rintro e w3 ⟨rfl, hb3⟩
    clear c0 c1 c2 c3 c4 c5
    have hb3w := below_step hb2w hb3
    have hB3 := hB2.below hb3 hB2.lt
    have c0 := hB3.cell 0
    have c1 := hB3.cell 1
    have c2 := hB3.cell 2
    have c3 := hB3.cell 3
    have c4 := hB3.cell 4
    have c5 := hB3.cell 5
    clear hB2 hb3
    go_wp2_with fail
    refine (pduRight_bad op now fl vals _ l _ s c _ HR.out h0 hf (hv.on hb3w) hl (ha.on hb3w) hd hs (hL.on hb3w) (T.on hb3w) (shaped_ons hS hb3w)).mono ?_
    rintro e w4 ⟨rfl, hb4⟩
    have hb4w := below_step hb3w hb4
    go_wp2_with fail
    go_ret
    first | exact ⟨rfl, hb4w⟩ | exact ⟨rfl, by rw [← HG.out]; exact hb4w⟩
end Go.Proofs.YtehellmpghfopaaGreatDoor
