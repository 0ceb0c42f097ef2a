/- The contract of feed.All. -/
import Derived.Test.YtifniblffjgfkaaGreatDoorFeedRow
import Derived.Test.YtifniblffjgfkaaGreatDoorFeedNext7
namespace Go.Proofs.YtifniblffjgfkaaGreatDoor
open Go.ChangeShapes Go.WideShapes Go.ChangeAt Go.RowKit Go.Shelf
set_option linter.unusedVariables false
def boxS (g : Nat) (w : World) : Nat := match w.cell? ⟨g, 0, none⟩ with | some (.string s) => s.size | _ => 0
theorem boxS_eq {g : Nat} {w : World} {K : ByteArray} {lim md : Nat} {er : Value} (h : FBlk w g K lim md er) : boxS g w = K.size := by
  unfold boxS
  rw [h.cells.1]
theorem Step.grown {g : Nat} {w w1 w2 : World} {row : Option Nat} (h : Step g w w1) (hg : w1.grownBy w2 row) (hr : ∀ k, row = some k → w.heap.size ≤ k) : Step g w w2 :=
  ⟨hg.os.trans h.os, hg.tape.trans h.tape, hg.output.trans h.output, Nat.le_trans h.size hg.size, fun k hk hl => (hg.block k (Nat.lt_of_lt_of_le hl h.size) (fun e => by have := hr k e.symm; omega)).trans (h.block k hk hl)⟩
theorem PcAt.part {w w0 : World} {base : Nat} {p : Pc} {A B : Option Addr} {cap bcap : Nat} (h : PcAt w w0.heap.size p A B cap bcap) (row : Option Nat) (hb : base ≤ w0.heap.size) (hr : ∀ k, row = some k → k < w0.heap.size) : PartAt w base row (p, ⟨A, cap, B, bcap⟩) := by
  obtain ⟨h1, h2, h3, h4⟩ := h
  refine ⟨h1, h2, fun hn a ha => ⟨Nat.le_trans hb (h3 a ha), srd_block h1 hn a ha, fun e => ?_⟩, fun hn a ha => ⟨Nat.le_trans hb (h4 a ha), srd_block h2 hn a ha, fun e => ?_⟩⟩
  · have := hr a.block e.symm
    have := h3 a ha
    omega
  · have := hr a.block e.symm
    have := h4 a ha
    omega
theorem lit_row (w : World) (t : TypeId) (a b c d e f k : Value) (ha : a.oneCell' = true) (hb : b.oneCell' = true) (hc : c.oneCell' = true) (hd : d.oneCell' = true) (he : e.oneCell' = true) (hf : f.oneCell' = true) (hk : k.oneCell' = true) :
    (∀ j u, [a, b, c, d, e, f, k][j]? = some u → (w.alloc (.cells #[a, b, c, d, e, f, k] t)).cell? ((⟨w.heap.size, 0, none⟩ : Addr).add j) = some u) ∧ (∀ u ∈ [a, b, c, d, e, f, k], u.oneCell' = true) := by
  refine ⟨fun j u hu => ?_, fun u hu => ?_⟩
  · rw [Addr.add_lit, Nat.zero_add]
    refine ((Blk.new w t #[a, b, c, d, e, f, k]).cell j).trans ?_
    rw [← hu, ← Array.getElem?_toList]
  · simp only [List.mem_cons, List.not_mem_nil, or_false] at hu
    rcases hu with rfl | rfl | rfl | rfl | rfl | rfl | rfl <;> assumption
def AllIs (w : World) (g lim md : Nat) (F : List Pc × Nat × List UInt8) (e : Ending) (w' : World) : Prop := ∃ (v : Value) (R : ByteArray), e = .returned (.tuple #[v, errv F.2.1]) ∧
  PcsAt w' w.heap.size v F.1 ∧ R.data.toList = F.2.2 ∧ FBlk w' g R lim md (errv F.2.1) ∧ Step g w w'
theorem errv_pos {c : Nat} (h : c ≠ 0) : errv c = .iface 43 (.int .i64 c) := by unfold errv; rw [if_neg h]
set_option maxRecDepth 20000 in
set_option maxHeartbeats 4000000 in
theorem fall_any (g : Nat) (K : ByteArray) (lim md : Nat) (w w0 : World) (hB : FBlk w g K lim md .nilIface) (hmd : md < 4) (hKz : K.size ≤ 1000000) (h0 : Below w0.heap.size w0 w) (hg0 : w0.heap.size ≤ g) (hL : LaidE w0) (T : Tabs w0) (hS : w0.ShapedOpen Tryz.prog) :
    Calls Tryz.prog 17 #[.pointer (some ⟨g, 0, none⟩)] w (AllIs w g lim md (allF lim (hdM md) (ddM md) K.data.toList)) := by
  have hgl := Blk.lt hB
  have hlen := allF_left lim (hdM md) (ddM md) K.data.toList.length K.data.toList (Nat.le_refl _)
  obtain ⟨F, hF⟩ : ∃ F, allF lim (hdM md) (ddM md) K.data.toList = F := ⟨_, rfl⟩
  rw [hF] at hlen ⊢
  have hlen2 : 48 * F.1.length ≤ 1000000 := by have := hlen.2; rw [len_of] at this; omega
  have HF := Lib.hid hF
  have hrefl : Step g w w := Step.refl g w
  clear hF hlen
  go_enter Tryz.func17, Tryz.ntmps17
  go_wp2_with fail
  go_loopw [4] (fun o wr => ∃ (X : ByteArray) (ps : List Pc), PcsAt wr w.heap.size o ps ∧ FBlk wr g X lim md .nilIface ∧ X.size ≤ 1000000 ∧ F = (ps ++ (allF lim (hdM md) (ddM md) X.data.toList).1, (allF lim (hdM md) (ddM md) X.data.toList).2.1, (allF lim (hdM md) (ddM md) X.data.toList).2.2) ∧ Step g w wr) (fun _ wr => boxS g wr)
  case atStart => exact ⟨K, [], PcsAt.nil _ _, hB, hKz, by rw [← HF.out]; exact Prod.ext rfl (Prod.ext rfl rfl), hrefl⟩
  case round =>
    obtain ⟨X, ps, hps, hF, hXz, hE, hst⟩ := hrel
    have HE := Lib.hid hE
    clear hE
    have hb0r : Below w0.heap.size w0 wr := h0.trans (hst.below hg0 h0.size)
    have Lr := hL.on hb0r
    have Tr := T.on hb0r
    have Sr := shaped_ons hS hb0r
    have hglr := Blk.lt hF
    rcases hQ : nextP lim (hdM md) (ddM md) X.data.toList with _ | c | ⟨p, n⟩
    · have hA := allF_no hQ
      have hFe : F = (ps, 0, X.data.toList) := by rw [HE.out, hA, List.append_nil]
      have HFE := Lib.hid hFe
      have HQ := Lib.hid hQ
      clear hQ hA hFe
      go_wp2_with fail
      refine (fnext_no g X lim md wr hF hXz hmd HQ.out).mono ?_
      rintro e w1 ⟨rfl, hb1⟩
      unfold zeroPcC
      go_wp2_with fail
      go_ret2
      have hb2 : Below wr.heap.size wr (w1.alloc (.cells #[.int .i64 0, .bool false, .int .i64 0, .slice none 0 0, .slice none 0 0, .string ⟨#[]⟩, .string ⟨#[]⟩] 40)) := hb1.alloc hb1.size _
      rw [HFE.out]
      exact ⟨_, X, rfl, hps.on hb2, rfl, Blk.below hF hb2 hglr, hst.trans (Step.of_below hb2)⟩
    · have hA := allF_bad hQ
      have hnz := next_nz _ _ _ _ _ hQ
      have hFe : F = (ps, c, []) := by rw [HE.out, hA, List.append_nil]
      have HFE := Lib.hid hFe
      have HQ := Lib.hid hQ
      have HNZ := Lib.hid hnz
      clear hQ hA hFe hnz
      go_wp2_with fail
      refine (fnext_err g X lim md c wr hF hXz hmd HQ.out Lr Tr Sr).mono ?_
      rintro e w1 ⟨rfl, hF1, hs1⟩
      unfold zeroPcC
      go_wp2_with fail
      go_ret2
      have hb2 : Below w1.heap.size w1 (w1.alloc (.cells #[.int .i64 0, .bool false, .int .i64 0, .slice none 0 0, .slice none 0 0, .string ⟨#[]⟩, .string ⟨#[]⟩] 40)) := (Below.refl _ _).alloc (Nat.le_refl _) _
      rw [HFE.out]
      exact ⟨_, ⟨#[]⟩, (by rw [errv_pos HNZ.out]; rfl), (hps.step hs1 hgl).on hb2, rfl, by rw [errv_pos HNZ.out]; exact Blk.below hF1 hb2 hF1.lt, (hst.trans hs1).trans (Step.of_below hb2)⟩
    · have hA := allF_pc hQ
      obtain ⟨hn1, hn2, _⟩ := nextP_pc hQ
      rw [len_of] at hn2
      have hXe : (X.extract n X.size).data.toList = X.data.toList.drop n := by rw [ext_of, List.take_of_length_le (by rw [List.length_drop, len_of]; omega)]
      have hXs : (X.extract n X.size).size = X.size - n := by rw [ByteArray.size_extract]; omega
      have hFe : F = ((ps ++ [p]) ++ (allF lim (hdM md) (ddM md) (X.extract n X.size).data.toList).1, (allF lim (hdM md) (ddM md) (X.extract n X.size).data.toList).2.1, (allF lim (hdM md) (ddM md) (X.extract n X.size).data.toList).2.2) := by
        rw [HE.out, hA, hXe, List.append_assoc]
        rfl
      have hpl : ps.length ≤ 1000000 := by
        have := hlen2
        rw [hFe] at this
        simp only [List.length_append, List.length_singleton] at this
        omega
      have HFE := Lib.hid hFe
      have HQ := Lib.hid hQ
      have HXS := Lib.hid hXs
      obtain ⟨Y, hY⟩ : ∃ Y : ByteArray, X.extract n X.size = Y := ⟨_, rfl⟩
      clear hQ hA hFe hXe hXs
      go_wp2_with fail
      refine (fnext_pc g X lim md n p wr hF hXz hmd HQ.out Lr Tr Sr).mono ?_
      rintro e w1 ⟨A, B, cap, bcap, rfl, hP1, hF1, hs1⟩
      rw [hY] at hF1 HFE HXS
      unfold pcC
      obtain ⟨i0, hi, hz0, hz1, hz2⟩ := info_parts infoPc
      have hps1 := hps.step hs1 hgl
      clear hY
      obtain ⟨pop, pnow, pfl, pvals, pal, pdata, psp⟩ := p
      simp only
      have hb12 : Below w1.heap.size w1 (w1.alloc (.cells #[.int .i64 pop, .bool pnow, .int .i64 pfl, .slice A pvals.length cap, .slice B pal.length bcap, .string ⟨pdata.toArray⟩, .string ⟨psp.toArray⟩] 40)) := (Below.refl _ _).alloc (Nat.le_refl _) _
      have hb13 : Below w1.heap.size w1 ((w1.alloc (.cells #[.int .i64 pop, .bool pnow, .int .i64 pfl, .slice A pvals.length cap, .slice B pal.length bcap, .string ⟨pdata.toArray⟩, .string ⟨psp.toArray⟩] 40)).alloc (.cells #[.int .i64 pop, .bool pnow, .int .i64 pfl, .slice A pvals.length cap, .slice B pal.length bcap, .string ⟨pdata.toArray⟩, .string ⟨psp.toArray⟩] 40)) := hb12.alloc hb12.size _
      obtain ⟨L, hLm, hown, hLp⟩ := hps1.on hb13
      have hLl : L.length = ps.length := by rw [← hLm, List.length_map]
      obtain ⟨hc, h1c⟩ := lit_row (w1.alloc (.cells #[.int .i64 pop, .bool pnow, .int .i64 pfl, .slice A pvals.length cap, .slice B pal.length bcap, .string ⟨pdata.toArray⟩, .string ⟨psp.toArray⟩] 40)) 40 (.int .i64 pop) (.bool pnow) (.int .i64 pfl) (.slice A pvals.length cap) (.slice B pal.length bcap) (.string ⟨pdata.toArray⟩) (.string ⟨psp.toArray⟩) rfl rfl rfl rfl rfl rfl rfl
      have hwr : w.heap.size ≤ wr.heap.size := hst.size
      have hw1 : wr.heap.size ≤ w1.heap.size := hs1.size
      have hrow : ∀ k, u4.ownBlock = some k → w.heap.size ≤ k ∧ k < wr.heap.size := by
        obtain ⟨L0, _, ho, _⟩ := hps
        exact ownsRow_lt ho
      have hx : PartAt ((w1.alloc (.cells #[.int .i64 pop, .bool pnow, .int .i64 pfl, .slice A pvals.length cap, .slice B pal.length bcap, .string ⟨pdata.toArray⟩, .string ⟨psp.toArray⟩] 40)).alloc (.cells #[.int .i64 pop, .bool pnow, .int .i64 pfl, .slice A pvals.length cap, .slice B pal.length bcap, .string ⟨pdata.toArray⟩, .string ⟨psp.toArray⟩] 40)) w.heap.size u4.ownBlock (⟨pop, pnow, pfl, pvals, pal, pdata, psp⟩, ⟨A, cap, B, bcap⟩) := PcAt.part (hP1.on hb13) _ hwr (fun k hk => (hrow k hk).2)
      have HLM := Lib.hid hLm
      have HLP := Lib.hid hLp
      have HLL := Lib.hid hLl
      have HROW := Lib.hid hrow
      have HC := Lib.hid hc
      have H1C := Lib.hid h1c
      clear hLm hLp hrow hLl hc h1c
      go_wp2_with (at_builtin; refine wpList_append_own_at _ rfl _ _ _ rfl w.heap.size 40 i0 _ 7 104 Tryz.underlying30 hi hz0 hz1 hz2 rfl (by decide) u4 L.length _ rfl hown ⟨w1.heap.size + 1, 0, none⟩ 1 1 _ rfl rfl (by simpa using HC.out) H1C.out (by unfold maxLen; rw [HLL.out]; omega) (by rw [HLL.out]; omega) (by simp; omega) ?_)
      intro v' w4 hr hg4 _ hat
      have hps4 := PcsAt.push HLP.out hx hr hg4 (by simpa using hat)
      rw [HLM.out] at hps4
      have hF4 : FBlk w4 g Y lim md .nilIface := Blk.grown (Blk.below hF1 hb13 hF1.lt) hg4 (by intro h; have := (HROW.out g h.symm).1; omega)
      have hs4 : Step g w w4 := Step.grown ((hst.trans hs1).trans (Step.of_below hb13)) hg4 (fun k hk => (HROW.out k hk).1)
      have hYz : Y.size ≤ 1000000 := by rw [HXS.out]; omega
      have hms : boxS g w4 < boxS g wr := by rw [boxS_eq hF4, boxS_eq hF, HXS.out]; omega
      clear hr hat hown
      go_wp2_with fail
      go_roundw
      case rel => exact ⟨Y, _, hps4, hF4, hYz, HFE.out, hs4⟩
      case measure => exact hms
end Go.Proofs.YtifniblffjgfkaaGreatDoor
