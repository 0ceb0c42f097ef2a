/- The contract of head.Value where the value is there; the walk of the law HeadValues. -/
import Derived.Test.YtifniblffjgfkaaDoorHeadValuesP
namespace Go.Proofs.YtifniblffjgfkaaDoor
open Go.ChangeShapes Go.WideShapes Go.ChangeAt Go.RowKit Go.Shelf
set_option linter.unusedVariables false
theorem valGo_hit {f : List UInt8 × Nat × Nat} {fs : FieldL} {vs : List Nat} {n : List UInt8} {x : Nat} (h : valGo (f :: fs) vs n = .inr x) (hf : f.1 = n) : ∃ ys, vs = x :: ys := by
  rcases vs with _ | ⟨y, ys⟩
  · simp [valGo, hf] at h
  · simp [valGo, hf] at h
    exact ⟨ys, by rw [h]⟩
theorem valGo_miss {f : List UInt8 × Nat × Nat} {fs : FieldL} {vs : List Nat} {n : List UInt8} {x : Nat} (h : valGo (f :: fs) vs n = .inr x) (hf : f.1 ≠ n) : valGo fs vs.tail n = .inr x := by
  rcases vs with _ | ⟨y, ys⟩
  · simpa [valGo, hf] using h
  · simpa [valGo, hf] using h
theorem row_reads {w0 w1 : World} {r : HeadR} {lv : Value} (hrm : r ∈ headT) (hrow : FRow w1 w0.heap.size lv r.2.2.2) : ∃ lb lcap, lv = .slice (some ⟨lb, 0, none⟩) r.2.2.2.length lcap ∧ r.2.2.2.length ≤ lcap ∧ lcap ≤ maxLen ∧ lb < w1.heap.size ∧ (∀ j u, (fCells r.2.2.2)[j]? = some u → w1.cell? ⟨lb, j, none⟩ = some u) := by
  have hpos := headT_pos r hrm
  rcases hrow.2 with ⟨_, h⟩ | ⟨lb, lcap, cur, h1, h2, h3, h4, h5, _⟩
  · omega
  · subst h1
    have hrow' := hrow
    unfold FRow at hrow'
    exact ⟨lb, lcap, rfl, h4, h5, (MRow.lt hrow lb rfl).2, fun j u hu => hrow'.cellAt j u hu⟩
set_option maxRecDepth 20000 in
set_option maxHeartbeats 2000000 in
theorem value_at (op : Int) (now : Bool) (fl : Int) (vals : List Nat) (A : Option Addr) (cap : Nat) (r : HeadR) (hr : headRow op = some r) (n : ByteArray) (x : Nat) (hval : valGo r.2.2.2 vals n.data.toList = .inr x) (w : World) (h0 : -9223372036854775808 ≤ op ∧ op ≤ 9223372036854775807)
    (hv : SRd w (.slice A vals.length cap) 1 vals.length (vals.map u64V)) (T : Tabs w) (hS : w.ShapedOpen Tryd.prog) :
    Calls Tryd.prog 11 #[.agg #[.int .i64 op, .bool now, .int .i64 fl, .slice A vals.length cap], .string n] w fun e w' => e = .returned (.tuple #[.int .u64 x, .nilIface]) ∧ Below w.heap.size w w' := by
  obtain ⟨g, hg⟩ : ∃ g, w.heap.size = g := ⟨_, rfl⟩
  have hb0 : Below w.heap.size w (w.alloc (.cells #[.int .i64 op, .bool now, .int .i64 fl, .slice A vals.length cap] 39)) := (Below.refl _ _).alloc (Nat.le_refl _) _
  have hB0 := Blk.new w 39 #[.int .i64 op, .bool now, .int .i64 fl, .slice A vals.length cap]
  rw [hg] at hB0
  have hrm := headRow_mem hr
  have hpos := headT_pos r hrm
  go_enter Tryd.func11, Tryd.ntmps11
  go_wp2_with fail
  obtain ⟨w0, hw0⟩ : ∃ w0 : World, w.alloc (.cells #[.int .i64 op, .bool now, .int .i64 fl, .slice A vals.length cap] 39) = w0 := ⟨_, rfl⟩
  rw [hw0] at hb0 hB0 ⊢
  clear hw0
  try rw [hg]
  have hv0 := hv.on hb0
  refine (fields_any op _ h0 (T.on hb0) (shaped_ons hS hb0)).mono ?_
  rintro e w1 ⟨hfi, hb1⟩
  rw [hr] at hfi
  obtain ⟨lv, rfl, hrow⟩ := hfi
  obtain ⟨lb, lcap, rfl, hlc, hlm, hlb, hlcell⟩ := row_reads (w0 := w0) hrm hrow
  have hbw1 := below_step hb0 hb1
  have hB1 := hB0.below hb1 hB0.lt
  have hv1 := hv0.on hb1
  obtain ⟨N, hN⟩ : ∃ N, r.2.2.2.length = N := ⟨_, rfl⟩
  obtain ⟨M, hM⟩ : ∃ M, vals.length = M := ⟨_, rfl⟩
  have hA0 := hval
  rw [hN] at hlc hpos ⊢
  unfold maxLen at hlm
  have hMm : M ≤ 9223372036854775807 := by
    obtain ⟨_, A', cap', hvv, h2, h3, _⟩ := hv1
    injection hvv with e1 e2 e3
    unfold maxLen at h3
    omega
  have HV1 := Lib.hid hv1
  rw [hM] at hB1
  have HLC := Lib.hid hlcell
  have HN := Lib.hid hN
  have HM := Lib.hid hM
  have HVAL := Lib.hid hval
  have hgl1 := hB1.lt
  clear hval hv hv0 hv1 hlcell hrow hN hM hA0 hr hB0
  try rw [HM.out]
  go_wp2_with fail
  go_loopw [21] (fun i wr => ∃ k : Nat, k ≤ N ∧ i = .int .i64 k ∧ valGo (r.2.2.2.drop k) (vals.drop k) n.data.toList = .inr x ∧ Below w1.heap.size w1 wr) (fun i _ => N - (intOf i).toNat)
  case atStart => exact ⟨0, Nat.zero_le _, rfl, HVAL.out, Below.refl _ _⟩
  case round =>
    obtain ⟨k, hk, rfl, hA, hbw⟩ := hrel
    by_cases hlt : k < N
    · obtain ⟨f, hf⟩ : ∃ f, r.2.2.2[k]? = some f := ⟨_, List.getElem?_eq_getElem (by rw [HN.out]; exact hlt)⟩
      have hdr : r.2.2.2.drop k = f :: r.2.2.2.drop (k + 1) := by
        obtain ⟨h1, h2⟩ := List.getElem?_eq_some_iff.1 hf
        rw [List.drop_eq_getElem_cons h1, h2]
      rw [hdr] at hA
      obtain ⟨q0, q1, q2⟩ := fCells_at _ _ _ hf
      obtain ⟨F, hF⟩ : ∃ F : ByteArray, (⟨f.1.toArray⟩ : ByteArray) = F := ⟨_, rfl⟩
      have hFl : F.data.toList = f.1 := by rw [← hF]
      rw [hF] at q0
      have e0 : wr.cell? ⟨lb, k * 3, none⟩ = some (.string F) := (hbw.cell (p := ⟨lb, k * 3, none⟩) hlb).trans (by rw [Nat.mul_comm]; exact HLC.out _ _ q0)
      have e1 : wr.cell? ⟨lb, k * 3 + 1, none⟩ = some (.int .i64 f.2.1) := (hbw.cell (p := ⟨lb, k * 3 + 1, none⟩) hlb).trans (by rw [Nat.mul_comm]; exact HLC.out _ _ q1)
      have e2 : wr.cell? ⟨lb, k * 3 + 2, none⟩ = some (.int .i64 f.2.2) := (hbw.cell (p := ⟨lb, k * 3 + 2, none⟩) hlb).trans (by rw [Nat.mul_comm]; exact HLC.out _ _ q2)
      have hb2 : Below wr.heap.size wr (wr.alloc (.cells #[.string F, .int .i64 f.2.1, .int .i64 f.2.2] 33)) := (Below.refl _ _).alloc (Nat.le_refl _) _
      have hBr := hB1.below hbw hgl1
      have hBa := hBr.below hb2 hBr.lt
      have c3 := hBr.cell 3
      have d3 := hBa.cell 3
      clear hdr q0 q1 q2 hF hf
      by_cases hfn : f.1 = n.data.toList
      · obtain ⟨ys, hvd⟩ := valGo_hit hA hfn
        have hvk : vals[k]? = some x := by
          have := congrArg List.head? hvd
          rw [List.head?_drop] at this
          exact this
        have hkM : k < M := by rw [← HM.out]; exact (List.getElem?_eq_some_iff.1 hvk).1
        have hkI : (k : Int) < (M : Int) := by omega
        have hkd : decide ((M : Int) ≤ (k : Int)) = false := by simp; omega
        have hse : (F.toList == n.toList) = true := by rw [toList_of, toList_of, hFl, hfn]; simp
        obtain ⟨_, A', cap', hvv, _, _, h4⟩ := (HV1.out.on hbw).on hb2
        injection hvv with g1 g2 g3
        obtain ⟨b, o, hA', hbl, hcc⟩ := h4 (by rw [HM.out]; omega)
        have hAA : A = some ⟨b, o, none⟩ := g1.trans hA'
        subst hAA
        have cv := hcc k (u64V x) (by rw [List.getElem?_map, hvk]; rfl)
        unfold u64V at cv
        have cv0 := (hb2.cell (p := ⟨b, o + k, none⟩) (by
          obtain ⟨_, A2, cap2, hvv2, _, _, h42⟩ := HV1.out.on hbw
          injection hvv2 with u1 _ _
          obtain ⟨b2, o2, hA2, hbl2, _⟩ := h42 (by rw [HM.out]; omega)
          have := u1.trans hA2
          injection this with this
          injection this with t1 t2
          subst t1
          exact hbl2)).symm.trans cv
        clear hcc h4 g1 g2 g3 hA' hvk hvd hA hfn hFl
        go_wp2_with fail
        go_ret2
        exact ⟨rfl, below_step hbw1 (below_step hbw hb2)⟩
      · have hA := valGo_miss hA hfn
        rw [List.tail_drop] at hA
        have hse : (F.toList == n.toList) = false := by
          rw [toList_of, toList_of, hFl]
          simpa using hfn
        have HA := Lib.hid hA
        clear hA hfn hFl
        go_wp2_with fail
        go_roundw
        case rel => exact ⟨k + 1, by omega, by go_num, HA.out, below_step hbw hb2⟩
        case measure => simp [intOf]; omega
    · obtain rfl : k = N := by omega
      rw [List.drop_of_length_le (by rw [HN.out]; exact Nat.le_refl _)] at hA
      cases hA
theorem pickK (a : Int) (n : Nat) (hn : 0 < n) : ∃ k : Nat, pickI a n = k ∧ k < n := by
  have := pick_rng a n (by omega)
  obtain ⟨k, hk⟩ := Int.eq_ofNat_of_zero_le this.1
  exact ⟨k, hk, by omega⟩
theorem pick_tok (a : Int) (n : Nat) (k : Nat) (hk : pickI a n = k) (hn : 0 < n) (hn2 : n < 9223372036854775808) (w : World) : Calls Tryd.prog 8 #[.int .i64 a, .int .i64 n] w fun e w' => e = .returned (.int .i64 k) ∧ w = w' := by
  rw [← hk]
  exact pick_any a n w (by omega) (by omega)
theorem make1_bad (op fl : Int) (r : HeadR) (hr : headRow op = some r) (j m : Nat) (f : List UInt8 × Nat × Nat) (hf : r.2.2.2[j]? = some f) (F : ByteArray) (hF : F.data.toList = f.1) (E : Nat × Option Nat) (hE : rightR op false fl (oneL r j m) = some E) (x y : Value) (w : World) (h0 : -9223372036854775808 ≤ op ∧ op ≤ 9223372036854775807) (hfl : -9223372036854775808 ≤ fl ∧ fl ≤ 9223372036854775807)
    (hx : SRd w x 1 1 [.string F]) (hy : SRd w y 1 1 [u64V m]) (hm : m < 18446744073709551616) (T : Tabs w) (hS : w.ShapedOpen Tryd.prog) :
    Calls Tryd.prog 9 #[.int .i64 op, .int .i64 fl, x, y] w fun e w' => ∃ t v, e = .returned (.tuple #[.agg #[.int .i64 0, .bool false, .int .i64 0, .slice none 0 0], .iface t v]) ∧ Below w.heap.size w w' := by
  refine (make_any op fl [F] [m] x y w h0 hfl hx hy (by intro v hv; simp only [List.mem_singleton] at hv; omega) T hS).mono ?_
  rintro e w' ⟨hm, hb⟩
  have hmk := make_one op fl r hr j m f hf
  rw [hE] at hmk
  rw [show ([F].map (·.data.toList)) = [f.1] from by rw [List.map_singleton, hF], hmk] at hm
  obtain ⟨er, rfl, he⟩ := hm
  obtain ⟨t, v, rfl⟩ := he.value
  exact ⟨t, v, rfl, hb⟩
theorem make1_ok (op fl : Int) (r : HeadR) (hr : headRow op = some r) (j m : Nat) (f : List UInt8 × Nat × Nat) (hf : r.2.2.2[j]? = some f) (F : ByteArray) (hF : F.data.toList = f.1) (hE : rightR op false fl (oneL r j m) = none) (x y : Value) (w : World) (h0 : -9223372036854775808 ≤ op ∧ op ≤ 9223372036854775807) (hfl : -9223372036854775808 ≤ fl ∧ fl ≤ 9223372036854775807)
    (hx : SRd w x 1 1 [.string F]) (hy : SRd w y 1 1 [u64V m]) (hm : m < 18446744073709551616) (T : Tabs w) (hS : w.ShapedOpen Tryd.prog) :
    Calls Tryd.prog 9 #[.int .i64 op, .int .i64 fl, x, y] w fun e w' => ∃ A cap, e = .returned (.tuple #[.agg #[.int .i64 op, .bool false, .int .i64 fl, .slice A r.2.2.2.length cap], .nilIface]) ∧ SRd w' (.slice A (oneL r j m).length cap) 1 (oneL r j m).length ((oneL r j m).map u64V) ∧ Below w.heap.size w w' := by
  refine (make_any op fl [F] [m] x y w h0 hfl hx hy (by intro v hv; simp only [List.mem_singleton] at hv; omega) T hS).mono ?_
  rintro e w' ⟨hm, hb⟩
  have hmk := make_one op fl r hr j m f hf
  rw [hE] at hmk
  rw [show ([F].map (·.data.toList)) = [f.1] from by rw [List.map_singleton, hF], hmk] at hm
  obtain ⟨v, rfl, hv⟩ := hm
  obtain ⟨q1, A, cap, rfl, q2⟩ := hv
  have hl : (oneL r j m).length = r.2.2.2.length := by unfold oneL; simp
  exact ⟨A, cap, by rw [hl], ⟨q1, A, cap, rfl, q2⟩, hb⟩
set_option maxRecDepth 20000 in
set_option maxHeartbeats 4000000 in
theorem valuesHead (op fl n which : Int) (w : World) (h0 : -9223372036854775808 ≤ op ∧ op ≤ 9223372036854775807) (hf0 : -9223372036854775808 ≤ fl ∧ fl ≤ 9223372036854775807) (hn : 0 ≤ n ∧ n ≤ 18446744073709551615) (hw : -9223372036854775808 ≤ which ∧ which ≤ 9223372036854775807) (T : Tabs w) (hS : w.ShapedOpen Tryd.prog) :
    Calls Tryd.prog 4 #[.int .i64 op, .int .i64 fl, .int .u64 n, .int .i64 which] w fun e w' => e = .returned (.bool true) ∧ Below w.heap.size w w' := by
  obtain ⟨m, rfl⟩ := Int.eq_ofNat_of_zero_le hn.1
  have hm : m < 18446744073709551616 := by omega
  go_enter Tryd.func4, Tryd.ntmps4
  go_wp2_with fail
  refine (headed_fact w T hS).mono ?_
  rintro e w1 ⟨rfl, hb1⟩
  have T1 := T.on hb1
  have S1 := shaped_ons hS hb1
  go_wp2_with fail
  refine (fields_any op _ h0 T1 S1).mono ?_
  rintro e w2 ⟨hfi, hb2⟩
  have hb2w := below_step hb1 hb2
  rcases hr : headRow op with _ | r
  · rw [hr] at hfi
    obtain rfl : e = _ := hfi
    rw [show errv 1 = .iface 55 (.int .i64 1) from rfl]
    clear hr
    go_wp2_with fail
    go_ret
    exact ⟨rfl, hb2w⟩
  rw [hr] at hfi
  obtain ⟨lv, rfl, hrow⟩ := hfi
  have hrm := headRow_mem hr
  have hpos := headT_pos r hrm
  have hok := okAll_mem _ (headT_ok r hrm)
  have hmask := headT_mask r hrm
  obtain ⟨lb, lcap, rfl, hlc, hlm, hlb, hlcell⟩ := row_reads (w0 := w1) hrm hrow
  obtain ⟨N, hN⟩ : ∃ N, r.2.2.2.length = N := ⟨_, rfl⟩
  rw [hN] at hlc hpos ⊢
  unfold maxLen at hlm
  obtain ⟨j, hj, hjN⟩ := pickK which N (by omega)
  obtain ⟨f, hf⟩ : ∃ f, r.2.2.2[j]? = some f := ⟨_, List.getElem?_eq_getElem (by rw [hN]; exact hjN)⟩
  have hokf := hok f (List.mem_of_getElem? hf)
  have hf8 : f.2.2 ≤ 8 ∧ f.2.1 ≤ 48 := by simp only [okF, Bool.and_eq_true, decide_eq_true_eq] at hokf; omega
  obtain ⟨q0, q1, q2⟩ := fCells_at _ _ _ hf
  obtain ⟨F, hF⟩ : ∃ F : ByteArray, (⟨f.1.toArray⟩ : ByteArray) = F := ⟨_, rfl⟩
  have hFl : F.data.toList = f.1 := by rw [← hF]
  rw [hF] at q0
  have e0 : w2.cell? ⟨lb, j * 3, none⟩ = some (.string F) := by rw [Nat.mul_comm]; exact hlcell _ _ q0
  have e1 : w2.cell? ⟨lb, j * 3 + 1, none⟩ = some (.int .i64 f.2.1) := by rw [Nat.mul_comm]; exact hlcell _ _ q1
  have e2 : w2.cell? ⟨lb, j * 3 + 2, none⟩ = some (.int .i64 f.2.2) := by rw [Nat.mul_comm]; exact hlcell _ _ q2
  have HJ := Lib.hid hj
  have HR := Lib.hid hr
  have HF := Lib.hid hf
  have HFL := Lib.hid hFl
  have HLC := Lib.hid hlcell
  have HN := Lib.hid hN
  have hjI : (j : Int) < (N : Int) := by omega
  clear hj hr hf hFl hlcell hF q0 q1 q2 hrow hok hokf hN
  go_wp2_with fail
  refine (pick_tok which N j HJ.out (by omega) (by omega) _).mono ?_
  rintro e w' ⟨rfl, rfl⟩
  go_wp2_with fail
  obtain ⟨g, hg⟩ : ∃ g, w2.heap.size = g := ⟨_, rfl⟩
  have hBf : Blk (((w2.alloc (.cells #[.string F, .int .i64 f.2.1, .int .i64 f.2.2] 33)).alloc (.cells #[.string F] 9)).alloc (.cells #[.int .u64 m] 35)) g 33 #[.string F, .int .i64 f.2.1, .int .i64 f.2.2] := by rw [← hg]; exact ((Blk.new w2 _ _).alloc _).alloc _
  have hBn : Blk (((w2.alloc (.cells #[.string F, .int .i64 f.2.1, .int .i64 f.2.2] 33)).alloc (.cells #[.string F] 9)).alloc (.cells #[.int .u64 m] 35)) (g + 1) 9 #[.string F] := by
    have := (Blk.new (w2.alloc (.cells #[.string F, .int .i64 f.2.1, .int .i64 f.2.2] 33)) 9 #[.string F]).alloc (.cells #[.int .u64 m] 35)
    rw [← hg]
    simpa using this
  have hBm : Blk (((w2.alloc (.cells #[.string F, .int .i64 f.2.1, .int .i64 f.2.2] 33)).alloc (.cells #[.string F] 9)).alloc (.cells #[.int .u64 m] 35)) (g + 1 + 1) 35 #[.int .u64 m] := by
    have := Blk.new ((w2.alloc (.cells #[.string F, .int .i64 f.2.1, .int .i64 f.2.2] 33)).alloc (.cells #[.string F] 9)) 35 #[.int .u64 m]
    rw [← hg]
    simpa using this
  have hb5 : Below w2.heap.size w2 (((w2.alloc (.cells #[.string F, .int .i64 f.2.1, .int .i64 f.2.2] 33)).alloc (.cells #[.string F] 9)).alloc (.cells #[.int .u64 m] 35)) := (((Below.refl _ _).alloc (Nat.le_refl _) _).alloc (by simp) _).alloc (by simp; omega) _
  obtain ⟨w5, hw5⟩ : ∃ w5 : World, (((w2.alloc (.cells #[.string F, .int .i64 f.2.1, .int .i64 f.2.2] 33)).alloc (.cells #[.string F] 9)).alloc (.cells #[.int .u64 m] 35)) = w5 := ⟨_, rfl⟩
  rw [hw5] at hBf hBn hBm hb5 ⊢
  rw [hg]
  have hb5w := below_step hb2w hb5
  have hX : SRd w5 (.slice (some ⟨g + 1, 0, none⟩) 1 1) 1 1 [.string F] := SRd.lit5 hBn
  have hY : SRd w5 (.slice (some ⟨g + 1 + 1, 0, none⟩) 1 1) 1 1 [u64V m] := SRd.lit5 hBm
  have hlb5 : lb < w5.heap.size := Nat.lt_of_lt_of_le hlb hb5.size
  have HG := Lib.hid hg
  clear hw5 hg hBn hBm e0 e1 e2
  rcases hE : rightR op false fl (oneL r j m) with _ | E
  rotate_left
  · have hE2 := right_one op fl r HR.out j m f HF.out
    rw [hE] at hE2
    refine (make1_bad op fl r HR.out j m f HF.out F HFL.out E hE _ _ w5 h0 hf0 hX hY hm (T.on hb5w) (shaped_ons hS hb5w)).mono ?_
    rintro e w6 ⟨t, u, rfl, hb6⟩
    have hb6w := below_step hb5w hb6
    have hBf6 := hBf.below hb6 hBf.lt
    have hb7 : Below w6.heap.size w6 (w6.alloc (.cells #[.int .i64 0, .bool false, .int .i64 0, .slice none 0 0] 39)) := (Below.refl _ _).alloc (Nat.le_refl _) _
    have hb7w := below_step hb6w hb7
    have hBf7 := hBf6.below hb7 hBf6.lt
    have HE2 := Lib.hid hE2
    clear hE hE2
    go_wp2_with fail
    refine (flags_some op r HR.out _ h0 (T.on hb7w)).mono ?_
    rintro e w8 ⟨rfl, hb8⟩
    have hb8w := below_step hb7w hb8
    have hBf8 := hBf7.below hb8 hBf7.lt
    have c0 := hBf8.cell 0
    have c1 := hBf8.cell 1
    have c2 := hBf8.cell 2
    by_cases hneg : fl < 0
    · go_wp2_with fail
      go_ret
      exact ⟨rfl, hb8w⟩
    have hnegd : decide (fl < 0) = false := by simpa using hneg
    by_cases hoff : offM fl r.2.2.1 = true
    · have f1 : (bits .andNot .i64 fl (r.2.2.1 : Int) != 0) = true := hoff
      go_wp2_with fail
      go_ret
      exact ⟨rfl, hb8w⟩
    have f1 : (bits .andNot .i64 fl (r.2.2.1 : Int) != 0) = false := by simpa [offM] using hoff
    have hE3 := HE2.out
    rw [show (decide (fl < 0) || offM fl r.2.2.1) = false from by rw [hnegd]; simpa using hoff] at hE3
    rw [if_neg (by decide)] at hE3
    by_cases h8 : f.2.2 < 8 ∧ m / 2 ^ (8 * f.2.2) ≠ 0
    · have h8i : (f.2.2 : Int) < 8 := by omega
      have h8b : decide ((f.2.2 : Int) < 8) = true := by simpa using h8i
      have fx : ((m : Int) / 2 ^ (8 * f.2.2) != 0) = true := by
        rw [bne_iff_ne]
        exact_mod_cast h8.2
      clear hE3 h8 hoff
      go_wp2_with fail
      go_ret
      exact ⟨rfl, hb8w⟩
    · rw [if_neg h8] at hE3
      cases hE3
  · refine (make1_ok op fl r HR.out j m f HF.out F HFL.out hE _ _ w5 h0 hf0 hX hY hm (T.on hb5w) (shaped_ons hS hb5w)).mono ?_
    rintro e w6 ⟨A, cap, rfl, hv6, hb6⟩
    rw [HN.out]
    have hb6w := below_step hb5w hb6
    have hBf6 := hBf.below hb6 hBf.lt
    obtain ⟨q, hq⟩ : ∃ q, w6.heap.size = q := ⟨_, rfl⟩
    have hb7 : Below w6.heap.size w6 (w6.alloc (.cells #[.int .i64 op, .bool false, .int .i64 fl, .slice A N cap] 39)) := (Below.refl _ _).alloc (Nat.le_refl _) _
    have hBh7 := Blk.new w6 39 #[.int .i64 op, .bool false, .int .i64 fl, .slice A N cap]
    have hb7w := below_step hb6w hb7
    have hBf7 := hBf6.below hb7 hBf6.lt
    have hgq : g ≠ q := by have := hBf6.lt; omega
    have hlb7 : lb < w6.heap.size := Nat.lt_of_lt_of_le hlb5 hb6.size
    rw [hq] at hBh7
    have hlb67 : ∀ j u, (fCells r.2.2.2)[j]? = some u → (w6.alloc (.cells #[.int .i64 op, .bool false, .int .i64 fl, .slice A N cap] 39)).cell? ⟨lb, j, none⟩ = some u := fun j u hu => (((below_step hb5 hb6).trans (hb7.mono (Nat.le_trans hb5.size hb6.size))).cell (p := ⟨lb, j, none⟩) hlb).trans (HLC.out j u hu)
    go_wp2_with fail
    try rw [hq]
    obtain ⟨w7, hw7⟩ : ∃ w7 : World, w6.alloc (.cells #[.int .i64 op, .bool false, .int .i64 fl, .slice A N cap] 39) = w7 := ⟨_, rfl⟩
    have hv7 := hv6.on hb7
    rw [hw7] at hb7 hb7w hBh7 hBf7 hlb67 hv7 ⊢
    have hl1 : (oneL r j m).length = N := by rw [← HN.out]; unfold oneL; simp
    rw [hl1] at hv7
    have hlbw : lb < w7.heap.size := Nat.lt_of_lt_of_le hlb7 hb7.size
    have HE := Lib.hid hE
    have HV7 := Lib.hid hv7
    have HL1 := Lib.hid hl1
    have HL67 := Lib.hid hlb67
    have hgl := hBf7.lt
    have hql := hBh7.lt
    clear hw7 hE hv6 hv7 hl1 hlb67 hq hX hY
    go_loopw [84] (fun i wr => ∃ k : Nat, k ≤ N ∧ i = .int .i64 k ∧ Below w7.heap.size w7 wr) (fun i _ => N - (intOf i).toNat)
    case atStart => exact ⟨0, Nat.zero_le _, rfl, Below.refl _ _⟩
    case round =>
      obtain ⟨k, hk, rfl, hbw⟩ := hrel
      have hbrw := below_step hb7w hbw
      have hBfr := hBf7.below hbw hgl
      have hBhr := hBh7.below hbw hql
      by_cases hlt : k < N
      · obtain ⟨d, hd⟩ : ∃ d, r.2.2.2[k]? = some d := ⟨_, List.getElem?_eq_getElem (by rw [HN.out]; exact hlt)⟩
        obtain ⟨p0, p1, p2⟩ := fCells_at _ _ _ hd
        obtain ⟨D, hD⟩ : ∃ D : ByteArray, (⟨d.1.toArray⟩ : ByteArray) = D := ⟨_, rfl⟩
        have hDl : D.data.toList = d.1 := by rw [← hD]
        rw [hD] at p0
        have e0 : wr.cell? ⟨lb, k * 3, none⟩ = some (.string D) := (hbw.cell (p := ⟨lb, k * 3, none⟩) hlbw).trans (by rw [Nat.mul_comm]; exact HL67.out _ _ p0)
        have e1 : wr.cell? ⟨lb, k * 3 + 1, none⟩ = some (.int .i64 d.2.1) := (hbw.cell (p := ⟨lb, k * 3 + 1, none⟩) hlbw).trans (by rw [Nat.mul_comm]; exact HL67.out _ _ p1)
        have e2 : wr.cell? ⟨lb, k * 3 + 2, none⟩ = some (.int .i64 d.2.2) := (hbw.cell (p := ⟨lb, k * 3 + 2, none⟩) hlbw).trans (by rw [Nat.mul_comm]; exact HL67.out _ _ p2)
        have hval := val_one r hrm j m k d hd
        rw [← hDl] at hval
        have hjk : k = j ∨ (k ≠ j ∧ D.data.toList ≠ F.data.toList) := by
          by_cases h : k = j
          · exact .inl h
          · refine .inr ⟨h, fun e => h (name_inj (names_nodup r hrm) hd HF.out ?_)⟩
            rw [hDl, HFL.out] at e
            exact e
        have hdf : k = j → D = F ∧ d = f := by
          intro h
          subst h
          have : d = f := Option.some.inj (hd.symm.trans HF.out)
          subst this
          exact ⟨by rw [← hD, ← HFL.out], rfl⟩
        have hbd : Below wr.heap.size wr (wr.alloc (.cells #[.string D, .int .i64 d.2.1, .int .i64 d.2.2] 33)) := (Below.refl _ _).alloc (Nat.le_refl _) _
        have hBd := Blk.new wr 33 #[.string D, .int .i64 d.2.1, .int .i64 d.2.2]
        have hBfd := hBfr.below hbd hBfr.lt
        have hBhd := hBhr.below hbd hBhr.lt
        have a0 := hBhd.cell 0
        have a1 := hBhd.cell 1
        have a2 := hBhd.cell 2
        have a3 := hBhd.cell 3
        have hbdw := below_step hbrw hbd
        obtain ⟨x, hx⟩ : ∃ x, (if k = j then m else 0) = x := ⟨_, rfl⟩
        rw [hx] at hval
        have hvc := value_at op false fl (oneL r j m) A cap r HR.out D x hval (wr.alloc (.cells #[.string D, .int .i64 d.2.1, .int .i64 d.2.2] 33)) h0 (by rw [HL1.out]; exact (HV7.out.on hbw).on hbd) (T.on hbdw) (shaped_ons hS hbdw)
        rw [HL1.out] at hvc
        have HVC := Lib.hid hvc
        have HX := Lib.hid hx
        have HJK := Lib.hid hjk
        have HDF := Lib.hid hdf
        clear hd p0 p1 p2 hD hDl hval hx hjk hdf hvc
        go_wp2_with fail
        refine HVC.out.mono ?_
        rintro e w8 ⟨rfl, hb8⟩
        have hBd8 := hBd.below hb8 hBd.lt
        have hBf8 := hBfd.below hb8 hBfd.lt
        have hb8w : Below w7.heap.size w7 w8 := below_step (below_step hbw hbd) hb8
        have b0 := hBd8.cell 0
        have b1 := hBd8.cell 1
        have b2 := hBd8.cell 2
        have c0 := hBf8.cell 0
        have c1 := hBf8.cell 1
        have c2 := hBf8.cell 2
        clear a0 a1 a2 a3 e0 e1 e2 hBd hBfd hBhd
        rcases HJK.out with hkj | ⟨hkj, hne⟩
        · obtain ⟨hDF, hdf⟩ := HDF.out hkj
          subst hDF
          subst hdf
          have hxm : x = m := by rw [← HX.out, if_pos hkj]
          subst hxm
          clear hkj
          go_wp2_with fail
          go_roundw
          case rel => exact ⟨k + 1, by omega, by go_num, hb8w⟩
          case measure => simp [intOf]; omega
        · have hx0 : x = 0 := by rw [← HX.out, if_neg hkj]
          subst hx0
          have hn1 : ¬ D.toList = F.toList := by rw [toList_of, toList_of]; exact hne
          have hn2 : (D.toList == F.toList) = false := by simpa using hn1
          clear hne
          go_wp2_with fail
          go_roundw
          case rel => exact ⟨k + 1, by omega, by go_num, hb8w⟩
          case measure => simp [intOf]; omega
      · obtain rfl : k = N := by omega
        have a0 := hBhr.cell 0
        have a1 := hBhr.cell 1
        have a2 := hBhr.cell 2
        have a3 := hBhr.cell 3
        go_wp2_with fail
        have hra := right_any op false fl (oneL r j m) (.slice A (oneL r j m).length cap) wr h0 hf0 (by have h := HV7.out.on hbw; rw [← HL1.out] at h; exact h) (by
          intro y hy
          obtain ⟨i, hi⟩ := List.mem_iff_getElem?.1 hy
          have hil : i < r.2.2.2.length := by have := (List.getElem?_eq_some_iff.1 hi).1; rw [HL1.out] at this; rw [HN.out]; exact this
          rw [oneL_at r j m i hil] at hi
          have := Option.some.inj hi
          split at this <;> omega) (T.on hbrw) (shaped_ons hS hbrw)
        rw [HL1.out, HE.out] at hra
        refine hra.mono ?_
        rintro e w8 ⟨er, rfl, he, hb8⟩
        obtain rfl : er = .nilIface := he
        go_wp2_with fail
        go_ret
        exact ⟨by simp, below_step hbrw hb8⟩
end Go.Proofs.YtifniblffjgfkaaDoor
