/- The walk of the law HeadZeros. -/
import Derived.Test.YtdllecgjeiepfaaDoorHeadZerosP
import Derived.Test.YtdllecgjeiepfaaDoorHeadLaid
namespace Go.Proofs.YtdllecgjeiepfaaDoor
open Go.ChangeShapes Go.WideShapes Go.ChangeAt Go.RowKit
set_option linter.unusedVariables false
theorem closure_z (w : World) (g : Nat) (hgl : g < w.heap.size) (at_ : Nat) (f : List UInt8 × Nat × Nat) (F : ByteArray) (hat : at_ < 1000) (hf : f.2.1 ≤ 1000 ∧ f.2.2 ≤ 1000) (hg : w.cell? ⟨g, 0, none⟩ = some (.int .i64 at_)) :
    Calls Tryd.prog 13 #[.agg #[.string F, .int .i64 f.2.1, .int .i64 f.2.2], .pointer (some ⟨g, 0, none⟩)] w fun e w' => e = .returned (.bool (inF f at_)) ∧ Below w.heap.size w w' := by
  have hb0 : Below w.heap.size w (w.alloc (.cells #[.string F, .int .i64 f.2.1, .int .i64 f.2.2] 41)) := (Below.refl _ _).alloc (Nat.le_refl _) _
  have c0 := (hb0.cell (p := ⟨g, 0, none⟩) hgl).trans hg
  obtain ⟨a, b, d⟩ := f
  simp only at hf
  unfold inF
  clear hg
  by_cases h1 : b ≤ at_
  · by_cases h2 : at_ < b + d
    · rw [decide_eq_true h1, decide_eq_true h2]
      have hd2 : decide ((at_ : Int) < (b : Int) + d) = true := by simp; omega
      go_enter Tryd.func13, Tryd.ntmps13
      go_wp2_with fail
      go_ret
      exact ⟨rfl, hb0⟩
    · rw [decide_eq_true h1, decide_eq_false h2]
      have hd2 : decide ((at_ : Int) < (b : Int) + d) = false := by simp; omega
      go_enter Tryd.func13, Tryd.ntmps13
      go_wp2_with fail
      go_ret
      exact ⟨rfl, hb0⟩
  · rw [decide_eq_false h1]
    go_enter Tryd.func13, Tryd.ntmps13
    go_wp2_with fail
    go_ret
    exact ⟨rfl, hb0⟩
theorem small_at : ∀ r ∈ headT, ∀ f ∈ r.2.2.2, f.2.1 ≤ 1000 ∧ f.2.2 ≤ 1000 := by decide +kernel
set_option maxHeartbeats 2000000 in
theorem indexf_z (r : HeadR) (hr : r ∈ headT) (lb N cap g at_ : Nat) (w : World) (hN : r.2.2.2.length = N) (hcap : N ≤ cap ∧ cap ≤ maxLen) (hlb : lb < w.heap.size) (hgl : g < w.heap.size) (hat : at_ < 1000)
    (hlc : ∀ j u, (fCells r.2.2.2)[j]? = some u → w.cell? ⟨lb, j, none⟩ = some u) (hg : w.cell? ⟨g, 0, none⟩ = some (.int .i64 at_)) :
    Calls Tryd.prog 25 #[.slice (some ⟨lb, 0, none⟩) N cap, .func (.func 13) #[] #[.pointer (some ⟨g, 0, none⟩)]] w fun e w' =>
    ∃ i : Int, e = .returned (.int .i64 i) ∧ decide (0 ≤ i) = freeAt r.2.2.2 at_ ∧ Below w.heap.size w w' := by
  have HLC := Lib.hid hlc
  unfold maxLen at hcap
  have hpos := headT_pos r hr
  rw [hN] at hpos
  clear hlc
  go_enter Tryd.func25, Tryd.ntmps25
  go_wp2_with fail
  go_loopw [8] (fun i wr => ∃ k : Nat, k ≤ N ∧ i = .int .i64 k ∧ freeAt (r.2.2.2.take k) at_ = false ∧ Below w.heap.size w wr) (fun i _ => N - (intOf i).toNat)
  case atStart => exact ⟨0, Nat.zero_le _, rfl, rfl, Below.refl _ _⟩
  case round =>
    obtain ⟨k, hk, rfl, hno, hbr⟩ := hrel
    have HNO := Lib.hid hno
    clear hno
    by_cases hlt : k < N
    · obtain ⟨f, hf⟩ : ∃ f, r.2.2.2[k]? = some f := ⟨_, List.getElem?_eq_getElem (by omega)⟩
      have hfm := List.mem_of_getElem? hf
      have hc := fCells_at _ _ _ hf
      have e0 : wr.cell? ⟨lb, 3 * k, none⟩ = some (.string ⟨f.1.toArray⟩) := (hbr.cell (p := ⟨lb, 3 * k, none⟩) hlb).trans (HLC.out _ _ hc.1)
      have e1 : wr.cell? ⟨lb, 3 * k + 1, none⟩ = some (.int .i64 f.2.1) := (hbr.cell (p := ⟨lb, 3 * k + 1, none⟩) hlb).trans (HLC.out _ _ hc.2.1)
      have e2 : wr.cell? ⟨lb, 3 * k + 2, none⟩ = some (.int .i64 f.2.2) := (hbr.cell (p := ⟨lb, 3 * k + 2, none⟩) hlb).trans (HLC.out _ _ hc.2.2)
      rw [Nat.mul_comm] at e0 e1 e2
      obtain ⟨F, hF⟩ : ∃ S : ByteArray, (⟨f.1.toArray⟩ : ByteArray) = S := ⟨_, rfl⟩
      rw [hF] at e0
      have HCL := Lib.hid (closure_z wr g (Nat.lt_of_lt_of_le hgl hbr.size) at_ f F hat (small_at r hr f hfm) ((hbr.cell (p := ⟨g, 0, none⟩) hgl).trans hg))
      have htk : r.2.2.2.take (k + 1) = r.2.2.2.take k ++ [f] := by rw [List.take_add_one, hf]; rfl
      by_cases hin : inF f at_ = true
      · have hfr : freeAt r.2.2.2 at_ = true := List.any_eq_true.2 ⟨f, hfm, hin⟩
        have HFR := Lib.hid hfr
        rw [hin] at HCL
        clear hc hf hfm htk hF hin hfr
        go_wp2_with fail
        refine HCL.out.mono ?_
        rintro e w1 ⟨rfl, hb1⟩
        have hbr2 : Below w.heap.size w w1 := hbr.trans (hb1.mono hbr.size)
        go_wp2_with fail
        go_ret
        exact ⟨_, rfl, by rw [HFR.out]; simp, hbr2⟩
      · have hin : inF f at_ = false := by simpa using hin
        have hfr : freeAt (r.2.2.2.take (k + 1)) at_ = false := by
          have h1 := HNO.out
          unfold freeAt at h1 ⊢
          rw [htk, List.any_append, h1]
          simp [hin]
        have HFR := Lib.hid hfr
        rw [hin] at HCL
        clear hc hf hfm htk hF hin hfr
        go_wp2_with fail
        refine HCL.out.mono ?_
        rintro e w1 ⟨rfl, hb1⟩
        have hbr2 : Below w.heap.size w w1 := hbr.trans (hb1.mono hbr.size)
        go_wp2_with fail
        go_roundw
        case rel => exact ⟨k + 1, by omega, by go_num, HFR.out, hbr2⟩
        case measure => simp [intOf]; omega
    · have hfr : freeAt r.2.2.2 at_ = false := by
        have h1 := HNO.out
        rw [List.take_of_length_le (by omega)] at h1
        exact h1
      have HFR := Lib.hid hfr
      clear hfr
      go_wp2_with fail
      go_ret
      exact ⟨_, rfl, by rw [HFR.out]; simp, hbr⟩
theorem containsf_z (r : HeadR) (hr : r ∈ headT) (lb N cap g at_ : Nat) (w : World) (hN : r.2.2.2.length = N) (hcap : N ≤ cap ∧ cap ≤ maxLen) (hlb : lb < w.heap.size) (hgl : g < w.heap.size) (hat : at_ < 1000)
    (hlc : ∀ j u, (fCells r.2.2.2)[j]? = some u → w.cell? ⟨lb, j, none⟩ = some u) (hg : w.cell? ⟨g, 0, none⟩ = some (.int .i64 at_)) (b : Bool) (hb : freeAt r.2.2.2 at_ = b) :
    Calls Tryd.prog 12 #[.slice (some ⟨lb, 0, none⟩) N cap, .func (.func 13) #[] #[.pointer (some ⟨g, 0, none⟩)]] w fun e w' =>
    e = .returned (.bool b) ∧ Below w.heap.size w w' := by
  have HI := indexf_z r hr lb N cap g at_ w hN hcap hlb hgl hat hlc hg
  clear hlc hg
  go_enter Tryd.func12, Tryd.ntmps12
  go_wp2_with fail
  refine HI.mono ?_
  rintro e w1 ⟨i, rfl, hi, hb1⟩
  rw [hb] at hi
  go_wp2_with fail
  go_ret
  exact ⟨by simp, hb1⟩
set_option maxRecDepth 20000 in
set_option maxHeartbeats 2000000 in
theorem zerosHead (op at_ c : Int) (w : World) (h0 : -9223372036854775808 ≤ op ∧ op ≤ 9223372036854775807) (ha : -9223372036854775808 ≤ at_ ∧ at_ ≤ 9223372036854775807) (hc : 0 ≤ c ∧ c ≤ 255) (T : Tabs w) (hS : w.ShapedOpen Tryd.prog) :
    Calls Tryd.prog 3 #[.int .i64 op, .int .i64 at_, .int .u8 c] w fun e w' => e = .returned (.bool true) ∧ Below w.heap.size w w' := by
  have hb0 : Below w.heap.size w (w.alloc (.cells #[.int .i64 at_] 3)) := (Below.refl _ _).alloc (Nat.le_refl _) _
  have hB0 := Blk.new w 3 #[.int .i64 at_]
  obtain ⟨g, hg⟩ : ∃ g, w.heap.size = g := ⟨_, rfl⟩
  rw [hg] at hB0
  go_enter Tryd.func3, Tryd.ntmps3
  go_wp2_with fail
  obtain ⟨w0, hw0⟩ : ∃ w0 : World, w.alloc (.cells #[.int .i64 at_] 3) = w0 := ⟨_, rfl⟩
  rw [hw0] at hb0 hB0 ⊢
  clear hw0
  refine (headed_fact _ (T.on hb0) (shaped_ons hS hb0)).mono ?_
  rintro e w1 ⟨rfl, hb1⟩
  have hbw1 := below_step hb0 hb1
  have hB1 := hB0.below hb1 hB0.lt
  go_wp2_with fail
  refine (fields_any op _ h0 (T.on hbw1) (shaped_ons hS hbw1)).mono ?_
  rintro e w2 ⟨hfi, hb2⟩
  have hbw2 := below_step hbw1 hb2
  have hB2 := hB1.below hb2 hB1.lt
  have hl1 := hB1.lt
  rcases hr : headRow op with _ | r
  · rw [hr] at hfi
    obtain rfl : e = _ := hfi
    rw [show errv 1 = .iface 59 (.int .i64 1) from rfl]
    clear hr
    go_wp2_with fail
    go_ret
    exact ⟨rfl, hbw2⟩
  · have hrm := headRow_mem hr
    have hop := headRow_op hr
    have hpos := headT_pos r hrm
    have hsm := headT_small r hrm
    rw [hr] at hfi
    obtain ⟨lv, rfl, hrow⟩ := hfi
    obtain ⟨N, hN⟩ : ∃ N, r.2.2.2.length = N := ⟨_, rfl⟩
    rw [hN] at hpos
    obtain ⟨lb, lcap, rfl, hlbg, hlc, hlm⟩ : ∃ lb lcap, lv = .slice (some ⟨lb, 0, none⟩) N lcap ∧ w1.heap.size ≤ lb ∧ N ≤ lcap ∧ lcap ≤ maxLen := by
      rcases hrow.2 with ⟨_, h⟩ | ⟨lb, lcap, cur, h1, h2, h3, h4, h5, _⟩
      · omega
      · exact ⟨lb, lcap, by rw [h1, hN], h2, by omega, h5⟩
    have hlcell : ∀ j u, (fCells r.2.2.2)[j]? = some u → w2.cell? ⟨lb, j, none⟩ = some u := by
      have hrow' := hrow
      unfold FRow at hrow'
      rw [hN] at hrow'
      exact fun j u hu => hrow'.cellAt j u hu
    have HLC := Lib.hid hlcell
    have HLM := Lib.hid (And.intro hlc hlm)
    have hlb2 : lb < w2.heap.size := (MRow.lt hrow lb rfl).2
    obtain ⟨A, hA⟩ : ∃ A, pickI at_ 48 = A := ⟨_, rfl⟩
    have hpa := pick_rng at_ 48 (by omega)
    rw [hA] at hpa
    obtain ⟨a, rfl⟩ := Int.eq_ofNat_of_zero_le hpa.1
    obtain ⟨d, rfl⟩ : ∃ d : UInt8, c = d.toNat := ⟨UInt8.ofNat c.toNat, by simp; omega⟩
    have HA := Lib.hid hA
    have HR := Lib.hid hr
    have HOP := Lib.hid hop
    have hh0 : rightR op false 0 (zerosL r) = none := by rw [right_zero op 0 r HR.out, offM_nil]; rfl
    have HH0 := Lib.hid hh0
    clear hr hlcell hrow hA hop hh0
    go_wp2_with fail
    refine (make_zero op 0 r HR.out (by rw [offM_nil]; rfl) _ h0 (by decide) (T.on hbw2) (shaped_ons hS hbw2)).mono ?_
    rintro e w3 ⟨v, rfl, hv, hb3⟩
    have hbw3 := below_step hbw2 hb3
    obtain ⟨VA, vcap, rfl⟩ : ∃ A cap, v = .slice A (zerosL r).length cap := by obtain ⟨_, A, cap, hv, _⟩ := hv; exact ⟨A, cap, hv⟩
    have hb3h : Below w3.heap.size w3 (w3.alloc (.cells #[.int .i64 op, .bool false, .int .i64 0, .slice VA (zerosL r).length vcap] 30)) := (Below.refl _ _).alloc (Nat.le_refl _) _
    go_wp2_with fail
    obtain ⟨wh, hwh⟩ : ∃ wh : World, w3.alloc (.cells #[.int .i64 op, .bool false, .int .i64 0, .slice VA (zerosL r).length vcap] 30) = wh := ⟨_, rfl⟩
    rw [hwh] at hb3h ⊢
    have hbwh := below_step hbw3 hb3h
    have hvh := hv.on hb3h
    refine (write_ok op false 0 (zerosL r) _ 0 0 r _ h0 (by decide) hvh (fun x hx => by rw [(List.mem_replicate.1 hx).2]; decide) (T.on hbwh) (shaped_ons hS hbwh) HR.out HH0.out (by decide) (by decide)).mono ?_
    rintro e w4 ⟨rfl, hb4⟩
    have hbw4 := below_step hbwh hb4
    rw [show layAll (headB r.1 false 0 0 0) r.2.2.2 (zerosL r) = headB r.1 false 0 0 0 from zero_lay r hrm]
    obtain ⟨S, hS'⟩ : ∃ S : ByteArray, (⟨(headB r.1 false 0 0 0).toArray⟩ : ByteArray) = S := ⟨_, rfl⟩
    have hSz : S.size = 48 := by rw [← hS', size_mkl]; rfl
    have HS := Lib.hid hS'
    rw [hS']
    have hb24 : Below w2.heap.size w2 w4 := below_step (below_step hb3 hb3h) hb4
    have hB4 := hB2.below hb24 hB2.lt
    have hg4 := hB4.lt
    have c0 := hB4.cell 0
    have k0 := hB4.frozen 0
    have hpt := hB4.put 0 (.int .i64 a)
    have hlb4 : lb < w4.heap.size := Nat.lt_of_lt_of_le hlb2 hb24.size
    clear hS' hwh
    go_wp2_with fail
    refine (pick_any _ _ _ (by omega) (by omega)).mono ?_
    rintro e w' ⟨rfl, rfl⟩
    rw [HA.out]
    obtain ⟨w5, hw5⟩ : ∃ w5 : World, w4.setCell ⟨g, 0, none⟩ (.int .i64 (a : Int)) = w5 := ⟨_, rfl⟩
    have hbw5 : Below w.heap.size w w5 := by rw [← hw5]; exact hbw4.setCell (by rw [hg]; exact Nat.le_refl _) _
    have hs5 : w4.heap.size = w5.heap.size := by rw [← hw5]; simp [World.setCell]
    have hlc5 : ∀ j u, (fCells r.2.2.2)[j]? = some u → w5.cell? ⟨lb, j, none⟩ = some u := by
      intro j u hu
      rw [← hw5]
      exact ((Step.setCell g 0 w4 (.int .i64 (a : Int))).cell (p := ⟨lb, j, none⟩) (by show lb ≠ g; omega) ((hb24.cell (p := ⟨lb, j, none⟩) hlb2).trans (HLC.out j u hu)))
    rw [hw5] at hpt
    have hpt : Blk w5 g 3 #[.int .i64 a] := hpt
    have HLC5 := Lib.hid hlc5
    have hk5 := hpt.cell 0
    by_cases ha2 : (a : Int) < 2
    · go_wp2_with fail
      go_ret
      try rw [hw5]
      exact ⟨rfl, hbw5⟩
    obtain ⟨cap, C, fr, hconv, hBR, hbW⟩ := bytes_brow w5 S (by unfold maxLen; omega)
    rw [hSz] at hBR hconv
    have hgl5 := hpt.lt
    have k6 : (w5.alloc (.cells C 5 fr)).drew.cell? ⟨g, 0, none⟩ = some (.int .i64 a) := (hbW.cell (p := ⟨g, 0, none⟩) hgl5).trans hk5
    have hSl : S.data.toList.length = 48 := by rw [len_of, hSz]
    obtain ⟨c0, hc0⟩ : ∃ c0, S.data.toList[a]? = some c0 := ⟨_, List.getElem?_eq_getElem (by omega)⟩
    unfold BRow at hBR
    rw [hSl] at hBR
    have k7 : (w5.alloc (.cells C 5 fr)).drew.cell? ⟨w5.heap.size, a, none⟩ = some (byteV c0) := hBR.cellAt a _ (by rw [List.getElem?_map, hc0]; rfl)
    have k8 := hBR.frozenAt a (by omega)
    obtain ⟨W6, hW6⟩ : ∃ W6 : World, (w5.alloc (.cells C 5 fr)).drew.setCell ⟨w5.heap.size, a, none⟩ (.int .u8 d.toNat) = W6 := ⟨_, rfl⟩
    have hst : BRow W6 w5.heap.size (.slice (some ⟨w5.heap.size, 0, none⟩) 48 cap) (S.data.toList.set a d) := by
      have := hBR.stored a (byteV d)
      rw [← hW6]
      unfold BRow
      rw [List.length_set, List.map_set, hSl]
      exact this
    have hstr := hst.string
    have hcapb : 48 ≤ cap ∧ cap ≤ maxLen := by
      obtain ⟨A9, c9, h9, h10, h11, _⟩ := MRow.form hBR
      injection h9 with _ _ h9
      subst h9
      exact ⟨h10, h11⟩
    unfold maxLen at hcapb
    have hb6 : Below w.heap.size w W6 := by
      rw [← hW6]
      exact (hbw5.trans (hbW.mono hbw5.size)).setCell hbw5.size _
    have hgne : g ≠ w5.heap.size := by omega
    have k9 : W6.cell? ⟨g, 0, none⟩ = some (.int .i64 a) := by
      rw [← hW6]
      exact ((Step.setCell w5.heap.size a _ _).cell (p := ⟨g, 0, none⟩) hgne k6)
    obtain ⟨S2, hS2⟩ : ∃ S2 : ByteArray, (⟨(S.data.toList.set a d).toArray⟩ : ByteArray) = S2 := ⟨_, rfl⟩
    rw [hS2] at hstr
    have HS2 := Lib.hid hS2
    have HC0 := Lib.hid hc0
    have hlc6 : ∀ j u, (fCells r.2.2.2)[j]? = some u → W6.cell? ⟨lb, j, none⟩ = some u := by
      intro j u hu
      rw [← hW6]
      exact ((Step.setCell w5.heap.size a _ _).cell (p := ⟨lb, j, none⟩) (by show lb ≠ w5.heap.size; omega) ((hbW.cell (p := ⟨lb, j, none⟩) (by show lb < w5.heap.size; omega)).trans (HLC5.out j u hu)))
    have HLC6 := Lib.hid hlc6
    have hs6 : w5.heap.size ≤ W6.heap.size := by
      rw [← hW6]
      exact Nat.le_trans hbW.size (Step.setCell w5.heap.size a _ _).size
    have hSl2 : S.data.toList = headB r.1 false 0 0 0 := by rw [← HS.out]
    have hS2l : S2.data.toList = (headB r.1 false 0 0 0).set a d := by rw [← HS2.out, ← hSl2]
    have hS2z : S2.size = 48 := by rw [← len_of, hS2l, List.length_set]; rfl
    have hz := zero_turned r hrm (by rw [HOP.out]; exact HR.out) a d (by omega) (by omega)
    rw [← hS2l] at hz
    clear hlc5 hb24 hlb2 hc0 hS2 hlc6 hbW hBR hst hSl2 hS2l
    go_wp2_with fail
    refine (read_any S2 _ (by omega) (T.on hb6) (shaped_ons hS hb6)).mono ?_
    rintro e w7 ⟨⟨hv, wd, dt, er, rfl, her, hbad, hok⟩, hb7⟩
    have hbw7 := below_step hb6 hb7
    have hg6 : g < W6.heap.size := by omega
    have k10 := (hb7.cell (p := ⟨g, 0, none⟩) hg6).trans k9
    have hlc7 : ∀ j u, (fCells r.2.2.2)[j]? = some u → w7.cell? ⟨lb, j, none⟩ = some u := fun j u hu => (hb7.cell (p := ⟨lb, j, none⟩) (by show lb < _; omega)).trans (HLC6.out j u hu)
    have hlb7 : lb < w7.heap.size := by have := hb7.size; omega
    have hg7 : g < w7.heap.size := by have := hb7.size; omega
    have HCF := Lib.hid (fun (w8 : World) (h8 : Below w7.heap.size w7 w8) b hb => containsf_z r hrm lb N lcap g a w8 hN HLM.out (Nat.lt_of_lt_of_le hlb7 h8.size) (Nat.lt_of_lt_of_le hg7 h8.size) (by omega) (fun j u hu => (h8.cell (p := ⟨lb, j, none⟩) hlb7).trans (hlc7 j u hu)) ((h8.cell (p := ⟨g, 0, none⟩) hg7).trans k10) b hb)
    have HZ := Lib.hid hz
    clear hz hlc7
    rcases hre : readE S2.data.toList with _ | E
    · rw [hre] at her
      obtain rfl : er = .nilIface := her
      have hz := HZ.out.1 hre
      obtain ⟨r', v', _, rfl, hv', rfl, rfl⟩ := hok hre
      obtain ⟨A7, cap7, rfl⟩ : ∃ A cap, v' = .slice A (readV r'.2.2.2 S2.data.toList).length cap := by obtain ⟨_, A, cap, hv, _⟩ := hv'; exact ⟨A, cap, hv⟩
      obtain ⟨N7, hN7⟩ : ∃ N7, (readV r'.2.2.2 S2.data.toList).length = N7 := ⟨_, rfl⟩
      rw [hN7]
      clear hok hbad hb7 hv' hre hN7
      have hd0 : d.toNat = 0 ↔ d = 0 := by
        rw [← UInt8.toNat_inj]
        rfl
      rcases hfv : freeAt r.2.2.2 a with _ | _
      all_goals by_cases hdz : d.toNat = 0
      all_goals by_cases h48 : 4 ≤ a ∧ a < 8
      all_goals try (exfalso; rw [← hd0, hfv] at hz; rcases hz with h | h | h; exact h48 h; cases h; exact hdz h)
      all_goals
        try clear hz hd0
        go_wp2_with (go_at_call 12; refine (HCF.out _ ((Below.refl _ _).alloc (Nat.le_refl _) _) _ hfv).mono ?_; rintro e w9 ⟨rfl, hb9⟩)
        all_goals
          go_ret
          refine ⟨by simp; try omega, ?_⟩
          try rw [← hg]
          first
            | exact below_step (below_step hbw7 ((Below.refl _ _).alloc (Nat.le_refl _) _)) hb9
            | exact below_step hbw7 ((Below.refl _ _).alloc (Nat.le_refl _) _)
    · rw [hre] at her
      obtain ⟨et, ex, rfl⟩ := her.value
      have hz : ¬ ((4 ≤ a ∧ a < 8) ∨ freeAt r.2.2.2 a = true ∨ d = 0) := fun h => by rw [HZ.out.2 h] at hre; cases hre
      obtain ⟨rfl, rfl, rfl⟩ := hbad (by rw [hre]; simp)
      unfold zeroH
      clear hok hbad hb7 hre
      have hd0 : d.toNat = 0 ↔ d = 0 := by
        rw [← UInt8.toNat_inj]
        rfl
      rcases hfv : freeAt r.2.2.2 a with _ | _
      all_goals by_cases hdz : d.toNat = 0
      all_goals by_cases h48 : 4 ≤ a ∧ a < 8
      all_goals try (exfalso; first | exact hz (.inl h48) | exact hz (.inr (.inl hfv)) | exact hz (.inr (.inr (hd0.1 hdz))); done)
      all_goals
        try clear hz hd0
        go_wp2_with (go_at_call 12; refine (HCF.out _ ((Below.refl _ _).alloc (Nat.le_refl _) _) _ hfv).mono ?_; rintro e w9 ⟨rfl, hb9⟩)
        all_goals
          go_ret
          refine ⟨by simp; try omega, ?_⟩
          try rw [← hg]
          first
            | exact below_step (below_step hbw7 ((Below.refl _ _).alloc (Nat.le_refl _) _)) hb9
            | exact below_step hbw7 ((Below.refl _ _).alloc (Nat.le_refl _) _)
end Go.Proofs.YtdllecgjeiepfaaDoor
