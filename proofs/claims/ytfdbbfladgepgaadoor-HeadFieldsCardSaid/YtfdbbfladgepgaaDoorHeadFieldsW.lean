/- The walk of the law HeadFields. -/
import Derived.Test.YtfdbbfladgepgaaDoorHeadSame
import Derived.Test.YtfdbbfladgepgaaDoorHeadLaid
import Derived.Test.YtfdbbfladgepgaaDoorHeadFieldsP
namespace Go.Proofs.YtfdbbfladgepgaaDoor
open Go.ChangeShapes Go.WideShapes Go.ChangeAt Go.RowKit Go.Shelf
set_option linter.unusedVariables false
theorem hname_none (op : Int) (h : headRow op = none) (w : World) (h0 : -9223372036854775808 ≤ op ∧ op ≤ 9223372036854775807) (T : Tabs w) : Calls Tryd.prog 6 #[.int .i64 op] w fun e w' => e = .returned (.tuple #[.string ⟨#[]⟩, .iface 45 (.int .i64 1)]) ∧ Below w.heap.size w w' := by
  have := name_any op w h0 T
  rw [h] at this
  exact this
theorem hname_some (op : Int) (r : HeadR) (S : ByteArray) (hS : S = ⟨r.2.1.toArray⟩) (h : headRow op = some r) (w : World) (h0 : -9223372036854775808 ≤ op ∧ op ≤ 9223372036854775807) (T : Tabs w) : Calls Tryd.prog 6 #[.int .i64 op] w fun e w' => e = .returned (.tuple #[.string S, .nilIface]) ∧ Below w.heap.size w w' := by
  have := name_any op w h0 T
  rw [h] at this
  rw [hS]
  exact this
theorem fname_len : ∀ r ∈ headT, ∀ f ∈ r.2.2.2, f.1.length ≤ 100 := by decide +kernel
theorem row_op {op : Int} {r : HeadR} (h : headRow op = some r) : (r.1 : Int) = op := by
  unfold headRow at h
  simpa using List.find?_some h
theorem grownH {a b : World} (row : Option Nat) (h : Below a.heap.size a b) : a.grownBy b row := ⟨h.os, h.tape, h.output, h.size, fun i hi _ => h.block i hi⟩
set_option maxRecDepth 20000 in
set_option maxHeartbeats 8000000 in
theorem fieldsHead (op : Int) (w : World) (h0 : -9223372036854775808 ≤ op ∧ op ≤ 9223372036854775807) (T : Tabs w) (hS : w.ShapedOpen Tryd.prog) :
    Calls Tryd.prog 3 #[.int .i64 op] w fun e w' => e = .returned (.bool true) ∧ Below w.heap.size w w' := by
  have hmm := @run_makeMap Tryd.prog
  have ub : (Tryd.prog).underlying 4 = some .bool := by kernel_rfl
  have us : (Tryd.prog).underlying 9 = some .string := by kernel_rfl
  have ui : (Tryd.prog).underlying 3 = some (.int .i64) := by kernel_rfl
  have um : (Tryd.prog).underlying 31 = some (.map 9 4) := by kernel_rfl
  have un : (Tryd.prog).underlying 30 = some (.map 3 4) := by kernel_rfl
  have e1 : errv 1 = .iface 45 (.int .i64 1) := rfl
  go_enter Tryd.func3, Tryd.ntmps3
  go_wp2_with fail
  refine (headed_fact _ T hS).mono ?_
  rintro e w1 ⟨rfl, hb1⟩
  have T1 := T.on hb1
  have S1 := shaped_ons hS hb1
  rcases hr : headRow op with _ | r
  · have HR := Lib.hid hr
    clear hr
    have hfi := fields_any op w1 h0 T1 S1
    rw [HR.out] at hfi
    go_wp2_with fail
    refine hfi.mono ?_
    rintro e w2 ⟨he, hb2⟩
    have he : e = .returned (.tuple #[.slice none 0 0, errv 1]) := he
    rw [e1] at he
    subst he
    have hb2w := below_step hb1 hb2
    go_wp2_with fail
    refine (hname_none op HR.out _ h0 (T.on hb2w)).mono ?_
    rintro e w3 ⟨rfl, hb3⟩
    go_wp2_with fail
    go_ret
    exact ⟨rfl, below_step hb2w hb3⟩
  have hrm := headRow_mem hr
  obtain ⟨hn1, hfr, hitt, h64, hl20⟩ := fields_rng r hrm
  have hsp := spans_nodup r hrm
  have hnn := fnames_nodup r hrm
  have hop := row_op hr
  have hfi := fields_any op w1 h0 T1 S1
  rw [hr] at hfi
  obtain ⟨NM, hNM⟩ : ∃ NM : ByteArray, NM = ⟨r.2.1.toArray⟩ := ⟨_, rfl⟩
  have hNl : NM.data.toList = r.2.1 := by rw [hNM]
  have f1 : ¬ NM.toList = [] := by rw [toList_of, hNl]; exact hn1
  have f2 : NM.toList.isEmpty = false := by
    rcases hl : NM.toList with _ | ⟨y, l⟩
    · exact absurd hl f1
    · rfl
  obtain ⟨fs, hfs⟩ : ∃ fs, r.2.2.2 = fs := ⟨_, rfl⟩
  rw [hfs] at hfr hitt hl20 hsp hnn
  obtain ⟨N, hN⟩ : ∃ N, fs.length = N := ⟨_, rfl⟩
  have hnm := fun (W : World) (TT : Tabs W) => hname_some op r NM hNM hr W h0 TT
  have HNM := Lib.hid hnm
  have HFI := Lib.hid hfi
  have HFR := Lib.hid hfr
  have hfz := fname_len r hrm
  rw [hfs] at hfz
  have HFZ := Lib.hid hfz
  clear hfz
  have HITT := Lib.hid hitt
  have HSP := Lib.hid hsp
  have HNN := Lib.hid hnn
  have HFS := Lib.hid hfs
  have HN := Lib.hid hN
  have hop0 : (0 : Int) ≤ op := by omega
  have hop64 : op < 64 := by omega
  rw [hN] at hl20
  clear hr hn1 hfr hitt hsp hnn hfi hnm hNM hNl hfs hN h64 hop
  go_wp2_with fail
  refine HFI.out.mono ?_
  rintro e w2 ⟨⟨lv, rfl, hrow⟩, hb2⟩
  rw [HFS.out] at hrow
  have hb2w := below_step hb1 hb2
  have hrow' : MRow w2 w1.heap.size 33 3 lv fs.length (fCells fs) := hrow
  obtain ⟨A2, cap2, rfl, hrc1, hrc2, _⟩ := hrow'.form
  have hrd := SRd.of_m hrow'
  rw [HN.out] at hrc1 ⊢
  have HRD := Lib.hid hrd
  unfold maxLen at hrc2
  clear hrow hrow' hrd
  go_wp2_with fail
  refine (HNM.out _ (T.on hb2w)).mono ?_
  rintro e w3 ⟨rfl, hb3⟩
  have hb3w := below_step hb2w hb3
  have hrd3 := HRD.out.on hb3
  have HRD3 := Lib.hid hrd3
  have o0 := World.ownsMap_made (H := Unit) w3 Tryd.prog 3 (plainElem Tryd.prog 4)
  obtain ⟨m1, hm1⟩ : ∃ m, w3.heap.size = m := ⟨_, rfl⟩
  rw [hm1] at o0
  have hbm : Below w3.heap.size w3 (w3.alloc (.map #[] 0)) := (Below.refl _ _).alloc (Nat.le_refl _) _
  have ikey := fun (x : Int) (h0 : 0 ≤ x) (h1 : x ≤ 1000) => int_key (P := Tryd.prog) ui x h0 h1
  obtain ⟨Wa, ra, oa, ga⟩ := o0.update (Maps.int_keyed ui) un (by unfold maxLen; omega) (ikey 0 (by omega) (by omega)) (plainElem_bool ub true)
  obtain ⟨Wb, rb, ob, gb⟩ := oa.update (Maps.int_keyed ui) un (by unfold maxLen; omega) (ikey 1 (by omega) (by omega)) (plainElem_bool ub true)
  obtain ⟨Wc, rc, oc, gc⟩ := ob.update (Maps.int_keyed ui) un (by unfold maxLen; omega) (ikey 4 (by omega) (by omega)) (plainElem_bool ub true)
  obtain ⟨Wd, rd, od, gd⟩ := oc.update (Maps.int_keyed ui) un (by unfold maxLen; omega) (ikey 5 (by omega) (by omega)) (plainElem_bool ub true)
  obtain ⟨We, re, oe, ge⟩ := od.update (Maps.int_keyed ui) un (by unfold maxLen; omega) (ikey 6 (by omega) (by omega)) (plainElem_bool ub true)
  obtain ⟨Wf, rf, of, gf⟩ := oe.update (Maps.int_keyed ui) un (by unfold maxLen; omega) (ikey 7 (by omega) (by omega)) (plainElem_bool ub true)
  have hseen6 := (((((SeenI.nil.put o0.isMap 0).put oa.isMap 1).put ob.isMap 4).put oc.isMap 5).put od.isMap 6).put oe.isMap 7
  have hbf : Below w3.heap.size w3 Wf := by
    have hr : ∀ k, some m1 = some k → w3.heap.size ≤ k := fun k hk => by injection hk with hk; omega
    have z0 := hbm.size
    have b1 := hbm.grown ga z0 hr
    have b2 := b1.grown gb b1.size hr
    have b3 := b2.grown gc b2.size hr
    have b4 := b3.grown gd b3.size hr
    have b5 := b4.grown ge b4.size hr
    exact b5.grown gf b5.size hr
  have o2 := World.ownsMap_made (H := Unit) Wf Tryd.prog 9 (plainElem Tryd.prog 4)
  have hbg : Below w3.heap.size w3 (Wf.alloc (.map #[] 0)) := hbf.alloc hbf.size _
  have of2 := of.alloc (.map #[] 0)
  obtain ⟨m2, hm2⟩ : ∃ m, Wf.heap.size = m := ⟨_, rfl⟩
  have hm12 : m1 ≠ m2 := by have := of.lt; omega
  have hm21 : m2 ≠ m1 := fun e => hm12 e.symm
  have hm1w : w3.heap.size ≤ m1 := by omega
  have hm2w : w3.heap.size ≤ m2 := by have := hbf.size; omega
  obtain ⟨Wg, hWg⟩ : ∃ W : World, Wf.alloc (.map #[] 0) = W := ⟨_, rfl⟩
  rw [hWg] at o2 hbg of2
  rw [hm2] at o2
  clear oa ob oc od oe ga gb gc gd ge gf o0 hrd3 hbm of hbf
  have HS6 : Hid (SeenI _ (spansF (fs.take 0))) := Lib.hid hseen6
  clear hseen6
  go_wp2_with fail
  go_loopw [42] (fun i wr => ∃ (k c : Nat) (D1 D2 : DataW Unit), k ≤ N ∧ i = .int .i64 k ∧ c ≤ 6 + 8 * k ∧ wr.ownsMap Tryd.prog 3 (plainElem Tryd.prog 4) m1 c D1 ∧ Hid (SeenI D1 (spansF (fs.take k))) ∧ wr.ownsMap Tryd.prog 9 (plainElem Tryd.prog 4) m2 k D2 ∧ Hid (SeenS D2 ((fs.take k).map (·.1))) ∧ Below w3.heap.size w3 wr) (fun i _ => N - (intOf i).toNat)
  case atStart => exact ⟨0, 6, _, _, Nat.zero_le _, rfl, by omega, of2, HS6, o2, Lib.hid SeenS.nil, hbg⟩
  case round =>
    clear of2 o2 hbg HS6 ra rb rc rd re rf hWg hm2 hm1
    obtain ⟨k, c, D1, D2, hk, rfl, hc, ho1, hs1, ho2, hs2, hbr⟩ := hrel
    have hbrw := below_step hb3w hbr
    by_cases hlt : k < N
    · obtain ⟨f, hf⟩ : ∃ f, fs[k]? = some f := ⟨_, List.getElem?_eq_getElem (by rw [HN.out]; exact hlt)⟩
      obtain ⟨g1, g2, g3, g4, g5⟩ := HFR.out f (List.mem_of_getElem? hf)
      have hnn := name_new HNN.out hf
      have hspn := fun (j : Nat) (hj : j < f.2.2) => span_new HSP.out hf hj
      have hsuc := spansF_succ hf
      have htk : (fs.take (k + 1)).map (·.1) = (fs.take k).map (·.1) ++ [f.1] := by rw [List.take_add_one, hf]; simp
      obtain ⟨x0, x1, x2⟩ := fCells_at _ _ _ hf
      obtain ⟨_, A', cap', hvv, _, _, h4⟩ := HRD3.out.on hbr
      injection hvv with e1' e2' e3'
      obtain ⟨lb, lo, hA, hlb, hcc⟩ := h4 (by rw [HN.out]; omega)
      subst e1'
      subst hA
      obtain ⟨F, hF⟩ : ∃ F : ByteArray, (⟨f.1.toArray⟩ : ByteArray) = F := ⟨_, rfl⟩
      have hFl : F.data.toList = f.1 := by rw [← hF]
      rw [hF] at x0
      have c0 := hcc _ _ x0
      have c1 := hcc _ _ x1
      have c2 := hcc _ _ x2
      rw [show lo + 3 * k = lo + k * 3 by omega] at c0
      rw [show lo + (3 * k + 1) = lo + k * 3 + 1 by omega] at c1
      rw [show lo + (3 * k + 2) = lo + k * 3 + 2 by omega] at c2
      obtain ⟨fn, fa, fz⟩ := f
      simp only at g1 g2 g3 g4 g5 hFl c0 c1 c2 hnn hspn hsuc htk
      have n1 : ¬ F.toList = [] := by rw [toList_of, hFl]; exact g3
      have n2 : F.toList.isEmpty = false := by
        rcases hl : F.toList with _ | ⟨y, l⟩
        · exact absurd hl n1
        · rfl
      have hFz : F.size ≤ 9223372036854775807 := by
        have := HFZ.out _ (List.mem_of_getElem? hf)
        rw [← len_of, hFl]
        simp only at this
        omega
      have HNNK := Lib.hid hnn
      have HSPN := Lib.hid hspn
      have HSUC := Lib.hid hsuc
      have HTK := Lib.hid htk
      have HFL := Lib.hid hFl
      have hba : Below wr.heap.size wr (wr.alloc (.cells #[.string F, .int .i64 fa, .int .i64 fz] 33)) := (Below.refl _ _).alloc (Nat.le_refl _) _
      have hBa := Blk.new wr 33 #[.string F, .int .i64 fa, .int .i64 fz]
      obtain ⟨z, hz⟩ : ∃ z, wr.heap.size = z := ⟨_, rfl⟩
      have hzm1 : z ≠ m1 := by have := ho1.lt; omega
      have hzm2 : z ≠ m2 := by have := ho2.lt; omega
      rw [hz] at hBa
      have hb3a := below_step hbr hba
      have oa1 := ho1.alloc (.cells #[.string F, .int .i64 fa, .int .i64 fz] 33)
      have oa2 := ho2.alloc (.cells #[.string F, .int .i64 fa, .int .i64 fz] 33)
      obtain ⟨wa, hwa⟩ : ∃ wa : World, wr.alloc (.cells #[.string F, .int .i64 fa, .int .i64 fz] 33) = wa := ⟨_, rfl⟩
      rw [hwa] at hba hBa hb3a oa1 oa2
      have z0 := hBa.cell 0
      have z1 := hBa.cell 1
      have z2 := hBa.cell 2
      have hkey : keyOf Tryd.prog 9 (.string F) = some (.string F.data.toList) := WideMaps.keyOf_string_mk us (by unfold maxLen; omega)
      obtain ⟨cc, hrun, hat⟩ := lookup_bool oa2 (Maps.string_keyed us) um ub (by go_simp) hkey
      rw [HFL.out, hs2.out] at hat
      have hcx : cc = decide (fn ∈ (fs.take k).map (·.1)) := by injection hat with h; injection h with h; exact h.symm
      obtain rfl : cc = false := by rw [hcx]; exact decide_eq_false HNNK.out
      obtain ⟨W2, r2, ob2, g2'⟩ := oa2.update (Maps.string_keyed us) um (by unfold maxLen; omega) hkey (plainElem_bool ub true)
      have hs2' : Hid (SeenS (D2.put (.string F.data.toList) (.lit (.bool true))) ((fs.take (k + 1)).map (·.1))) := Lib.hid (by
        rw [HTK.out, HFL.out]
        exact hs2.out.put oa2.isMap _)
      have hB2 := hBa.grown g2' (by intro h; injection h with h; exact hzm2 h)
      have ob1 := oa1.kept g2' (by intro h; injection h with h; exact hm12 h)
      have hb32 : Below w3.heap.size w3 W2 := hb3a.grown g2' hb3a.size (by rintro j h; injection h with h; omega)
      have hfzI : (1 : Int) ≤ fz := by omega
      have hfz8 : (fz : Int) ≤ 8 := by omega
      clear hf hnn hspn hsuc htk x0 x1 x2 hcc h4 e2' e3' hF hFl hat hcx ho1 ho2 g2' oa1 oa2 hBa
      have y1 := hB2.cell 1
      have y2 := hB2.cell 2
      go_wp2_with fail
      obtain ⟨wo, hwo⟩ : ∃ wo : World, wo = W2 := ⟨_, rfl⟩
      go_loopw [11] (fun s wr => ∃ (x c1 : Nat) (D : DataW Unit), fa ≤ x ∧ x ≤ fa + fz ∧ s = .int .i64 x ∧ c1 ≤ 6 + 8 * k + (x - fa) ∧ wr.ownsMap Tryd.prog 3 (plainElem Tryd.prog 4) m1 c1 D ∧ Hid (SeenI D (spansF (fs.take k) ++ spanK (fn, fa, fz) (x - fa))) ∧ wr.ownsMap Tryd.prog 9 (plainElem Tryd.prog 4) m2 (k + 1) (D2.put (.string F.data.toList) (.lit (.bool true))) ∧ Blk wr z 33 #[.string F, .int .i64 fa, .int .i64 fz] ∧ Below w3.heap.size w3 wr) (fun s _ => fa + fz - (intOf s).toNat)
      case atStart => exact ⟨fa, c, D1, Nat.le_refl _, by omega, rfl, by omega, ob1, Lib.hid (by rw [Nat.sub_self]; simpa [spanK] using hs1.out), ob2, hB2, hb32⟩
      case round =>
        clear ob1 ob2 hB2 hb32 y1 y2 hrun r2 z0 z1 z2 hwo
        obtain ⟨x, c1', D, hx0, hx1, rfl, hcc, ho, hsx, hom, hBz, hbx⟩ := hrel
        have y1 := hBz.cell 1
        have y2 := hBz.cell 2
        by_cases hxl : x < fa + fz
        · obtain ⟨j, rfl⟩ : ∃ j, x = fa + j := ⟨x - fa, by omega⟩
          rw [Nat.add_sub_cancel_left] at hsx hcc
          have hnew := HSPN.out j (by omega)
          obtain ⟨y, hy⟩ : ∃ y : Nat, fa + j = y := ⟨_, rfl⟩
          rw [hy] at hnew hxl
          have hk1 := int_key (P := Tryd.prog) (k := 3) ui (y : Int) (by omega) (by omega)
          obtain ⟨cc, hrun, hat⟩ := lookup_bool ho (Maps.int_keyed ui) un ub (by go_simp) hk1
          rw [hsx.out] at hat
          have hcx : cc = decide ((y : Int) ∈ spansF (fs.take k) ++ spanK (fn, fa, fz) j) := by injection hat with h; injection h with h; exact h.symm
          obtain rfl : cc = false := by rw [hcx]; exact decide_eq_false hnew
          obtain ⟨W3, r3, o3, g3'⟩ := ho.update (Maps.int_keyed ui) un (by unfold maxLen; omega) hk1 (plainElem_bool ub true)
          have hs3 : Hid (SeenI (D.put (.int .i64 (y : Int)) (.lit (.bool true))) (spansF (fs.take k) ++ spanK (fn, fa, fz) (j + 1))) := Lib.hid (by
            rw [spanK_succ, ← List.append_assoc]
            show SeenI _ (_ ++ [((fa + j : Nat) : Int)])
            rw [hy]
            exact hsx.out.put ho.isMap _)
          have hB3 := hBz.grown g3' (by intro h; injection h with h; exact hzm1 h)
          have om3 := hom.kept g3' (by intro h; injection h with h; exact hm21 h)
          have hb33 : Below w3.heap.size w3 W3 := hbx.grown g3' hbx.size (by rintro j h; injection h with h; omega)
          have hyI : (y : Int) < (fa : Int) + (fz : Int) := by omega
          have hy2 : (2 : Int) ≤ (y : Int) := by omega
          have hy48 : (y : Int) < 48 := by omega
          have HY := Lib.hid hy
          have hyj : y + 1 - fa = j + 1 := by omega
          have HYJ := Lib.hid hyj
          rw [hy]
          clear hat hcx hnew hsx ho hom hBz hbx g3' hy hyj
          go_wp2_with fail
          go_roundw
          case rel => exact ⟨y + 1, c1' + 1, _, by have := HY.out; omega, by omega, by go_num, by have := HY.out; omega, o3, by rw [HYJ.out]; exact hs3, om3, hB3, hb33⟩
          case measure => simp [intOf]; omega
        · obtain rfl : x = fa + fz := by omega
          rw [Nat.add_sub_cancel_left] at hsx hcc
          have hs4 : Hid (SeenI D (spansF (fs.take (k + 1)))) := Lib.hid (by rw [HSUC.out]; exact hsx.out)
          have hnl : ¬ ((fa + fz : Nat) : Int) < (fa : Int) + (fz : Int) := by omega
          obtain ⟨y, hy⟩ : ∃ y : Nat, fa + fz = y := ⟨_, rfl⟩
          rw [hy] at hnl ⊢
          clear hsx hBz hy hxl hx1 hx0
          go_wp2_with fail
          go_roundw
          case rel => exact ⟨k + 1, c1', _, _, by omega, by go_num, by omega, ho, hs4, hom, hs2', hbx⟩
          case measure => simp [intOf]; omega
    · obtain rfl : N = k := by omega
      have hkey : keyOf Tryd.prog 9 (.string ⟨#[73, 84, 84]⟩) = some (.string [73, 84, 84]) := WideMaps.keyOf_string_mk us (by decide)
      obtain ⟨cc, hrun, hat⟩ := lookup_bool ho2 (Maps.string_keyed us) um ub (by go_simp) hkey
      rw [hs2.out] at hat
      have hcx : cc = decide (([73, 84, 84] : List UInt8) ∈ (fs.take N).map (·.1)) := by injection hat with h; injection h with h; exact h.symm
      obtain rfl : cc = true := by
        rw [hcx]
        refine decide_eq_true ?_
        rw [List.take_of_length_le (by rw [HN.out]; exact Nat.le_refl _)]
        exact HITT.out
      clear hat hcx ho1 ho2
      go_wp2_with fail
      go_ret
      exact ⟨rfl, hbrw⟩
end Go.Proofs.YtfdbbfladgepgaaDoor
