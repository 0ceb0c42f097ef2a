/- The walk of NegoRecord. -/
import Derived.Test.YtadhlnpegigadaaGreatDoorNegoW6
namespace Go.Proofs.YtadhlnpegigadaaGreatDoor
open Go.ChangeShapes Go.WideShapes Go.ChangeAt Go.RowKit Go.Shelf
set_option linter.unusedVariables false
theorem RecOk.ansRc {own rc off : PairL} {login disc : Bool} (h : RecOk rc) : RecOk (ansRc own rc off login disc) := by
  unfold Go.Proofs.YtadhlnpegigadaaGreatDoor.ansRc
  rcases hE : ansE rc off login with _ | E
  · exact RecOk.all own login disc off rc h ((ansE_none _ _ _).1 hE).2.1
  · exact h
theorem rec_val {R : PairL} (h : RecOk R) {q : ByteArray × ByteArray} (hq : q ∈ R) : ba (ownL R q.1) = q.2 := by
  unfold ownL
  rw [findB_mem h.1 hq]
  exact ba_of _
theorem own_miss {R : PairL} {n : ByteArray} {r : KeyR} (hr : keyRow n.data.toList = some r) (h : n.data.toList ∉ R.map kB) : ba (ownL R n) = ba (dfl r) := by
  unfold ownL
  rw [findB_none.2 (fun q hq e => h (List.mem_map.2 ⟨q, hq, e⟩))]
  unfold dflOf
  rw [hr]
set_option maxRecDepth 20000 in
set_option maxHeartbeats 16000000 in
theorem recordNego (own : PairL) (vo : Value) (off : PairL) (vf : Value) (more : PairL) (vm : Value) (login disc : Bool) (w : World) (hv : SRd w vo 2 own.length (pairCells own)) (hd : ∀ p ∈ own, psmall p) (hv2 : SRd w vf 2 off.length (pairCells off)) (hd2 : ∀ p ∈ off, psmall p) (hv3 : SRd w vm 2 more.length (pairCells more)) (hd3 : ∀ p ∈ more, psmall p) (V : Env w) :
    Calls Tryz.prog 10 #[vo, vf, vm, .bool login, .bool disc] w fun e w' => e = .returned (.bool true) ∧ Below w.heap.size w w' := by
  have hmm := @run_makeMap Tryz.prog
  have ub : (Tryz.prog).underlying 4 = some .bool := by kernel_rfl
  have us : (Tryz.prog).underlying 9 = some .string := by kernel_rfl
  have um : (Tryz.prog).underlying 73 = some (.map 9 4) := by kernel_rfl
  have hlen : namesK.length = 18 := by decide +kernel
  have HLEN := Lib.hid hlen
  clear hlen
  go_enter Tryz.func10, Tryz.ntmps10
  go_wp2_with fail
  refine (settled_fact _ V).mono ?_
  rintro e w1 ⟨rfl, hb1⟩
  have V1 := V.on hb1
  go_wp2_with fail
  refine (keyed_fact _ V1).mono ?_
  rintro e w1b ⟨rfl, hb1b⟩
  have hb1w := below_step hb1 hb1b
  have V1b := V.on hb1w
  go_wp2_with fail
  refine (made_any own _ _ (hv.on hb1w) hd V1b).mono ?_
  rintro e w2 ⟨hm, hb2⟩
  have hb2w := below_step hb1w hb2
  rcases hm with rfl | ⟨S, g, rfl, hN, hS, hnew⟩
  · go_wp2_with fail
    go_ret
    exact ⟨rfl, hb2w⟩
  have hS0 : ∀ k ∈ S, w.heap.size ≤ k := fun k hk => Nat.le_trans hb1w.size (hS k hk)
  go_wp2_with fail
  refine (thick_any off _ _ (hv2.on hb2w) hd2).mono ?_
  rintro e w4 ⟨b0, rfl, hb4⟩
  have hb4w := below_step hb2w hb4
  have hN4 := hN.on hb4
  rcases b0 with _ | _
  rotate_left
  · go_wp2_with fail
    go_ret
    exact ⟨rfl, hb4w⟩
  go_wp2_with fail
  refine (thick_any more _ _ (hv3.on hb4w) hd3).mono ?_
  rintro e w4b ⟨b1, rfl, hb4b⟩
  have hb4w := below_step hb4w hb4b
  have hN4 := hN4.on hb4b
  rcases b1 with _ | _
  rotate_left
  · go_wp2_with fail
    go_ret
    exact ⟨rfl, hb4w⟩
  go_wp2_with fail
  refine (ans_argG g S own [] off true disc _ w w4b V hb4w hN4 hS0 hv2 hd2 hnew (by simp)).mono ?_
  rintro e w5 he
  obtain ⟨S5, u5, er5, rfl, hu5, _, hN5, hnf5, hS5, _, _⟩ := ans_gen hN4 he
  obtain ⟨hb5w, hS50⟩ := ans_after hb4w hS0 hnf5 hS5
  have hrl5 : (ansRc own [] off true disc).length ≤ 60 := by have := ansRc_len (own := own) (rc := []) (offers := off) (login := true) (disc := disc); simpa using this
  have hok5 : RecOk (ansRc own [] off true disc) := RecOk.nil.ansRc
  obtain ⟨R5, hR5⟩ : ∃ R, ansRc own [] off true disc = R := ⟨_, rfl⟩
  rw [hR5] at hrl5 hN5 hok5
  have HOK5 := Lib.hid hok5
  clear he hu5 hnf5 hS5 hN4 hR5 hok5 hN
  go_wp2_with fail
  refine (ans_argG g S5 own R5 more login disc _ w w5 V hb5w hN5 hS50 hv3 hd3 hnew (by omega)).mono ?_
  rintro e w6 he
  obtain ⟨S6, u6, er6, rfl, hu6, _, hN6, hnf6, hS6, _, _⟩ := ans_gen hN5 he
  obtain ⟨hb6w, hS60⟩ := ans_after hb5w hS50 hnf6 hS6
  have hrl6 : (ansRc own R5 more login disc).length ≤ 120 := by have := ansRc_len (own := own) (rc := R5) (offers := more) (login := login) (disc := disc); omega
  have hok6 : RecOk (ansRc own R5 more login disc) := HOK5.out.ansRc
  obtain ⟨R, hR⟩ : ∃ R, ansRc own R5 more login disc = R := ⟨_, rfl⟩
  rw [hR] at hrl6 hN6 hok6
  have HOK := Lib.hid hok6
  have V6 := V.on hb6w
  have o0 := World.ownsMap_made (H := Unit) w6 Tryz.prog 9 (plainElem Tryz.prog 4)
  have hbm : Below w6.heap.size w6 (w6.alloc (.map #[] 0)) := (Below.refl _ _).alloc (Nat.le_refl _) _
  obtain ⟨m, hm⟩ : ∃ m, w6.heap.size = m := ⟨_, rfl⟩
  obtain ⟨wm, hwm⟩ : ∃ W : World, w6.alloc (.map #[] 0) = W := ⟨_, rfl⟩
  rw [hwm] at o0 hbm
  rw [hm] at o0
  have hmlt := o0.lt
  clear he hu6 hnf6 hS6 hR hok6 hN5
  go_wp2_with fail
  refine (nrec_any g S6 own R _ (hN6.on hbm) (by omega)).mono ?_
  rintro e w7 ⟨v7, rfl, hr7, hb7⟩
  have hb67 := below_step hbm hb7
  have o7 := o0.kept (grown_below' none hb7) (by simp)
  have hrd7 := SRd.of_m hr7
  have hr7l := MRow.lt hr7
  obtain ⟨A7, cap7, rfl, _⟩ := hr7.form
  have HBM : Hid (∀ k, (Value.slice A7 R.length cap7).ownBlock = some k → k ≠ m) := Lib.hid fun k hk => by have h1 := (hr7l k hk).1; omega
  obtain ⟨n, hn⟩ : ∃ n, R.length = n := ⟨_, rfl⟩
  have HN := Lib.hid hn
  rw [hn] at hrl6 ⊢
  have HRD := Lib.hid hrd7
  have b67 : ∀ W, Below w7.heap.size w7 W → Below w6.heap.size w6 W := fun W h => below_step hb67 h
  clear hr7 hrd7 hn o0 hbm hwm hb7 hr7l hmlt
  go_wp2_with fail
  go_loopw [60] (fun i wr => ∃ (k : Nat) (D : DataW Unit), k ≤ n ∧ i = .int .i64 k ∧ wr.ownsMap Tryz.prog 9 (plainElem Tryz.prog 4) m k D ∧ Seen D ((R.take k).map kB) ∧ Below w6.heap.size w6 wr ∧ SRd wr (.slice A7 R.length cap7) 2 R.length (pairCells R)) (fun i _ => n - (intOf i).toNat)
  case atStart => exact ⟨0, _, Nat.zero_le _, rfl, o7, Seen.nil, hb67, HRD.out⟩
  case round =>
    clear o7
    obtain ⟨k, D, hk, rfl, ho, hsn, hbr, hrd⟩ := hrel
    have hbrw := below_step hb6w hbr
    by_cases hlt : k < n
    · obtain ⟨q, hq⟩ : ∃ q, R[k]? = some q := ⟨_, List.getElem?_eq_getElem (by rw [HN.out]; exact hlt)⟩
      have hqm := List.mem_of_getElem? hq
      have hqk := HOK.out.2 q hqm
      obtain ⟨⟨r, hr⟩, hfit, _, hkey, hval⟩ := hqk
      have hvq := rec_val HOK.out hqm
      have htk : (R.take (k + 1)).map kB = (R.take k).map kB ++ [kB q] := by rw [List.take_add_one, hq]; simp
      have hnew2 : kB q ∉ (R.take k).map kB := by
        have hkd := HOK.out.1
        rw [← List.take_append_drop k R] at hkd
        intro hmem
        obtain ⟨x, hx, e⟩ := List.mem_map.1 hmem
        have hpd : q ∈ R.drop k := by
          obtain ⟨h1, h2⟩ := List.getElem?_eq_some_iff.1 hq
          rw [List.drop_eq_getElem_cons h1, h2]
          simp
        exact hkd.ne hx hpd e
      have hsm := right_small hkey hval
      have hvz : q.2.size ≤ 255 := by have := valB_len hval; unfold vB at this; rw [len_of] at this; exact this
      obtain ⟨bb, o, cp, u0, u1, hvv, hbl, q0, q1, c0, c1⟩ := hrd.two (k := k) (by rw [HN.out]; exact hlt)
      have hcell := pairCells_at R k q hq
      rw [hcell.1] at q0
      rw [hcell.2] at q1
      obtain rfl := Option.some.inj q0
      obtain rfl := Option.some.inj q1
      injection hvv with g1 g2 g3
      subst g1
      subst g3
      obtain ⟨p1, p2⟩ := q
      simp only at c0 c1 hvq hsm hvz
      have hr' : keyRow p1.data.toList = some r := hr
      have hkq : kB (p1, p2) = p1.data.toList := rfl
      have hvb : vB (p1, p2) = p2.data.toList := rfl
      rw [hkq] at htk hnew2 hfit
      rw [hvb] at hfit
      have HR := Lib.hid hr'
      have HFIT := Lib.hid hfit
      have HVQ := Lib.hid hvq
      have HTK := Lib.hid htk
      have HNW := Lib.hid hnew2
      have HSN := Lib.hid hsn
      have HRDR := Lib.hid hrd
      have hp1z : p1.size ≤ 9223372036854775807 := by have := hsm.1; simp only at this; omega
      have hba : Below wr.heap.size wr (wr.alloc (.cells #[.string p1, .string p2] 52)) := (Below.refl _ _).alloc (Nat.le_refl _) _
      have hBa := Blk.new wr 52 #[.string p1, .string p2]
      obtain ⟨z, hzz⟩ : ∃ z, wr.heap.size = z := ⟨_, rfl⟩
      have hmz : m ≠ z := by have := ho.lt; omega
      rw [hzz] at hBa
      have hb6a := below_step hbr hba
      have Va := V.on (below_step hbrw hba)
      have hNa := hN6.on hb6a
      have hoa := ho.kept (grown_below' none hba) (by simp)
      obtain ⟨wa, hwa⟩ : ∃ wa : World, wr.alloc (.cells #[.string p1, .string p2] 52) = wa := ⟨_, rfl⟩
      rw [hwa] at hBa hb6a Va hba hNa hoa
      have z0 := hBa.cell 0
      clear hq hqm hr hr' hcell hfit hvq htk hnew2 hsn hrd g2 hkq hvb hkey hval ho hsm
      go_wp2_with fail
      refine (nval_some g S6 own R p1 p2 r _ hNa HR.out HVQ.out Va).mono ?_
      rintro e w8 ⟨rfl, hb8⟩
      have hb68 := below_step hb6a hb8
      have V8 := V.on (below_step hb6w hb68)
      have ho8 := hoa.kept (grown_below' none hb8) (by simp)
      have hB8 := hBa.below hb8 hBa.lt
      have y0 := hB8.cell 0
      have y1 := hB8.cell 1
      have hkey : keyOf Tryz.prog 9 (.string p1) = some (.string p1.data.toList) := WideMaps.keyOf_string_mk us (by unfold maxLen; omega)
      obtain ⟨c, hrun, hat⟩ := lookup_bool ho8 (Maps.string_keyed us) um ub (by go_simp) hkey
      rw [HSN.out] at hat
      have hcx : c = decide (p1.data.toList ∈ (R.take k).map kB) := by injection hat with h; injection h with h; exact h.symm
      obtain rfl : c = false := by rw [hcx]; exact decide_eq_false HNW.out
      clear hat hcx z0 hNa hoa hBa
      go_wp2_with fail
      refine (fits_good p1 p2 _ HFIT.out (by omega) V8.T V8.E V8.S).mono ?_
      rintro e w9 ⟨rfl, hb9⟩
      have hb69 := below_step hb68 hb9
      have ho9 := ho8.kept (grown_below' none hb9) (by simp)
      have hB9 := hB8.below hb9 hB8.lt
      have x0 := hB9.cell 0
      have x1 := hB9.cell 1
      have hrd9 := ((HRDR.out.on hba).on hb8).on hb9
      obtain ⟨W2, r1, o1, g1⟩ := ho9.update (Maps.string_keyed us) um (by unfold maxLen; omega) hkey (plainElem_bool ub true)
      have hsn1 : Seen (D.put (.string p1.data.toList) (.lit (.bool true))) ((R.take (k + 1)).map kB) := by
        rw [HTK.out]
        exact HSN.out.put ho9.isMap _
      have hb62 : Below w6.heap.size w6 W2 := hb69.grown g1 hb69.size (by rintro j h; injection h with h; omega)
      have hrd2 : SRd W2 (.slice (some ⟨bb, o, none⟩) R.length cap7) 2 R.length (pairCells R) := hrd9.blks g1.size fun hpos a ha hl => g1.block a.block hl (by
        intro e
        injection e with e
        cases ha
        exact HBM.out _ rfl e)
      have HSN1 := Lib.hid hsn1
      clear hsn1 y0 y1 hrun ho8 hB8 g1 hrd9
      go_wp2_with fail
      go_roundw
      case rel => exact ⟨k + 1, _, by omega, by go_num, o1, HSN1.out, hb62, hrd2⟩
      case measure => simp [intOf]; omega
    · obtain rfl : n = k := by omega
      have hseen : Seen D (R.map kB) := by rw [List.take_of_length_le (by rw [HN.out]; exact Nat.le_refl _)] at hsn; exact hsn
      have HSEEN := Lib.hid hseen
      have Vr := V.on hbrw
      have hNr := hN6.on hbr
      obtain ⟨wx, rfl⟩ : ∃ wx : World, wx = wr := ⟨_, rfl⟩
      clear hsn hseen hrd hN6
      go_wp2_with fail
      refine (names_any wx Vr.S).mono ?_
      rintro e w8 ⟨v8, rfl, hv8, hb8⟩
      have ho8 := ho.kept (grown_below' none hb8) (by simp)
      have hN8 := hNr.on hb8
      have hb8w := below_step hbrw hb8
      obtain ⟨A8, cap8, rfl, _⟩ := hv8.form
      rw [HLEN.out]
      have HV8 := Lib.hid hv8
      clear hv8 ho hNr
      go_wp2_with fail
      go_loopw [99] (fun i wr => ∃ j : Nat, j ≤ 18 ∧ i = .int .i64 j ∧ Below w8.heap.size w8 wr) (fun i _ => 18 - (intOf i).toNat)
      case atStart => exact ⟨0, by omega, rfl, Below.refl _ _⟩
      case round =>
        obtain ⟨j, hj, rfl, hbj⟩ := hrel
        have hbjw := below_step hb8w hbj
        by_cases hlt2 : j < 18
        · obtain ⟨nm, hnmk⟩ : ∃ x, namesK[j]? = some x := ⟨_, List.getElem?_eq_getElem (by rw [HLEN.out]; exact hlt2)⟩
          obtain ⟨r, hr, hrn, _, _, hnl⟩ := names_row j nm hnmk
          have hv8r := HV8.out.on hbj
          rw [HLEN.out] at hv8r
          obtain ⟨b, o, rfl, hbl, hcell⟩ := WRd.at hv8r hnmk
          obtain ⟨NM, hNM⟩ : ∃ NM : ByteArray, (⟨nm.toArray⟩ : ByteArray) = NM := ⟨_, rfl⟩
          have hNMl : NM.data.toList = nm := by rw [← hNM]
          rw [hNM] at hcell
          have hrNM : keyRow NM.data.toList = some r := by rw [hNMl]; exact hr
          obtain ⟨Dd, hDd⟩ : ∃ D, ba (dfl r) = D := ⟨_, rfl⟩
          obtain ⟨O, hO⟩ : ∃ D, ba (ownL R NM) = D := ⟨_, rfl⟩
          have hmiss : NM.data.toList ∉ R.map kB → O = Dd := fun h => by rw [← hO, ← hDd]; exact own_miss hrNM h
          have hNMs : NM.size ≤ 30 := by rw [← len_of, hNMl]; exact hnl
          have HRN := Lib.hid hrNM
          have HDd := Lib.hid hDd
          have HO := Lib.hid hO
          have HMISS := Lib.hid hmiss
          have Vj := V.on hbjw
          have hNj := hN8.on hbj
          have hoj := ho8.kept (grown_below' none hbj) (by simp)
          clear hnmk hr hrn hNM hNMl hrNM hDd hO hmiss hnl hv8r
          go_wp2_with fail
          refine (of_some NM r _ Dd _ _ _ HRN.out rfl HDd.out rfl rfl Vj.T).mono ?_
          rintro e w10 ⟨rfl, hb10⟩
          have hba : Below w10.heap.size w10 (w10.alloc (.cells #[.string ⟨r.name.toArray⟩, .int .i64 r.kind, .int .i64 r.low, .int .i64 r.high, .string Dd, .bool r.noth, .bool r.lonly] 58)) := (Below.refl _ _).alloc (Nat.le_refl _) _
          have hBk := Blk.new w10 58 #[.string ⟨r.name.toArray⟩, .int .i64 r.kind, .int .i64 r.low, .int .i64 r.high, .string Dd, .bool r.noth, .bool r.lonly]
          obtain ⟨z, hz⟩ : ∃ z, w10.heap.size = z := ⟨_, rfl⟩
          rw [hz] at hBk
          have hb8a := below_step (below_step hbj hb10) hba
          have Va := V.on (below_step hb8w hb8a)
          have hNa := (hNj.on hb10).on hba
          have hoa := (hoj.kept (grown_below' none hb10) (by simp)).kept (grown_below' none hba) (by simp)
          clear hNj hoj hcell
          go_wp2_with fail
          refine (nval_some g S6 own R NM O r _ hNa HRN.out HO.out Va).mono ?_
          rintro e w11 ⟨rfl, hb11⟩
          have hb8b := below_step hb8a hb11
          have hBk11 := hBk.below hb11 hBk.lt
          have k4 := hBk11.cell 4
          have ho11 := hoa.kept (grown_below' none hb11) (by simp)
          have hkey : keyOf Tryz.prog 9 (.string NM) = some (.string NM.data.toList) := WideMaps.keyOf_string_mk us (by unfold maxLen; omega)
          obtain ⟨c, hrun, hat⟩ := lookup_bool ho11 (Maps.string_keyed us) um ub (by go_simp) hkey
          rw [HSEEN.out] at hat
          have hcx : c = decide (NM.data.toList ∈ R.map kB) := by injection hat with h; injection h with h; exact h.symm
          by_cases hin : NM.data.toList ∈ R.map kB
          · obtain rfl : c = true := by rw [hcx]; exact decide_eq_true hin
            clear hat hcx hin hNa hoa hBk
            go_wp2_with fail
            go_roundw
            case rel => exact ⟨j + 1, by omega, by go_num, hb8b⟩
            case measure => simp [intOf]; omega
          · obtain rfl : c = false := by rw [hcx]; exact decide_eq_false hin
            obtain rfl := HMISS.out hin
            clear hat hcx hin hNa hoa hBk
            go_wp2_with fail
            go_roundw
            case rel => exact ⟨j + 1, by omega, by go_num, hb8b⟩
            case measure => simp [intOf]; omega
        · obtain rfl : j = 18 := by omega
          go_wp2_with fail
          go_ret
          exact ⟨rfl, hbjw⟩
end Go.Proofs.YtadhlnpegigadaaGreatDoor
