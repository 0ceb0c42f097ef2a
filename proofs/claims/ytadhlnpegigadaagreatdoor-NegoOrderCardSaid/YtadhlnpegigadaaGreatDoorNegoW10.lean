/- The walk of NegoOrder. -/
import Derived.Test.YtadhlnpegigadaaGreatDoorNegoW7
import Derived.Test.YtadhlnpegigadaaGreatDoorNegoRev
namespace Go.Proofs.YtadhlnpegigadaaGreatDoor
open Go.ChangeShapes Go.WideShapes Go.ChangeAt Go.RowKit Go.Shelf
set_option linter.unusedVariables false
theorem own_rev (own off : PairL) (disc : Bool) (n : ByteArray) : ownL (ansRc own [] off.reverse true disc) n = ownL (ansRc own [] off true disc) n := by
  unfold ansRc
  rcases hE : ansE [] off true with _ | E
  · have hE2 := (ansE_rev off).2 hE
    rw [hE2]
    show ownL (recL own true disc [] off.reverse) n = ownL (recL own true disc [] off) n
    unfold ownL
    rw [rec_rev own disc off hE n]
  · rcases hE2 : ansE [] off.reverse true with _ | E2
    · rw [(ansE_rev off).1 hE2] at hE
      cases hE
    · rfl
theorem code_rev (off : PairL) : (codeE (ansE [] off true) = 0 ∧ codeE (ansE [] off.reverse true) = 0) ∨ (codeE (ansE [] off true) ≠ 0 ∧ codeE (ansE [] off.reverse true) ≠ 0) := by
  rcases hE : ansE [] off true with _ | E
  · rw [(ansE_rev off).2 hE]
    exact .inl ⟨rfl, rfl⟩
  · rcases hE2 : ansE [] off.reverse true with _ | E2
    · rw [(ansE_rev off).1 hE2] at hE
      cases hE
    · exact .inr ⟨ansE_nz hE, ansE_nz hE2⟩
set_option maxRecDepth 20000 in
set_option maxHeartbeats 8000000 in
theorem orderNego (own : PairL) (vo : Value) (off : PairL) (vf : Value) (disc : Bool) (w : World) (hv : SRd w vo 2 own.length (pairCells own)) (hd : ∀ p ∈ own, psmall p) (hv2 : SRd w vf 2 off.length (pairCells off)) (hd2 : ∀ p ∈ off, psmall p)
    (hl1 : own.length * 32 ≤ 140737488351232) (hl2 : off.length * 32 ≤ 140737488351232) (V : Env w) :
    Calls Tryz.prog 13 #[vo, vf, .bool disc] w fun e w' => e = .returned (.bool true) ∧ Below w.heap.size w w' := by
  have hlen : namesK.length = 18 := by decide +kernel
  have HLEN := Lib.hid hlen
  clear hlen
  go_enter Tryz.func13, Tryz.ntmps13
  go_wp2_with fail
  refine (settled_fact _ V).mono ?_
  rintro e w1 ⟨rfl, hb1⟩
  have V1 := V.on hb1
  go_wp2_with fail
  refine (keyed_fact _ V1).mono ?_
  rintro e w1b ⟨rfl, hb1b⟩
  have hb1 := below_step hb1 hb1b
  have V1 := V.on hb1
  go_wp2_with fail
  refine (made_any own _ _ (hv.on hb1) hd V1).mono ?_
  rintro e w2 ⟨hma, hb2⟩
  have hb2w := below_step hb1 hb2
  have V2 := V.on hb2w
  rcases hma with rfl | ⟨Sa, ga, rfl, hNa, hSa, hnew⟩
  · go_wp2_with fail
    refine (made_any own _ _ (hv.on hb2w) hd V2).mono ?_
    rintro e w3 ⟨hmb, hb3⟩
    rcases hmb with rfl | ⟨Sb, gb, rfl, hNb, hSb, _⟩
    · go_wp2_with fail
      go_ret
      exact ⟨rfl, below_step hb2w hb3⟩
    · go_wp2_with fail
      go_ret
      exact ⟨rfl, below_step hb2w hb3⟩
  go_wp2_with fail
  refine (made_any own _ _ (hv.on hb2w) hd V2).mono ?_
  rintro e w3 ⟨hmb, hb3⟩
  rcases hmb with rfl | ⟨Sb, gb, rfl, hNb, hSb, _⟩
  · go_wp2_with fail
    go_ret
    exact ⟨rfl, below_step hb2w hb3⟩
  have T3 : Two w w3 Sa Sb ga gb own [] [] [] := two_made hb1 hb2 hNa hSa hb3 hNb hSb
  clear hNa hNb hSa hSb
  go_wp2_with fail
  refine (thick_any off _ _ (hv2.on T3.b) hd2).mono ?_
  rintro e w4 ⟨b, rfl, hb4⟩
  have T4 := T3.on hb4
  rcases b with _ | _
  rotate_left
  · go_wp2_with fail
    go_ret
    exact ⟨rfl, T4.b⟩
  clear T3
  go_wp2_with fail
  refine (clone_own off _ _ (hv2.on T4.b) hl2).mono ?_
  rintro e w5 ⟨v5, rfl, ho5, hb5⟩
  have T5 := T4.on hb5
  have h4a := T4.na.lt
  have h4b := T4.nb.lt
  have s4 := T4.b.size
  have hrev := rev_any off v5 w4.heap.size w5 ho5 hl2
  have HREV := Lib.hid hrev
  have ho5l := ho5.lt
  obtain ⟨A5, cap5, rfl⟩ := ho5.form
  clear hrev ho5 T4
  go_wp2_with fail
  refine HREV.out.mono ?_
  rintro e w6 ⟨ho6, hg6, x6, rfl⟩
  have hb56 : Below w4.heap.size w5 w6 := (Below.refl _ _).grown hg6 hb5.size fun k hk => (ho5l k hk).1
  have T6 := (T5.past hb56 s4 h4a h4b (fun k hk => by cases hk)).more (u := (Value.slice A5 off.length cap5).ownBlock) fun k hk => ⟨(ho6.lt k hk).2, fun hm => by have h1 := h4a k hm; have h2 := (ho5l k hk).1; omega, fun hm => by have h1 := h4b k hm; have h2 := (ho5l k hk).1; omega⟩
  have hbl6 : ∀ k, (Value.slice A5 off.length cap5).ownBlock = some k → k ∈ (Value.slice A5 off.length cap5).ownBlock.toList ++ ([] : List Nat) := fun k hk => by simp [hk]
  clear T5 hg6 HREV hb56
  go_wp2_with fail
  refine (two_arg T6 off disc _ V hv2 hd2 hnew (by simp)).mono ?_
  rintro e w7 he7
  obtain ⟨Sa7, u7, er7, rfl, hu7, ht7, T7, hk7⟩ := T6.ans he7
  have ho7 := ho6.keepL hk7 hbl6
  have hfar : ∀ k, (Value.slice A5 off.length cap5).ownBlock = some k → k ∉ Sb := fun k hk hm => by have h1 := h4b k hm; have h2 := (ho5l k hk).1; omega
  have U7 := T7.less (L' := []) (fun k hk => by cases hk)
  have hrl : off.reverse.length = off.length := List.length_reverse
  have hrd7 := ho7.rd
  have hd3 : ∀ p ∈ off.reverse, psmall p := fun p hp => hd2 p (List.mem_reverse.1 hp)
  have hans := nanswer_any gb Sb own [] off.reverse true disc (.slice A5 off.length cap5) w7 w U7.nb hrd7 (fun _ k hk => hfar k hk) hd3 (own_ok hnew).1 (by simp) (.inl rfl) V U7.b U7.sb
  have HANS := Lib.hid hans
  clear he7 hu7 T6 T7 hk7 ho6 ho7 hans hrl hrd7 hd3
  go_wp2_with fail
  refine HANS.out.mono ?_
  rintro e w8 he8
  obtain ⟨Sb8, u8, er8, rfl, hu8, ht8, T8, _⟩ := U7.swap.ans he8
  have U8 := T8.swap.less (L' := []) (fun k hk => by cases hk)
  have hcode := code_rev off
  have howr := own_rev own off disc
  obtain ⟨Ra, hRa⟩ : ∃ x, ansRc own [] off true disc = x := ⟨_, rfl⟩
  obtain ⟨Rb, hRb⟩ : ∃ x, ansRc own [] off.reverse true disc = x := ⟨_, rfl⟩
  rw [hRa, hRb] at howr
  rw [hRa, hRb] at U8
  have HOWR := Lib.hid howr
  have hcase : (er7 = .nilIface ∧ er8 = .nilIface) ∨ ((∃ t x, er7 = .iface t x) ∧ ∃ t x, er8 = .iface t x) := by
    rcases hcode with ⟨h1, h2⟩ | ⟨h1, h2⟩
    · rw [h1] at ht7
      rw [h2] at ht8
      exact .inl ⟨ht7.nil, ht8.nil⟩
    · exact .inr ⟨ht7.iface h1, ht8.iface h2⟩
  clear he8 hu8 T8 U7 ht7 ht8 hRa hRb howr hcode HANS
  rcases hcase with ⟨rfl, rfl⟩ | ⟨⟨t7, x7, rfl⟩, t8, x8, rfl⟩
  · go_wp2_with fail
    go_quiet (fail)
    obtain ⟨wq, hwq⟩ : ∃ W : World, w8.drewN nq = W := ⟨_, rfl⟩
    have hbq : Below w8.heap.size w8 wq := by rw [← hwq]; exact below_dK (Below.refl _ _) nq
    have Tq := U8.on hbq
    have Vq := V.on Tq.b
    rw [hwq]
    clear hwq U8 hbq
    go_wp2_with fail
    refine (names_any wq Vq.S).mono ?_
    rintro e w9 ⟨v9, rfl, hv9, hb9⟩
    have T9 := Tq.on hb9
    obtain ⟨A9, cap9, rfl, _⟩ := hv9.form
    rw [HLEN.out]
    have HV9 := Lib.hid hv9
    clear hv9 Tq
    go_wp2_with fail
    go_loopw [65] (fun i wr => ∃ j : Nat, j ≤ 18 ∧ i = .int .i64 j ∧ Below w9.heap.size w9 wr) (fun i _ => 18 - (intOf i).toNat)
    case atStart => exact ⟨0, by omega, rfl, Below.refl _ _⟩
    case round =>
      obtain ⟨j, hj, rfl, hbj⟩ := hrel
      have Tj := T9.on hbj
      by_cases hlt2 : j < 18
      · obtain ⟨nm, hnmk⟩ : ∃ x, namesK[j]? = some x := ⟨_, List.getElem?_eq_getElem (by rw [HLEN.out]; exact hlt2)⟩
        obtain ⟨r, hr, hrn, _, _, hnl⟩ := names_row j nm hnmk
        have hv9r := HV9.out.on hbj
        rw [HLEN.out] at hv9r
        obtain ⟨b, o, rfl, hbl, hcell⟩ := WRd.at hv9r hnmk
        obtain ⟨NM, hNM⟩ : ∃ NM : ByteArray, (⟨nm.toArray⟩ : ByteArray) = NM := ⟨_, rfl⟩
        have hNMl : NM.data.toList = nm := by rw [← hNM]
        rw [hNM] at hcell
        have hrNM : keyRow NM.data.toList = some r := by rw [hNMl]; exact hr
        obtain ⟨O, hO⟩ : ∃ D, ba (ownL Ra NM) = D := ⟨_, rfl⟩
        have hO2 : ba (ownL Rb NM) = O := by rw [HOWR.out NM]; exact hO
        have HRN := Lib.hid hrNM
        have HO := Lib.hid hO
        have HO2 := Lib.hid hO2
        have Vj := V.on Tj.b
        clear hnmk hr hrn hNM hNMl hrNM hO hO2 hnl hv9r
        go_wp2_with fail
        refine (nval_some ga Sa7 own Ra NM O r _ Tj.na HRN.out HO.out Vj).mono ?_
        rintro e w11 ⟨rfl, hb11⟩
        have T11 := Tj.on hb11
        have V11 := V.on T11.b
        have hbj11 := below_step hbj hb11
        clear hcell Tj
        go_wp2_with fail
        refine (nval_some gb Sb8 own Rb NM O r _ T11.nb HRN.out HO2.out V11).mono ?_
        rintro e w12 ⟨rfl, hb12⟩
        have hbj12 := below_step hbj11 hb12
        clear T11
        go_wp2_with fail
        go_roundw
        case rel => exact ⟨j + 1, by omega, by go_num, hbj12⟩
        case measure => simp [intOf]; omega
      · obtain rfl : j = 18 := by omega
        have Vj := V.on Tj.b
        have hdig : digOf Rb = digOf Ra := by unfold digOf; rw [HOWR.out hdB, HOWR.out ddB]
        obtain ⟨dg, hdg⟩ : ∃ d, digOf Ra = d := ⟨_, rfl⟩
        rw [hdg] at hdig
        have HD1 := Lib.hid hdg
        have HD2 := Lib.hid hdig
        clear hdg hdig
        go_wp2_with fail
        refine (ndig_any ga Sa7 own Ra _ Tj.na Vj).mono ?_
        rintro e w11 ⟨rfl, hb11⟩
        rw [HD1.out]
        have T11 := Tj.on hb11
        have V11 := V.on T11.b
        clear Tj
        go_wp2_with fail
        refine (ndig_any gb Sb8 own Rb _ T11.nb V11).mono ?_
        rintro e w12 ⟨rfl, hb12⟩
        rw [HD2.out]
        have b12 := (T11.on hb12).b
        clear T11
        go_wp2_with fail
        go_ret
        exact ⟨rfl, b12⟩
  · go_wp2_with fail
    go_quiet (fail)
    obtain ⟨wq, hwq⟩ : ∃ W : World, w8.drewN nq = W := ⟨_, rfl⟩
    have hbq : Below w8.heap.size w8 wq := by rw [← hwq]; exact below_dK (Below.refl _ _) nq
    have Tq := U8.on hbq
    have Vq := V.on Tq.b
    rw [hwq]
    clear hwq U8 hbq
    go_wp2_with fail
    refine (names_any wq Vq.S).mono ?_
    rintro e w9 ⟨v9, rfl, hv9, hb9⟩
    have T9 := Tq.on hb9
    obtain ⟨A9, cap9, rfl, _⟩ := hv9.form
    rw [HLEN.out]
    have HV9 := Lib.hid hv9
    clear hv9 Tq
    go_wp2_with fail
    go_loopw [65] (fun i wr => ∃ j : Nat, j ≤ 18 ∧ i = .int .i64 j ∧ Below w9.heap.size w9 wr) (fun i _ => 18 - (intOf i).toNat)
    case atStart => exact ⟨0, by omega, rfl, Below.refl _ _⟩
    case round =>
      obtain ⟨j, hj, rfl, hbj⟩ := hrel
      have Tj := T9.on hbj
      by_cases hlt2 : j < 18
      · obtain ⟨nm, hnmk⟩ : ∃ x, namesK[j]? = some x := ⟨_, List.getElem?_eq_getElem (by rw [HLEN.out]; exact hlt2)⟩
        obtain ⟨r, hr, hrn, _, _, hnl⟩ := names_row j nm hnmk
        have hv9r := HV9.out.on hbj
        rw [HLEN.out] at hv9r
        obtain ⟨b, o, rfl, hbl, hcell⟩ := WRd.at hv9r hnmk
        obtain ⟨NM, hNM⟩ : ∃ NM : ByteArray, (⟨nm.toArray⟩ : ByteArray) = NM := ⟨_, rfl⟩
        have hNMl : NM.data.toList = nm := by rw [← hNM]
        rw [hNM] at hcell
        have hrNM : keyRow NM.data.toList = some r := by rw [hNMl]; exact hr
        obtain ⟨O, hO⟩ : ∃ D, ba (ownL Ra NM) = D := ⟨_, rfl⟩
        have hO2 : ba (ownL Rb NM) = O := by rw [HOWR.out NM]; exact hO
        have HRN := Lib.hid hrNM
        have HO := Lib.hid hO
        have HO2 := Lib.hid hO2
        have Vj := V.on Tj.b
        clear hnmk hr hrn hNM hNMl hrNM hO hO2 hnl hv9r
        go_wp2_with fail
        refine (nval_some ga Sa7 own Ra NM O r _ Tj.na HRN.out HO.out Vj).mono ?_
        rintro e w11 ⟨rfl, hb11⟩
        have T11 := Tj.on hb11
        have V11 := V.on T11.b
        have hbj11 := below_step hbj hb11
        clear hcell Tj
        go_wp2_with fail
        refine (nval_some gb Sb8 own Rb NM O r _ T11.nb HRN.out HO2.out V11).mono ?_
        rintro e w12 ⟨rfl, hb12⟩
        have hbj12 := below_step hbj11 hb12
        clear T11
        go_wp2_with fail
        go_roundw
        case rel => exact ⟨j + 1, by omega, by go_num, hbj12⟩
        case measure => simp [intOf]; omega
      · obtain rfl : j = 18 := by omega
        have Vj := V.on Tj.b
        have hdig : digOf Rb = digOf Ra := by unfold digOf; rw [HOWR.out hdB, HOWR.out ddB]
        obtain ⟨dg, hdg⟩ : ∃ d, digOf Ra = d := ⟨_, rfl⟩
        rw [hdg] at hdig
        have HD1 := Lib.hid hdg
        have HD2 := Lib.hid hdig
        clear hdg hdig
        go_wp2_with fail
        refine (ndig_any ga Sa7 own Ra _ Tj.na Vj).mono ?_
        rintro e w11 ⟨rfl, hb11⟩
        rw [HD1.out]
        have T11 := Tj.on hb11
        have V11 := V.on T11.b
        clear Tj
        go_wp2_with fail
        refine (ndig_any gb Sb8 own Rb _ T11.nb V11).mono ?_
        rintro e w12 ⟨rfl, hb12⟩
        rw [HD2.out]
        have b12 := (T11.on hb12).b
        clear T11
        go_wp2_with fail
        go_ret
        exact ⟨rfl, b12⟩
end Go.Proofs.YtadhlnpegigadaaGreatDoor
