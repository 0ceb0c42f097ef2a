/- The walks of NegoDigests and NegoTwice. -/
import Derived.Test.YtadhlnpegigadaaGreatDoorNegoWk
namespace Go.Proofs.YtadhlnpegigadaaGreatDoor
open Go.ChangeShapes Go.WideShapes Go.ChangeAt Go.RowKit Go.Shelf
set_option linter.unusedVariables false
set_option maxRecDepth 20000 in
set_option maxHeartbeats 8000000 in
theorem digestsNego (own : PairL) (vo : Value) (off : PairL) (vf : Value) (w : World) (hv : SRd w vo 2 own.length (pairCells own)) (hd : ∀ p ∈ own, psmall p) (hv2 : SRd w vf 2 off.length (pairCells off)) (hd2 : ∀ p ∈ off, psmall p) (V : Env w) :
    Calls Tryz.prog 8 #[vo, vf] w fun e w' => e = .returned (.bool true) ∧ Below w.heap.size w w' := by
  obtain ⟨r1, hr1⟩ := hd_row
  obtain ⟨r2, hr2⟩ := dd_row
  have HR1 := Lib.hid hr1
  have HR2 := Lib.hid hr2
  clear hr1 hr2
  go_enter Tryz.func8, Tryz.ntmps8
  go_wp2_with fail
  refine (settled_fact _ V).mono ?_
  rintro e w1 ⟨rfl, hb1⟩
  have V1 := V.on hb1
  go_wp2_with fail
  refine (made_any own _ _ (hv.on hb1) hd V1).mono ?_
  rintro e w2 ⟨hm, hb2⟩
  have hb2w := below_step hb1 hb2
  rcases hm with rfl | ⟨S, g, rfl, hN, hS, hnew⟩
  · go_wp2_with fail
    go_ret
    exact ⟨rfl, hb2w⟩
  have hS0 : ∀ k ∈ S, w.heap.size ≤ k := fun k hk => Nat.le_trans hb1.size (hS k hk)
  go_wp2_with fail
  refine (thick_any off _ _ (hv2.on hb2w) hd2).mono ?_
  rintro e w3 ⟨b, rfl, hb3⟩
  have hb3w := below_step hb2w hb3
  have hN3 := hN.on hb3
  rcases b with _ | _
  rotate_left
  · go_wp2_with fail
    go_ret
    exact ⟨rfl, hb3w⟩
  go_wp2_with fail
  refine (ans_arg g S own [] off true false _ w w3 V hb3w hN3 hS0 hv2 hd2 hnew (by simp) (.inl rfl)).mono ?_
  rintro e w4 he
  have hfin : ∃ S4 R4 x4 y4, e = .returned (.tuple #[x4, y4]) ∧ NegoH w4 S4 g own R4 ∧ Below w.heap.size w w4 := by
    rcases hE : ansE [] off true with _ | E
    · rw [hE] at he
      obtain ⟨S4, u, rfl, hu, hN4, hnf, hS4, _⟩ := he
      exact ⟨S4, _, _, _, rfl, hN4, (ans_after hb3w hS0 hnf hS4).1⟩
    · rw [hE] at he
      obtain ⟨⟨t, x, rfl, _⟩, hb4⟩ := he
      exact ⟨S, _, _, _, rfl, hN3.on hb4, below_step hb3w hb4⟩
  obtain ⟨S4, R4, x4, y4, rfl, hN4, hb4w⟩ := hfin
  have V4 := V.on hb4w
  obtain ⟨D1, hD1⟩ : ∃ D, ba (ownL R4 hdB) = D := ⟨_, rfl⟩
  obtain ⟨D2, hD2⟩ : ∃ D, ba (ownL R4 ddB) = D := ⟨_, rfl⟩
  obtain ⟨a, ha⟩ : ∃ a, isCrc (ownL R4 hdB) = a := ⟨_, rfl⟩
  obtain ⟨b, hb⟩ : ∃ b, isCrc (ownL R4 ddB) = b := ⟨_, rfl⟩
  have e1 : (D1.toList == [67, 82, 67, 51, 50, 67]) = a := by rw [toList_of, ← hD1]; exact ha
  have e2 : (D2.toList == [67, 82, 67, 51, 50, 67]) = b := by rw [toList_of, ← hD2]; exact hb
  have hdig : digOf R4 = digN a b := by unfold digOf; rw [ha, hb]
  have HD1 := Lib.hid hD1
  have HD2 := Lib.hid hD2
  have HDIG := Lib.hid hdig
  clear he hD1 hD2 ha hb hdig hN hN3
  go_wp2_with fail
  refine (nval_some g S4 own R4 hdB D1 r1 _ hN4 HR1.out HD1.out V4).mono ?_
  rintro e w5 ⟨rfl, hb5⟩
  have hN5 := hN4.on hb5
  have hb5w := below_step hb4w hb5
  have V5 := V.on hb5w
  clear hN4
  go_wp2_with fail
  refine (nval_some g S4 own R4 ddB D2 r2 _ hN5 HR2.out HD2.out V5).mono ?_
  rintro e w6 ⟨rfl, hb6⟩
  have hN6 := hN5.on hb6
  have hb6w := below_step hb5w hb6
  have V6 := V.on hb6w
  clear hN5
  have hdg := ndig_any g S4 own R4 _ hN6 V6
  rw [HDIG.out] at hdg
  have HDG := Lib.hid hdg
  clear hdg
  rcases a with _ | _ <;> rcases b with _ | _
  all_goals
    go_wp2_with fail
    refine HDG.out.mono ?_
    rintro e w7 ⟨rfl, hb7⟩
    go_wp2_with fail
    go_ret
    exact ⟨rfl, below_step hb6w hb7⟩
set_option maxRecDepth 20000 in
set_option maxHeartbeats 8000000 in
theorem twiceNego (own : PairL) (vo : Value) (off : PairL) (vf : Value) (which : Int) (w : World) (hv : SRd w vo 2 own.length (pairCells own)) (hd : ∀ p ∈ own, psmall p) (hv2 : SRd w vf 2 off.length (pairCells off)) (hd2 : ∀ p ∈ off, psmall p) (hw : -9223372036854775808 ≤ which ∧ which ≤ 9223372036854775807) (V : Env w) :
    Calls Tryz.prog 4 #[vo, vf, .int .i64 which] w fun e w' => e = .returned (.bool true) ∧ Below w.heap.size w w' := by
  go_enter Tryz.func4, Tryz.ntmps4
  go_wp2_with fail
  refine (settled_fact _ V).mono ?_
  rintro e w1 ⟨rfl, hb1⟩
  have V1 := V.on hb1
  go_wp2_with fail
  refine (made_any own _ _ (hv.on hb1) hd V1).mono ?_
  rintro e w2 ⟨hm, hb2⟩
  have hb2w := below_step hb1 hb2
  rcases hm with rfl | ⟨S, g, rfl, hN, hS, hnew⟩
  · go_wp2_with fail
    go_ret
    exact ⟨rfl, hb2w⟩
  have hS0 : ∀ k ∈ S, w.heap.size ≤ k := fun k hk => Nat.le_trans hb1.size (hS k hk)
  go_wp2_with fail
  refine (thick_any off _ _ (hv2.on hb2w) hd2).mono ?_
  rintro e w3 ⟨b, rfl, hb3⟩
  have hb3w := below_step hb2w hb3
  have hN3 := hN.on hb3
  rcases b with _ | _
  rotate_left
  · go_wp2_with fail
    go_ret
    exact ⟨rfl, hb3w⟩
  go_wp2_with fail
  refine (ans_arg g S own [] off true false _ w w3 V hb3w hN3 hS0 hv2 hd2 hnew (by simp) (.inl rfl)).mono ?_
  rintro e w4 he
  rcases hE : ansE [] off true with _ | E
  rotate_left
  · rw [hE] at he
    obtain ⟨⟨t, x, rfl, _⟩, hb4⟩ := he
    clear hE
    go_wp2_with fail
    go_ret
    exact ⟨rfl, below_step hb3w hb4⟩
  rw [hE] at he
  obtain ⟨S4, u, rfl, hu, hN4, hnf, hS4, _⟩ := he
  obtain ⟨hb4w, hS40⟩ := ans_after hb3w hS0 hnf hS4
  have V4 := V.on hb4w
  obtain ⟨R4, hR4⟩ : ∃ R, recL own true false [] off = R := ⟨_, rfl⟩
  have hlen := ans_len (own := own) (disc := false) hE
  have htw := ans_twice own false off hE
  have hsm := rec_small (own := own) (disc := false) hE
  obtain ⟨uA, ucap, rfl⟩ := hu.form
  rw [hR4] at hlen htw hN4 hsm
  have HSM := Lib.hid hsm
  have HT := Lib.hid htw
  clear hE htw hR4 hu hN hN3 hnf hS4 hsm
  go_wp2_with fail
  refine (nrec_any g S4 own R4 _ hN4 (by omega)).mono ?_
  rintro e w5 ⟨v5, rfl, hr5, hb5⟩
  have hN5 := hN4.on hb5
  have hb5w := below_step hb4w hb5
  have hrd5 := SRd.of_m hr5
  obtain ⟨A5, cap5, rfl, hc5, _⟩ := hr5.form
  obtain ⟨n, hn⟩ : ∃ n, R4.length = n := ⟨_, rfl⟩
  have HN := Lib.hid hn
  rw [hn] at hlen hc5
  rw [hn]
  have HRD := Lib.hid hrd5
  clear hn hr5 hN4 hrd5
  rcases Nat.eq_zero_or_pos n with rfl | hpos
  · go_wp2_with fail
    go_ret
    exact ⟨rfl, hb5w⟩
  obtain ⟨k, hk, hkn⟩ := pickE which n hpos
  obtain ⟨q, hq⟩ : ∃ q, R4[k]? = some q := ⟨_, List.getElem?_eq_getElem (by rw [HN.out]; exact hkn)⟩
  obtain ⟨b, o, cp, u0, u1, hvv, hbl, q0, q1, c0, c1⟩ := HRD.out.two (k := k) (by rw [HN.out]; exact hkn)
  have hcell := pairCells_at R4 k q hq
  rw [hcell.1] at q0
  rw [hcell.2] at q1
  obtain rfl := Option.some.inj q0
  obtain rfl := Option.some.inj q1
  injection hvv with g1 g2 g3
  subst g1
  subst g3
  have htq := HT.out q (List.mem_of_getElem? hq)
  obtain ⟨p1, p2⟩ := q
  simp only at c0 c1
  have HTQ := Lib.hid htq
  have hsq := HSM.out _ (List.mem_of_getElem? hq)
  have HSQ := Lib.hid hsq
  have HK := Lib.hid hk
  clear hcell hq htq hk g2 hsq
  have hn0 : ¬ (n : Int) = 0 := by omega
  have hkI : (k : Int) < (n : Int) := by omega
  go_wp2_with fail
  refine (pickK which n k HK.out hpos (by omega) _).mono ?_
  rintro e w5' ⟨rfl, rfl⟩
  have hgl := hN5.lt
  have hba : Below w5.heap.size w5 (w5.alloc (.cells #[.string p1, .string p2] 52)) := (Below.refl _ _).alloc (Nat.le_refl _) _
  have hb6w := below_step hb5w hba
  have hN6 := hN5.on hba
  have hrd6 := HRD.out.on hba
  clear hN5
  go_wp2_with fail
  refine (nanswer_any g S4 own R4 [(p1, p2)] true false _ _ w hN6 (SRd.litp (Blk.new w5 _ _) rfl (by rfl) (by show 1 ≤ _; unfold maxLen; omega)) (fun _ k hk hm => by have h8 := hgl k hm; injection hk with hk; have h9 : w5.heap.size = k := hk; omega) (fun p hp => by obtain rfl := List.mem_singleton.1 hp; exact HSQ.out) (own_ok hnew).1 (by rw [HN.out]; omega) (.inl rfl) V hb6w hS40).mono ?_
  rw [HTQ.out]
  rintro e w7 ⟨⟨t, x, rfl, hp⟩, hb7⟩
  obtain ⟨g2, hx, hBx, _⟩ := perr_tell hp
  injection hx with hx1 hx2
  subst hx1
  subst hx2
  have hb7w := below_step hb6w hb7
  have V7 := V.on hb7w
  have hN7 := hN6.on hb7
  have hrd7 := hrd6.on hb7
  clear hp hN6 hrd6 hgl c0 c1
  go_wp2_with fail
  refine (tell_at g2 _ _ _ V7.L hBx).mono ?_
  rintro e w8 ⟨rfl, hb8⟩
  have hb8w := below_step hb7w hb8
  have hN8 := hN7.on hb8
  have hrd8 := hrd7.on hb8
  clear hN7 hrd7 hBx
  go_wp2_with fail
  refine (nrec_any g S4 own R4 _ hN8 (by rw [HN.out]; omega)).mono ?_
  rintro e w9 ⟨v9, rfl, hr9, hb9⟩
  have hrd9 := hrd8.on hb9
  have hb9w := below_step hb8w hb9
  have hrr := SRd.of_m hr9
  obtain ⟨A9, cap9, rfl, _⟩ := hr9.form
  clear hr9 hN8 hrd8
  have heq := pequal_same R4 _ _ w9 hrd9 hrr
  rw [HN.out] at heq ⊢
  clear hrd9 hrr
  go_wp2_with fail
  refine heq.mono ?_
  rintro e w10 ⟨rfl, kq, rfl⟩
  go_wp2_with fail
  go_ret
  exact ⟨rfl, below_dK hb9w kq⟩
end Go.Proofs.YtadhlnpegigadaaGreatDoor
