/- The walk of NegoParts. -/
import Derived.Test.YtadhlnpegigadaaGreatDoorNegoTwo
import Derived.Test.YtadhlnpegigadaaGreatDoorConcatPair
namespace Go.Proofs.YtadhlnpegigadaaGreatDoor
open Go.ChangeShapes Go.WideShapes Go.ChangeAt Go.RowKit Go.Shelf
set_option linter.unusedVariables false
theorem own_blk {A : Option Addr} {n n' c c' k : Nat} (h : (Value.slice A n c).ownBlock = some k) : (Value.slice A n' c').ownBlock = some k := by
  rcases A with _ | a
  · cases h
  · exact h
theorem srd_post {w : World} {A : Option Addr} {cap : Nat} {l : PairL} (h : SRd w (.slice A l.length cap) 2 l.length (pairCells l)) (k : Nat) (hk : k ≤ l.length) :
    (cap = k → SRd w (.slice A (l.length - k) 0) 2 (l.drop k).length (pairCells (l.drop k))) ∧ (¬ cap = k → SRd w (.slice (Option.map (fun x => x.add (k * 2)) A) (l.length - k) (cap - k)) 2 (l.drop k).length (pairCells (l.drop k))) := by
  obtain ⟨h1, A', cap', hv, h2, h3, h4⟩ := h
  injection hv with e1 _ e3
  subst e1
  subst e3
  have hd : (l.drop k).length = l.length - k := List.length_drop
  refine ⟨fun hc => ?_, fun hc => ?_⟩
  · have h0 : l.length - k = 0 := by omega
    have hnil : l.drop k = [] := List.eq_nil_of_length_eq_zero (by omega)
    rw [hnil, h0]
    exact ⟨rfl, A, 0, rfl, Nat.le_refl _, by unfold maxLen; omega, fun h => absurd h (by simp)⟩
  · refine ⟨by rw [pairCells_len]; omega, _, _, by rw [hd], by omega, by omega, fun hpos => ?_⟩
    obtain ⟨b, o, hA, hb, hcl⟩ := h4 (by omega)
    subst hA
    refine ⟨b, o + k * 2, ?_, hb, fun j u hu => ?_⟩
    · show some ((⟨b, o, none⟩ : Addr).add (k * 2)) = _
      rw [Addr.add_lit]
    · have e : pairCells l = pairCells (l.take k) ++ pairCells (l.drop k) := by rw [← pairCells_append, List.take_append_drop]
      have e2 : (pairCells (l.take k)).length = k * 2 := by rw [pairCells_len, List.length_take]; omega
      have := hcl (k * 2 + j) u (by rw [e, List.getElem?_append_right (by omega), e2]; simpa using hu)
      rw [show o + k * 2 + j = o + (k * 2 + j) by omega]
      exact this
set_option maxRecDepth 20000 in
set_option maxHeartbeats 8000000 in
theorem partsNego (own : PairL) (vo : Value) (off : PairL) (vf : Value) (at_ : Int) (disc : Bool) (w : World) (hv : SRd w vo 2 own.length (pairCells own)) (hd : ∀ p ∈ own, psmall p) (hv2 : SRd w vf 2 off.length (pairCells off)) (hd2 : ∀ p ∈ off, psmall p) (hat : -9223372036854775808 ≤ at_ ∧ at_ ≤ 9223372036854775807)
    (hl1 : own.length * 32 ≤ 140737488351232) (hl2 : off.length * 32 ≤ 140737488351232) (V : Env w) :
    Calls Tryz.prog 14 #[vo, vf, .int .i64 at_, .bool disc] w fun e w' => e = .returned (.bool true) ∧ Below w.heap.size w w' := by
  go_enter Tryz.func14, Tryz.ntmps14
  go_wp2_with fail
  refine (settled_fact _ V).mono ?_
  rintro e w1 ⟨rfl, hb1⟩
  have V1 := V.on hb1
  go_wp2_with fail
  refine (made_any own _ _ (hv.on hb1) hd V1).mono ?_
  rintro e w2 ⟨hma, hb2⟩
  have hb2w := below_step hb1 hb2
  have V2 := V.on hb2w
  rcases hma with rfl | ⟨Sa, ga, rfl, hNa, hSa, hnew⟩
  · go_wp2_with fail
    refine (made_any own _ _ (hv.on hb2w) hd V2).mono ?_
    rintro e w3 ⟨hmb, hb3⟩
    rcases hmb with rfl | ⟨Sb, gb, rfl, hNb, hSb, _⟩
    · go_wp2_with fail
      go_ret
      exact ⟨rfl, below_step hb2w hb3⟩
    · go_wp2_with fail
      go_ret
      exact ⟨rfl, below_step hb2w hb3⟩
  go_wp2_with fail
  refine (made_any own _ _ (hv.on hb2w) hd V2).mono ?_
  rintro e w3 ⟨hmb, hb3⟩
  rcases hmb with rfl | ⟨Sb, gb, rfl, hNb, hSb, _⟩
  · go_wp2_with fail
    go_ret
    exact ⟨rfl, below_step hb2w hb3⟩
  have T3 : Two w w3 Sa Sb ga gb own [] [] [] := two_made hb1 hb2 hNa hSa hb3 hNb hSb
  clear hNa hNb hSa hSb
  go_wp2_with fail
  refine (thick_any off _ _ (hv2.on T3.b) hd2).mono ?_
  rintro e w4 ⟨b, rfl, hb4⟩
  have T4 := T3.on hb4
  rcases b with _ | _
  rotate_left
  · go_wp2_with fail
    go_ret
    exact ⟨rfl, T4.b⟩
  obtain ⟨A, cap, rfl⟩ : ∃ A cap, vf = .slice A off.length cap := by obtain ⟨_, A, cap, hv, _⟩ := hv2; exact ⟨A, cap, hv⟩
  obtain ⟨N, hN⟩ : ∃ N, off.length = N := ⟨_, rfl⟩
  obtain ⟨k, hk, hkN⟩ := pickE at_ (N + 1) (by omega)
  have hpk := fun W => pickK at_ (N + 1) k hk (by omega) (by omega) W
  have hN1 : ((N + 1 : Nat) : Int) = (N : Int) + 1 := by omega
  rw [hN1] at hpk
  rw [hN] at hl2
  have hNb : (N : Int) ≤ 4398046511104 := by omega
  have HPK := Lib.hid hpk
  have HV2 := Lib.hid hv2
  have HN := Lib.hid hN
  have harg := two_arg T4 off disc _ V hv2 hd2 hnew (by simp)
  have HARG := Lib.hid harg
  rw [hN]
  clear T3 hpk hN1 hv2 hN harg hk
  go_wp2_with fail
  refine (HPK.out _).mono ?_
  rintro e w4' ⟨rfl, rfl⟩
  have harg := HARG.out
  rw [HN.out] at harg
  go_wp2_with fail
  refine harg.mono ?_
  rintro e w5 he5
  obtain ⟨Sa5, u5, er5, rfl, hu5, ht5, T5, _⟩ := T4.ans he5
  clear he5 harg HARG
  rcases hE : ansE [] off true with _ | E
  rotate_left
  · have hX : ansX own [] off true disc = [] := by unfold ansX; rw [hE]
    have hRc : ansRc own [] off true disc = [] := by unfold ansRc; rw [hE]
    rw [hX] at hu5
    rw [hRc] at T5
    rw [hE] at ht5
    obtain ⟨t, x, rfl⟩ := ht5.iface (ansE_nz hE)
    obtain ⟨uA, ucap, rfl⟩ := hu5.form
    clear hX hRc hE ht5 hu5 T4
    go_wp2_with fail
    refine (nrec_any ga Sa5 own [] _ T5.na (by simp)).mono ?_
    rintro e w6 ⟨v6, rfl, hr6, hb6⟩
    have b6 := below_step T5.b hb6
    obtain ⟨A6, cap6, rfl, _⟩ := hr6.form
    clear hr6 T5
    go_wp2_with fail
    go_ret
    exact ⟨rfl, b6⟩
  obtain ⟨q1, q2, q3, q4⟩ := ans_parts own disc off k hE
  have hX : ansX own [] off true disc = saidL own true disc off := by unfold ansX; rw [hE]
  have hRc : ansRc own [] off true disc = recL own true disc [] off := by unfold ansRc; rw [hE]
  rw [hX] at hu5
  rw [hRc] at T5
  rw [hE] at ht5
  obtain rfl := ht5.nil
  have T5 := T5.less (L' := u5.ownBlock.toList) (fun k hk => by simp at hk ⊢; simp [hk])
  obtain ⟨n5, hn5⟩ : ∃ n, (saidL own true disc off).length = n := ⟨_, rfl⟩
  have hrd5 := hu5.rd
  have hkN2 : (k : Int) ≤ (N : Int) := by omega
  have hkc : (k : Int) ≤ (cap : Int) := by
    obtain ⟨_, A', cap', hx, h2, h3, _⟩ := HV2.out
    injection hx with _ e2 e3
    have := HN.out
    have h2' : off.length ≤ cap' := h2
    omega
  have hpre := srd_pre (HV2.out.on T5.b) k (by rw [HN.out]; omega)
  have hfar := srd_far HV2.out T5.sb
  have hans := nanswer_any gb Sb own [] (off.take k) true disc (.slice A k cap) w5 w T5.nb hpre (fun h1 k1 hk1 => hfar (by rw [List.length_take] at h1; omega) k1 (own_blk hk1)) (fun p hp => hd2 p (List.mem_of_mem_take hp)) (own_ok hnew).1 (by simp) (.inl rfl) V T5.b T5.sb
  have HANS := Lib.hid hans
  have H60 : Hid (N ≤ 60) := Lib.hid (by rw [← HN.out]; exact (ansE_nil hE).1)
  have HRL : Hid ((recL own true disc [] off).length ≤ 60) := Lib.hid (ans_len hE)
  have HKC : Hid (N ≤ cap) := Lib.hid (by obtain ⟨_, A', cap', hx, h2, h3, _⟩ := HV2.out; injection hx with _ e2 e3; have := HN.out; have h2' : off.length ≤ cap' := h2; omega)
  have HQ1 := Lib.hid q1
  have HQ2 := Lib.hid q2
  have HQ3 := Lib.hid q3
  have HQ4 := Lib.hid q4
  have HX := Lib.hid hX
  clear hX hRc hE ht5 T4 q1 q2 q3 q4 hpre hfar hans
  go_wp2_with fail
  refine HANS.out.mono ?_
  rintro e w6 he6
  obtain ⟨Sb6, u6, er6, rfl, hu6, ht6, T6, hk6⟩ := T5.swap.ans he6
  have hu5 := hu5.keepL hk6 (fun k hk => by simp [hk])
  rw [HQ1.out] at ht6
  obtain rfl := ht6.nil
  have hX6 : ansX own [] (off.take k) true disc = saidL own true disc (off.take k) := by unfold ansX; rw [HQ1.out]
  have hR6 : ansRc own [] (off.take k) true disc = recL own true disc [] (off.take k) := by unfold ansRc; rw [HQ1.out]
  rw [hX6] at hu6
  rw [hR6] at T6
  clear he6 T5 hk6 ht6 hX6 hR6
  have hpost := srd_post (HV2.out.on T6.b) k (by rw [HN.out]; omega)
  have hpost0 := srd_post HV2.out k (by rw [HN.out]; omega)
  rw [HN.out] at hpost hpost0
  have HPOST := Lib.hid hpost
  have HP0 := Lib.hid hpost0
  clear hpost hpost0
  by_cases hck : cap = k
  · obtain rfl : k = cap := hck.symm
    have hans := nanswer_any gb Sb6 own (recL own true disc [] (off.take k)) (off.drop k) true disc (.slice A (N - k) 0) w6 w T6.na (HPOST.out.1 rfl) (srd_far (HP0.out.1 rfl) T6.sa) (fun p hp => hd2 p (List.mem_of_mem_drop hp)) (own_ok hnew).1 (by have h1 := recL_len own true disc (off.take k) []; have h2 : (off.take k).length ≤ k := List.length_take_le _ _; have h3 : ([] : PairL).length = 0 := rfl; have h4 := H60.out; omega) (.inl rfl) V T6.b T6.sa
    have hdl : (off.drop k).length = N - k := by rw [List.length_drop, HN.out]
    have HANS := Lib.hid hans
    clear hans hdl
    go_wp2_with fail
    refine HANS.out.mono ?_
    rintro e w7 he7
    obtain ⟨Sb7, u7, er7, rfl, hu7, ht7, T7, hk7⟩ := T6.ans he7
    have hu5 := hu5.keepL hk7 (fun k hk => by simp [hk])
    have hu6 := hu6.keepL hk7 (fun k hk => by simp [hk])
    rw [HQ2.out] at ht7
    obtain rfl := ht7.nil
    have hX7 : ansX own (recL own true disc [] (off.take k)) (off.drop k) true disc = saidL own true disc (off.drop k) := by unfold ansX; rw [HQ2.out]
    have hR7 : ansRc own (recL own true disc [] (off.take k)) (off.drop k) true disc = recL own true disc [] off := by unfold ansRc; rw [HQ2.out]; exact HQ4.out
    rw [hX7] at hu7
    rw [hR7] at T7
    have hx5 := hu5.rd
    have hx6 := hu6.rd
    have hx7 := hu7.rd
    obtain ⟨A5, cap5, rfl⟩ := hu5.form
    obtain ⟨A6, cap6, rfl⟩ := hu6.form
    obtain ⟨A7, cap7, rfl⟩ := hu7.form
    have l6 := saidL_len own true disc (off.take k)
    have l7 := saidL_len own true disc (off.drop k)
    have l6' : (saidL own true disc (off.take k)).length ≤ 10000 := by rw [List.length_take] at l6; have := H60.out; omega
    have l7' : (saidL own true disc (off.drop k)).length ≤ 10000 := by rw [List.length_drop] at l7; have := H60.out; have := HN.out; omega
    obtain ⟨LX, hLX⟩ : ∃ x, saidL own true disc (off.take k) = x := ⟨_, rfl⟩
    obtain ⟨LY, hLY⟩ : ∃ x, saidL own true disc (off.drop k) = x := ⟨_, rfl⟩
    obtain ⟨LA, hLA⟩ : ∃ x, saidL own true disc off = x := ⟨_, rfl⟩
    obtain ⟨RA, hRA⟩ : ∃ x, recL own true disc [] off = x := ⟨_, rfl⟩
    have hq3 := HQ3.out
    rw [hLX, hLY, hLA] at hq3
    rw [hLX] at hx6 l6' ⊢
    rw [hLY] at hx7 l7' ⊢
    rw [hLA] at hx5 ⊢
    rw [hRA] at T7
    have hrl : RA.length ≤ 60 := by rw [← hRA]; exact HRL.out
    have HQ := Lib.hid hq3
    have T7 := T7.swap
    have hba : Below w7.heap.size w7 (w7.alloc (.cells #[.slice A6 LX.length cap6, .slice A7 LY.length cap7] 27)) := (Below.refl _ _).alloc (Nat.le_refl _) _
    have hBa := Blk.new w7 27 #[.slice A6 LX.length cap6, .slice A7 LY.length cap7]
    have hcc := concat_any _ _ LX LY w7.heap.size _ (hx6.on hba) (hx7.on hba) l6' l7' (hBa.cell 0) (hBa.cell 1) (by simp)
    have T8 := T7.on hba
    have hx5 := hx5.on hba
    have HCC := Lib.hid hcc
    clear he7 T6 T7 hk7 hu5 hu6 hu7 ht7 hX7 hR7 hx6 hx7 l6 l7 l6' l7' hLX hLY hLA hRA hq3 hcc HANS
    go_wp2_with fail
    refine HCC.out.mono ?_
    rintro e w9 ⟨u9, rfl, hr9, hb9⟩
    have T9 := T8.on hb9
    have hx5 := hx5.on hb9
    have hx9 := SRd.of_m hr9
    rw [HQ.out] at hx9
    obtain ⟨A9, cap9, rfl, _⟩ := MRow.form hr9
    have hl9 : (LX ++ LY).length = LA.length := by rw [HQ.out]
    rw [hl9] at hx9 ⊢
    clear hr9 T8 hba hBa hl9 HCC
    go_wp2_with fail
    refine (pequal_same LA _ _ _ hx5 hx9).mono ?_
    rintro e w10 ⟨rfl, kq, hw10⟩
    have hb10 : Below w9.heap.size w9 w10 := by rw [hw10]; exact below_dK (Below.refl _ _) kq
    have T10 := T9.on hb10
    clear hw10 hx5 hx9 T9
    go_wp2_with fail
    refine (nrec_any ga Sa5 own RA _ T10.na (by omega)).mono ?_
    rintro e w20 ⟨v20, rfl, hr20, hb20⟩
    have T20 := T10.on hb20
    have hrd20 := SRd.of_m hr20
    obtain ⟨A20, cap20, rfl, _⟩ := hr20.form
    clear hr20 T10
    go_wp2_with fail
    refine (nrec_any gb Sb7 own RA _ T20.nb (by omega)).mono ?_
    rintro e w21 ⟨v21, rfl, hr21, hb21⟩
    have hrd21 := SRd.of_m hr21
    have hrd20 := hrd20.on hb21
    have b21 := (T20.on hb21).b
    obtain ⟨A21, cap21, rfl, _⟩ := hr21.form
    clear hr21 T20
    go_wp2_with fail
    refine (pequal_same RA _ _ _ hrd20 hrd21).mono ?_
    rintro e w22 ⟨rfl, kr, rfl⟩
    go_wp2_with fail
    go_ret
    exact ⟨rfl, below_dK b21 kr⟩
  · have hck2 : ¬ k = cap := fun h => hck h.symm
    have hans := nanswer_any gb Sb6 own (recL own true disc [] (off.take k)) (off.drop k) true disc (.slice (Option.map (fun x => x.add (k * 2)) A) (N - k) (cap - k)) w6 w T6.na (HPOST.out.2 hck) (srd_far (HP0.out.2 hck) T6.sa) (fun p hp => hd2 p (List.mem_of_mem_drop hp)) (own_ok hnew).1 (by have h1 := recL_len own true disc (off.take k) []; have h2 : (off.take k).length ≤ k := List.length_take_le _ _; have h3 : ([] : PairL).length = 0 := rfl; have h4 := H60.out; omega) (.inl rfl) V T6.b T6.sa
    have hdl : (off.drop k).length = N - k := by rw [List.length_drop, HN.out]
    have HANS := Lib.hid hans
    clear hans hdl
    go_wp2_with fail
    refine HANS.out.mono ?_
    rintro e w7 he7
    obtain ⟨Sb7, u7, er7, rfl, hu7, ht7, T7, hk7⟩ := T6.ans he7
    have hu5 := hu5.keepL hk7 (fun k hk => by simp [hk])
    have hu6 := hu6.keepL hk7 (fun k hk => by simp [hk])
    rw [HQ2.out] at ht7
    obtain rfl := ht7.nil
    have hX7 : ansX own (recL own true disc [] (off.take k)) (off.drop k) true disc = saidL own true disc (off.drop k) := by unfold ansX; rw [HQ2.out]
    have hR7 : ansRc own (recL own true disc [] (off.take k)) (off.drop k) true disc = recL own true disc [] off := by unfold ansRc; rw [HQ2.out]; exact HQ4.out
    rw [hX7] at hu7
    rw [hR7] at T7
    have hx5 := hu5.rd
    have hx6 := hu6.rd
    have hx7 := hu7.rd
    obtain ⟨A5, cap5, rfl⟩ := hu5.form
    obtain ⟨A6, cap6, rfl⟩ := hu6.form
    obtain ⟨A7, cap7, rfl⟩ := hu7.form
    have l6 := saidL_len own true disc (off.take k)
    have l7 := saidL_len own true disc (off.drop k)
    have l6' : (saidL own true disc (off.take k)).length ≤ 10000 := by rw [List.length_take] at l6; have := H60.out; omega
    have l7' : (saidL own true disc (off.drop k)).length ≤ 10000 := by rw [List.length_drop] at l7; have := H60.out; have := HN.out; omega
    obtain ⟨LX, hLX⟩ : ∃ x, saidL own true disc (off.take k) = x := ⟨_, rfl⟩
    obtain ⟨LY, hLY⟩ : ∃ x, saidL own true disc (off.drop k) = x := ⟨_, rfl⟩
    obtain ⟨LA, hLA⟩ : ∃ x, saidL own true disc off = x := ⟨_, rfl⟩
    obtain ⟨RA, hRA⟩ : ∃ x, recL own true disc [] off = x := ⟨_, rfl⟩
    have hq3 := HQ3.out
    rw [hLX, hLY, hLA] at hq3
    rw [hLX] at hx6 l6' ⊢
    rw [hLY] at hx7 l7' ⊢
    rw [hLA] at hx5 ⊢
    rw [hRA] at T7
    have hrl : RA.length ≤ 60 := by rw [← hRA]; exact HRL.out
    have HQ := Lib.hid hq3
    have T7 := T7.swap
    have hba : Below w7.heap.size w7 (w7.alloc (.cells #[.slice A6 LX.length cap6, .slice A7 LY.length cap7] 27)) := (Below.refl _ _).alloc (Nat.le_refl _) _
    have hBa := Blk.new w7 27 #[.slice A6 LX.length cap6, .slice A7 LY.length cap7]
    have hcc := concat_any _ _ LX LY w7.heap.size _ (hx6.on hba) (hx7.on hba) l6' l7' (hBa.cell 0) (hBa.cell 1) (by simp)
    have T8 := T7.on hba
    have hx5 := hx5.on hba
    have HCC := Lib.hid hcc
    clear he7 T6 T7 hk7 hu5 hu6 hu7 ht7 hX7 hR7 hx6 hx7 l6 l7 l6' l7' hLX hLY hLA hRA hq3 hcc HANS
    go_wp2_with fail
    refine HCC.out.mono ?_
    rintro e w9 ⟨u9, rfl, hr9, hb9⟩
    have T9 := T8.on hb9
    have hx5 := hx5.on hb9
    have hx9 := SRd.of_m hr9
    rw [HQ.out] at hx9
    obtain ⟨A9, cap9, rfl, _⟩ := MRow.form hr9
    have hl9 : (LX ++ LY).length = LA.length := by rw [HQ.out]
    rw [hl9] at hx9 ⊢
    clear hr9 T8 hba hBa hl9 HCC
    go_wp2_with fail
    refine (pequal_same LA _ _ _ hx5 hx9).mono ?_
    rintro e w10 ⟨rfl, kq, hw10⟩
    have hb10 : Below w9.heap.size w9 w10 := by rw [hw10]; exact below_dK (Below.refl _ _) kq
    have T10 := T9.on hb10
    clear hw10 hx5 hx9 T9
    go_wp2_with fail
    refine (nrec_any ga Sa5 own RA _ T10.na (by omega)).mono ?_
    rintro e w20 ⟨v20, rfl, hr20, hb20⟩
    have T20 := T10.on hb20
    have hrd20 := SRd.of_m hr20
    obtain ⟨A20, cap20, rfl, _⟩ := hr20.form
    clear hr20 T10
    go_wp2_with fail
    refine (nrec_any gb Sb7 own RA _ T20.nb (by omega)).mono ?_
    rintro e w21 ⟨v21, rfl, hr21, hb21⟩
    have hrd21 := SRd.of_m hr21
    have hrd20 := hrd20.on hb21
    have b21 := (T20.on hb21).b
    obtain ⟨A21, cap21, rfl, _⟩ := hr21.form
    clear hr21 T20
    go_wp2_with fail
    refine (pequal_same RA _ _ _ hrd20 hrd21).mono ?_
    rintro e w22 ⟨rfl, kr, rfl⟩
    go_wp2_with fail
    go_ret
    exact ⟨rfl, below_dK b21 kr⟩
end Go.Proofs.YtadhlnpegigadaaGreatDoor
