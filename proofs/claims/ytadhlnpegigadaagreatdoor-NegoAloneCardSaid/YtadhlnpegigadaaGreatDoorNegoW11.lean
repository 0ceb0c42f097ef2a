/- The walk of NegoAlone. -/
import Derived.Test.YtadhlnpegigadaaGreatDoorNegoW4
namespace Go.Proofs.YtadhlnpegigadaaGreatDoor
open Go.ChangeShapes Go.WideShapes Go.ChangeAt Go.RowKit Go.Shelf
set_option linter.unusedVariables false
set_option linter.unusedSimpArgs false
theorem one_ansE {p : ByteArray × ByteArray} (hp : pRightR [p] = none) : ansE [] [p] true = none := by
  have := (pRightR_iff [p]).1 hp
  exact (ansE_none _ _ _).2 ⟨this.1, this.2, fun _ _ _ => rfl, by simp [KD]⟩
theorem one_said (own : PairL) (p : ByteArray × ByteArray) : saidL own true false [p] = one p.1 (ansP own true false p).1 := by
  unfold saidL
  rw [List.flatMap_cons]
  simp [saidP]
theorem one_rec (own : PairL) (p : ByteArray × ByteArray) : recL own true false [] [p] = one p.1 (ansP own true false p).2 := by
  show addB [] p.1 _ = _
  unfold addB one
  split
  · rfl
  · rfl
theorem alone_none {own : PairL} {p : ByteArray × ByteArray} (h : keyRow (kB p) = none) : ansP own true false p = (notU, []) := by
  unfold ansP
  rw [h]
theorem alone_told {own : PairL} {p : ByteArray × ByteArray} {r : KeyR} (h : keyRow (kB p) = some r) (h6 : r.kind = 6 ∨ r.kind = 7) : ansP own true false p = if fitsE (kB p) (vB p) = 0 then ([], vB p) else (rejB, []) := by
  unfold ansP
  rw [h]
  show ansR own true false r p = _
  unfold ansR
  rw [if_neg (by simp), if_neg (by simp)]
  by_cases hf : fitsE (kB p) (vB p) = 0
  · rw [if_neg (by simp [hf]), if_pos h6, if_pos hf]
  · rw [if_pos hf, if_neg hf]
theorem alone_res {own : PairL} {p : ByteArray × ByteArray} {r : KeyR} (h : keyRow (kB p) = some r) (h6 : ¬ (r.kind = 6 ∨ r.kind = 7)) : ansP own true false p = match resE (kB p) (vB p) (ownL own p.1) with
    | .inl _ => (rejB, [])
    | .inr s => (s, s) := by
  unfold ansP
  rw [h]
  show ansR own true false r p = _
  unfold ansR
  rw [if_neg (by simp), if_neg (by simp)]
  by_cases hf : fitsE (kB p) (vB p) = 0
  · rw [if_neg (by simp [hf]), if_neg h6]
    rcases resE (kB p) (vB p) (ownL own p.1) with c | s <;> rfl
  · have hfr : fitsR r (vB p) ≠ 0 := by
      unfold fitsE at hf
      rw [h] at hf
      exact hf
    have : resE (kB p) (vB p) (ownL own p.1) = .inl (fitsR r (vB p)) := by
      unfold resE
      rw [h]
      show (if fitsR r (vB p) ≠ 0 then _ else _) = _
      rw [if_pos hfr]
    rw [this, if_pos hf]
set_option maxRecDepth 20000 in
set_option maxHeartbeats 8000000 in
theorem aloneNego (own : PairL) (vo : Value) (p : ByteArray × ByteArray) (w : World) (hv : SRd w vo 2 own.length (pairCells own)) (hd : ∀ p ∈ own, psmall p) (hp1 : p.1.size ≤ 140737488351232) (hp2 : p.2.size ≤ 140737488351232) (V : Env w) :
    Calls Tryz.prog 15 #[vo, .agg #[.string p.1, .string p.2]] w fun e w' => e = .returned (.bool true) ∧ Below w.heap.size w w' := by
  obtain ⟨k, v⟩ := p
  simp only at hp1 hp2
  obtain ⟨z, hz⟩ : ∃ z, w.heap.size = z := ⟨_, rfl⟩
  obtain ⟨W0, hW0⟩ : ∃ W0 : World, w.alloc (.cells #[.string k, .string v] 52) = W0 := ⟨_, rfl⟩
  have hb0 : Below w.heap.size w W0 := by rw [← hW0]; exact (Below.refl _ _).alloc (Nat.le_refl _) _
  have hB0 : Blk W0 z 52 #[.string k, .string v] := by rw [← hW0, ← hz]; exact Blk.new w _ _
  have HZ := Lib.hid hz
  go_enter Tryz.func15, Tryz.ntmps15
  go_wp2_with fail
  clear hW0
  refine (settled_fact _ (V.on hb0)).mono ?_
  rintro e w1 ⟨rfl, hb1⟩
  have hb1w := below_step hb0 hb1
  have V1 := V.on hb1w
  go_wp2_with fail
  refine (keyed_fact _ V1).mono ?_
  rintro e w2 ⟨rfl, hb2⟩
  have hb2w := below_step hb1w hb2
  have V2 := V.on hb2w
  go_wp2_with fail
  refine (paired_fact _ V2.L V2.S).mono ?_
  rintro e w3 ⟨rfl, hb3⟩
  have hb3w := below_step hb2w hb3
  have V3 := V.on hb3w
  have hB3 := ((hB0.below hb1 hB0.lt).below hb2 (hB0.below hb1 hB0.lt).lt).below hb3 ((hB0.below hb1 hB0.lt).below hb2 (hB0.below hb1 hB0.lt).lt).lt
  go_wp2_with fail
  refine (made_any own _ _ (hv.on hb3w) hd V3).mono ?_
  rintro e w4 ⟨hm, hb4⟩
  have hb4w := below_step hb3w hb4
  have V4 := V.on hb4w
  have hB4 := hB3.below hb4 hB3.lt
  have HZ3 : Hid (z < w3.heap.size) := Lib.hid hB3.lt
  clear hB0 hB3
  have hbz : ∀ W, Below w.heap.size w W → Below z w W := fun W h => by rw [← HZ.out]; exact h
  rcases hm with rfl | ⟨S, g, rfl, hN, hS, hnew⟩
  · go_wp2_with fail
    go_ret
    exact ⟨rfl, by first | exact hb4w | exact hbz _ hb4w⟩
  have hB4z : Hid (z < w3.heap.size) := HZ3
  have hS0 : ∀ k ∈ S, w.heap.size ≤ k := fun k hk => Nat.le_trans hb3w.size (hS k hk)
  have p0 := hB4.cell 0
  have p1 := hB4.cell 1
  have hba : Below w4.heap.size w4 (w4.alloc (.cells #[.string k, .string v] 52)) := (Below.refl _ _).alloc (Nat.le_refl _) _
  have hsm1 : ∀ p ∈ ([(k, v)] : PairL), psmall p := fun p hp => by obtain rfl := List.mem_singleton.1 hp; exact ⟨hp1, hp2⟩
  go_wp2_with fail
  refine (pRight_any [(k, v)] _ _ (SRd.litp (Blk.new w4 _ _) rfl (by rfl) (by show 1 ≤ _; unfold maxLen; omega)) hsm1).mono ?_
  rintro e w5 ⟨er, rfl, he, hb5⟩
  have hb5w := below_step (below_step hb4w hba) hb5
  have hB5 := (hB4.below hba hB4.lt).below hb5 (hB4.below hba hB4.lt).lt
  have hN5 := (hN.on hba).on hb5
  clear p0 p1
  rcases hpr : pRightR [(k, v)] with _ | E
  rotate_left
  · rw [hpr] at he
    obtain ⟨t, x, rfl⟩ := perr_iface hpr he
    clear he hpr
    go_wp2_with fail
    go_ret
    exact ⟨rfl, by first | exact hb5w | exact hbz _ hb5w⟩
  rw [hpr] at he
  obtain rfl : er = .nilIface := he
  have hvz : v.size ≤ 255 := by have := valB_len (((pRightR_iff [(k, v)]).1 hpr).2 (k, v) (by simp)).2; unfold vB at this; rw [len_of] at this; exact this
  have hE := one_ansE hpr
  have hX := one_said own (k, v)
  have hR := one_rec own (k, v)
  have V5 := V.on hb5w
  have z0 := hB5.cell 0
  have z1 := hB5.cell 1
  have HE := Lib.hid hE
  have HSM := Lib.hid hsm1
  clear hpr hE hB4 hba hN hsm1
  rcases hk : keyRow k.data.toList with _ | r
  · have ha := alone_none (own := own) (p := (k, v)) hk
    rw [ha] at hX hR
    simp only at hX hR
    rw [one_some _ notU_ne] at hX
    rw [one_nil] at hR
    have hX : saidL own true false [(k, v)] = [(k, ⟨#[78, 111, 116, 85, 110, 100, 101, 114, 115, 116, 111, 111, 100]⟩)] := hX
    have HX := Lib.hid hX
    have HR := Lib.hid hR
    have HK := Lib.hid hk
    clear ha hX hR hk
    have hown := nown_any g S own [] k _ hN5 V5
    rw [HK.out] at hown
    go_wp2_with fail
    refine hown.mono ?_
    rintro e w6 ⟨rfl, hb6⟩
    unfold ownV
    have hb6w := below_step hb5w hb6
    have hB6 := hB5.below hb6 hB5.lt
    have hN6 := hN5.on hb6
    have y0 := hB6.cell 0
    have y1 := hB6.cell 1
    have h6l := hN6.lt
    have hba6 : Below w6.heap.size w6 (w6.alloc (.cells #[.string k, .string v] 52)) := (Below.refl _ _).alloc (Nat.le_refl _) _
    have hb6a := below_step hb6w hba6
    have hNa := hN6.on hba6
    clear z0 z1 hN5
    go_wp2_with fail
    refine (nanswer_any g S own [] [(k, v)] true false _ _ w hNa (SRd.litp (Blk.new w6 _ _) rfl (by rfl) (by show 1 ≤ _; unfold maxLen; omega)) (fun _ k1 hk1 hm => by have h8 := h6l k1 hm; injection hk1 with hk1; have h9 : w6.heap.size = k1 := hk1; omega) HSM.out (own_ok hnew).1 (by simp) (.inl rfl) V hb6a hS0).mono ?_
    rw [HE.out]
    rintro e w7 ⟨S7, u7, rfl, hu7, hN7, hnf7, hS7, hdu7⟩
    have hb7w := (ans_after hb6a hS0 hnf7 hS7).1
    have hzS : z ∉ S := fun hm => by have h1 := hS z hm; have h2 := hB4z.out; omega
    have hB7 : Blk w7 z 52 #[.string k, .string v] := (hnf7.block z (by simp; exact Nat.lt_succ_of_lt hB6.lt) hzS).trans (hB6.below hba6 hB6.lt)
    rw [HX.out] at hu7
    rw [HR.out] at hN7
    have hx7 := hu7.rd
    obtain ⟨uA7, ucap7, rfl⟩ := hu7.form
    clear hu7 hnf7 hS7 hdu7 hNa y0 y1 h6l hN6 hzS
    have V7 := V.on hb7w
    have z0 := hB7.cell 0
    have z1 := hB7.cell 1
    go_wp2_with fail
    refine (pair_any k ⟨#[78, 111, 116, 85, 110, 100, 101, 114, 115, 116, 111, 111, 100]⟩ _).mono ?_
    rintro e w8 ⟨rfl, hb8⟩
    have hb78 : Below w7.heap.size w7 w8 := by first | exact hb8 | exact hb7x hb8
    have hx8 := hx7.on hb78
    have hN8 := hN7.on hb78
    have b8 := below_step hb7w hb78
    have hba8 : Below w8.heap.size w8 (w8.alloc (.cells #[.string k, .string ⟨#[78, 111, 116, 85, 110, 100, 101, 114, 115, 116, 111, 111, 100]⟩] 52)) := (Below.refl _ _).alloc (Nat.le_refl _) _
    clear hx7 hN7
    go_wp2_with fail
    refine (pequal_same [(k, ⟨#[78, 111, 116, 85, 110, 100, 101, 114, 115, 116, 111, 111, 100]⟩)] _ _ _ (hx8.on hba8) (SRd.litp (Blk.new w8 _ _) rfl (by rfl) (by show 1 ≤ _; unfold maxLen; omega))).mono ?_
    rintro e w10 ⟨rfl, kq, hw10⟩
    have hb810 : Below w8.heap.size w8 w10 := by rw [hw10]; exact below_dK hba8 kq
    have hN10 := hN8.on hb810
    have hx10 := hx8.on hb810
    have b10 := below_step b8 hb810
    clear hw10 hN8 hx8
    go_wp2_with fail
    refine (nrec_any g S7 own [] _ hN10 (by simp)).mono ?_
    rintro e w11 ⟨v11, rfl, hr11, hb11⟩
    obtain ⟨A11, cap11, rfl, _⟩ := hr11.form
    have b11 := below_step b10 hb11
    clear hr11 hN10 hx10
    go_wp2_with fail
    go_ret
    exact ⟨rfl, by first | exact b11 | exact hbz _ b11⟩
  · obtain ⟨K, hK⟩ : ∃ K : Int, (r.kind : Int) = K := ⟨_, rfl⟩
    obtain ⟨D, hD⟩ : ∃ D, ba (dfl r) = D := ⟨_, rfl⟩
    obtain ⟨O, hO⟩ : ∃ O, ba (ownL own k) = O := ⟨_, rfl⟩
    have hOs : O.size ≤ 255 := by rw [← hO]; exact nown_len (own_ok hnew).1 k
    have hOl : ownL own k = O.data.toList := by rw [← hO]; rfl
    have HK := Lib.hid hk
    have HKK := Lib.hid hK
    have HD := Lib.hid hD
    have HO := Lib.hid hO
    clear hD hO
    go_wp2_with fail
    refine (nown_some g S own [] k O r _ hN5 HK.out HO.out V5).mono ?_
    rintro e w6 ⟨rfl, hb6⟩
    by_cases h67 : r.kind = 6 ∨ r.kind = 7
    · have ha := alone_told (own := own) (p := (k, v)) hk h67
      have hK67 : K = 6 ∨ K = 7 := by omega
      obtain ⟨F, hF⟩ : ∃ F, fitsE k.data.toList v.data.toList = F := ⟨_, rfl⟩
      have hFk : fitsE (kB (k, v)) (vB (k, v)) = F := hF
      rw [hFk] at ha
      have HF := Lib.hid hF
      rcases Nat.eq_zero_or_pos F with rfl | hpos
      · rw [if_pos rfl] at ha
        rw [ha] at hX hR
        simp only at hX hR
        rw [one_nil] at hX
        have hvn : vB (k, v) ≠ [] := fits_ne hFk
        rw [one_some _ hvn] at hR
        have hR : recL own true false [] [(k, v)] = [(k, v)] := by rw [hR]; show [(k, ba v.data.toList)] = _; rw [ba_of]
        have HX := Lib.hid hX
        have HR := Lib.hid hR
        clear ha hX hR hk hF hFk hvn hOl
        have hb6w := below_step hb5w hb6
        have hB6 := hB5.below hb6 hB5.lt
        have hN6 := hN5.on hb6
        have y0 := hB6.cell 0
        have y1 := hB6.cell 1
        have h6l := hN6.lt
        have hba6 : Below w6.heap.size w6 (w6.alloc (.cells #[.string k, .string v] 52)) := (Below.refl _ _).alloc (Nat.le_refl _) _
        have hb6a := below_step hb6w hba6
        have hNa := hN6.on hba6
        clear z0 z1 hN5
        go_wp2_with fail
        refine (nanswer_any g S own [] [(k, v)] true false _ _ w hNa (SRd.litp (Blk.new w6 _ _) rfl (by rfl) (by show 1 ≤ _; unfold maxLen; omega)) (fun _ k1 hk1 hm => by have h8 := h6l k1 hm; injection hk1 with hk1; have h9 : w6.heap.size = k1 := hk1; omega) HSM.out (own_ok hnew).1 (by simp) (.inl rfl) V hb6a hS0).mono ?_
        rw [HE.out]
        rintro e w7 ⟨S7, u7, rfl, hu7, hN7, hnf7, hS7, hdu7⟩
        have hb7w := (ans_after hb6a hS0 hnf7 hS7).1
        have hzS : z ∉ S := fun hm => by have h1 := hS z hm; have h2 := hB4z.out; omega
        have hB7 : Blk w7 z 52 #[.string k, .string v] := (hnf7.block z (by simp; exact Nat.lt_succ_of_lt hB6.lt) hzS).trans (hB6.below hba6 hB6.lt)
        rw [HX.out] at hu7
        rw [HR.out] at hN7
        have hx7 := hu7.rd
        obtain ⟨uA7, ucap7, rfl⟩ := hu7.form
        clear hu7 hnf7 hS7 hdu7 hNa y0 y1 h6l hN6 hzS
        have V7 := V.on hb7w
        have z0 := hB7.cell 0
        have z1 := hB7.cell 1
        go_wp2_with fail
        refine (of_some k r K D _ _ _ HK.out HKK.out HD.out rfl rfl V7.T).mono ?_
        rintro e w8 ⟨rfl, hb8⟩
        have hbK : Below w8.heap.size w8 (w8.alloc (.cells #[.string ⟨r.name.toArray⟩, .int .i64 K, .int .i64 r.low, .int .i64 r.high, .string D, .bool r.noth, .bool r.lonly] 58)) := (Below.refl _ _).alloc (Nat.le_refl _) _
        have hBk := Blk.new w8 58 #[.string ⟨r.name.toArray⟩, .int .i64 K, .int .i64 r.low, .int .i64 r.high, .string D, .bool r.noth, .bool r.lonly]
        obtain ⟨y, hy⟩ : ∃ y, w8.heap.size = y := ⟨_, rfl⟩
        rw [hy] at hBk
        have hb79 := below_step hb8 hbK
        have hB9 := hB7.below hb79 hB7.lt
        have b9 := below_step hb7w hb79
        have V9 := V.on b9
        have hzy : z ≠ y := by have := hB7.lt; have := hb8.size; omega
        have hb7x : ∀ {W : World}, Below (w8.alloc (.cells #[.string ⟨r.name.toArray⟩, .int .i64 K, .int .i64 r.low, .int .i64 r.high, .string D, .bool r.noth, .bool r.lonly] 58)).heap.size (w8.alloc (.cells #[.string ⟨r.name.toArray⟩, .int .i64 K, .int .i64 r.low, .int .i64 r.high, .string D, .bool r.noth, .bool r.lonly] 58)) W → Below w7.heap.size w7 W := fun h => below_step hb79 h
        clear z0 z1
        have k1 := hBk.cell 1
        have z0 := hB9.cell 0
        have z1 := hB9.cell 1
        rcases hK67 with rfl | rfl
        · go_wp2_with fail
          refine (fits_any k v _ (by omega) V9.T V9.E V9.S).mono ?_
          rintro e w10 ⟨rfl, hb10⟩
          rw [HF.out]
          have hb710 := hb7x hb10
          have b10 := below_step hb7w hb710
          have hB10 := hB9.below hb10 hB9.lt
          clear z0 z1 k1 hb7x
          have z0 := hB10.cell 0
          have z1 := hB10.cell 1
          have hzl := hB10.lt
          have hx10 := hx7.on hb710
          have hN10 := hN7.on hb710
          have he0 : errv 0 = .nilIface := rfl
          rw [he0]
          have hbA : Below w10.heap.size w10 w10.drew := (Below.refl _ _).drew
          have hbB : Below w10.heap.size w10 ((w10.drew).alloc (.cells #[.string k, .string v] 52)) := hbA.alloc (Nat.le_refl _) _
          have hbB2 : Below w10.heap.size w10 ((w10.drew).alloc (.cells #[.string k, .string v] 52)).drew := hbB.drew
          have hNA := hN10.on hbA
          have hNB := hN10.on hbB
          have hNB2 := hN10.on hbB2
          have hlB : Blk ((w10.drew).alloc (.cells #[.string k, .string v] 52)) w10.heap.size 52 #[.string k, .string v] := Blk.new w10.drew _ _
          clear hN10 hN7 hx7 hx10
          go_wp2_with fail
          refine wp_region_held_drew (S := (fun W => W.cell? ⟨z, 0, none⟩ = some (.string k) ∧ W.cell? ⟨z, 1, none⟩ = some (.string v))) (by kernel_rfl) ⟨z0, z1⟩ (fun hHeld => ?_)
          refine wpAnyH_take (i := 0) (v := ?_) rfl (by kernel_rfl) (by kernel_rfl) (by kernel_rfl) (fun _ _ _ h => h) (Or.inl ⟨by kernel_rfl, ?_⟩) (by assumption) ?_
          rotate_left
          · intro wq hSq
            (try dsimp only at hSq)
            go_simp
            all_goals with_reducible rfl
          try simp only [Act.put, List.setIfInBounds_toArray, List.set_cons_zero, List.set_cons_succ]
          refine wpAnyH_take (i := 1) (v := ?_) rfl (by kernel_rfl) (by kernel_rfl) (by kernel_rfl) (fun _ _ _ h => h) (Or.inl ⟨by kernel_rfl, ?_⟩) (by assumption) ?_
          rotate_left
          · intro wq hSq
            (try dsimp only at hSq)
            go_simp
            all_goals with_reducible rfl
          try simp only [Act.put, List.setIfInBounds_toArray, List.set_cons_zero, List.set_cons_succ]
          refine wpAnyH_take (i := 2) (v := ?_) rfl (by kernel_rfl) (by kernel_rfl) (by kernel_rfl) (fun _ _ _ h => h) (Or.inl ⟨by kernel_rfl, ?_⟩) (by assumption) ?_
          rotate_left
          · intro wq hSq
            (try dsimp only at hSq)
            go_simp
            all_goals with_reducible rfl
          try simp only [Act.put, List.setIfInBounds_toArray, List.set_cons_zero, List.set_cons_succ]
          refine wpAnyH_take (i := 3) (v := ?_) rfl (by kernel_rfl) (by kernel_rfl) (by kernel_rfl) (fun _ _ _ h => h) (Or.inl ⟨by kernel_rfl, ?_⟩) (by assumption) ?_
          rotate_left
          · intro wq hSq
            (try dsimp only at hSq)
            go_simp
            all_goals with_reducible rfl
          try simp only [Act.put, List.setIfInBounds_toArray, List.set_cons_zero, List.set_cons_succ]
          refine wpAnyH_take (i := 4) (v := ?_) rfl (by kernel_rfl) (by kernel_rfl) (by kernel_rfl) (fun _ _ _ h => h) (Or.inl ⟨by kernel_rfl, ?_⟩) (by assumption) ?_
          rotate_left
          · intro wq hSq
            (try dsimp only at hSq)
            go_simp
            all_goals with_reducible rfl
          try simp only [Act.put, List.setIfInBounds_toArray, List.set_cons_zero, List.set_cons_succ]
          refine wpAnyH_take (i := 5) (v := ?_) rfl (by kernel_rfl) (by kernel_rfl) (by kernel_rfl) (fun _ _ _ h => h) (Or.inl ⟨by kernel_rfl, ?_⟩) (by assumption) ?_
          rotate_left
          · intro wq hSq
            (try dsimp only at hSq)
            go_simp
            all_goals with_reducible rfl
          try simp only [Act.put, List.setIfInBounds_toArray, List.set_cons_zero, List.set_cons_succ]
          refine wpAnyH_take (i := 6) (v := ?_) rfl (by kernel_rfl) (by kernel_rfl) (by kernel_rfl) (fun _ _ _ h => h) (Or.inl ⟨by kernel_rfl, ?_⟩) (by assumption) ?_
          rotate_left
          · intro wq hSq
            (try dsimp only at hSq)
            go_simp
            all_goals with_reducible rfl
          try simp only [Act.put, List.setIfInBounds_toArray, List.set_cons_zero, List.set_cons_succ]
          refine wpAnyH_take (i := 7) (v := ?_) rfl (by kernel_rfl) (by kernel_rfl) (by kernel_rfl) (fun _ _ _ h => h) (Or.inl ⟨by kernel_rfl, ?_⟩) (by assumption) ?_
          rotate_left
          · intro wq hSq
            (try dsimp only at hSq)
            go_simp
            all_goals with_reducible rfl
          try simp only [Act.put, List.setIfInBounds_toArray, List.set_cons_zero, List.set_cons_succ]
          refine wpAnyH_take (i := 8) (v := ?_) rfl (by kernel_rfl) (by kernel_rfl) (by kernel_rfl) (fun _ _ _ h => h) (Or.inl ⟨by kernel_rfl, ?_⟩) (by assumption) ?_
          rotate_left
          · intro wq hSq
            (try dsimp only at hSq)
            go_simp
            all_goals with_reducible rfl
          try simp only [Act.put, List.setIfInBounds_toArray, List.set_cons_zero, List.set_cons_succ]
          refine wpAnyH_take (i := 9) (v := ?_) rfl (by kernel_rfl) (by kernel_rfl) (by kernel_rfl) (fun _ _ _ h => h) (Or.inl ⟨by kernel_rfl, ?_⟩) (by assumption) ?_
          rotate_left
          · intro wq hSq
            (try dsimp only at hSq)
            go_simp
            all_goals with_reducible rfl
          try simp only [Act.put, List.setIfInBounds_toArray, List.set_cons_zero, List.set_cons_succ]
          refine wpAnyH_take (i := 10) (v := ?_) rfl (by kernel_rfl) (by kernel_rfl) (by kernel_rfl) (fun _ _ _ h => h) (Or.inl ⟨by kernel_rfl, ?_⟩) (by assumption) ?_
          rotate_left
          · intro wq hSq
            (try dsimp only at hSq)
            go_simp
            all_goals with_reducible rfl
          try simp only [Act.put, List.setIfInBounds_toArray, List.set_cons_zero, List.set_cons_succ]
          refine wpAnyH_take (i := 11) (v := ?_) rfl (by kernel_rfl) (by kernel_rfl) (by kernel_rfl) (fun _ _ _ h => h) (Or.inl ⟨by kernel_rfl, ?_⟩) (by assumption) ?_
          rotate_left
          · intro wq hSq
            (try dsimp only at hSq)
            go_simp
            all_goals with_reducible rfl
          try simp only [Act.put, List.setIfInBounds_toArray, List.set_cons_zero, List.set_cons_succ]
          refine wpAnyH_take (i := 12) (v := ?_) rfl (by kernel_rfl) (by kernel_rfl) (by kernel_rfl) (fun _ _ _ h => h) (Or.inl ⟨by kernel_rfl, ?_⟩) (by assumption) ?_
          rotate_left
          · intro wq hSq
            (try dsimp only at hSq)
            go_simp
            all_goals with_reducible rfl
          try simp only [Act.put, List.setIfInBounds_toArray, List.set_cons_zero, List.set_cons_succ]
          refine wpAnyH_take (i := 13) (v := ?_) rfl (by kernel_rfl) (by kernel_rfl) (by kernel_rfl) (fun _ _ _ h => h) (Or.inl ⟨by kernel_rfl, ?_⟩) (by assumption) ?_
          rotate_left
          · intro wq hSq
            (try dsimp only at hSq)
            go_simp
            all_goals with_reducible rfl
          try simp only [Act.put, List.setIfInBounds_toArray, List.set_cons_zero, List.set_cons_succ]
          refine wpAnyH_take (i := 14) (v := ?_) rfl (by kernel_rfl) (by kernel_rfl) (by kernel_rfl) (fun _ _ _ h => h) (Or.inl ⟨by kernel_rfl, ?_⟩) (by assumption) ?_
          rotate_left
          · intro wq hSq
            (try dsimp only at hSq)
            go_simp
            all_goals with_reducible rfl
          try simp only [Act.put, List.setIfInBounds_toArray, List.set_cons_zero, List.set_cons_succ]
          refine wpAnyH_take (i := 16) (v := ?_) rfl (by kernel_rfl) (by kernel_rfl) (by kernel_rfl) (fun _ _ _ h => h) (Or.inl ⟨by kernel_rfl, ?_⟩) (by assumption) ?_
          rotate_left
          · intro wq hSq
            (try dsimp only at hSq)
            go_simp
            all_goals with_reducible rfl
          try simp only [Act.put, List.setIfInBounds_toArray, List.set_cons_zero, List.set_cons_succ]
          refine wpAnyH_ready (rs := [15, 17]) (by kernel_rfl) (by simp) ?_
          refine AllReadyH.cons rfl (fun K hK => ?_) (AllReadyH.cons rfl (fun K hK => ?_) AllReadyH.nil)
          · go_simp
            go_at_call 31
            refine (nrec_any g S7 own [(k, v)] _ hNA (by simp)).mono ?_
            rintro e w11 ⟨v11, rfl, hr11, hb11⟩
            obtain ⟨A11, cap11, rfl, _⟩ := hr11.form
            have hrd11 := SRd.of_m hr11
            have h1011 : Below w10.heap.size w10 w11 := hbA.trans hb11
            have k01 := And.intro ((h1011.cell (p := ⟨z, 0, none⟩) hzl).trans z0) ((h1011.cell (p := ⟨z, 1, none⟩) hzl).trans z1)
            have hba11 : Below w11.heap.size w11 (w11.alloc (.cells #[.string k, .string v] 52)) := (Below.refl _ _).alloc (Nat.le_refl _) _
            have h10b := below_step h1011 hba11
            have k03 := And.intro ((h10b.cell (p := ⟨z, 0, none⟩) hzl).trans z0) ((h10b.cell (p := ⟨z, 1, none⟩) hzl).trans z1)
            clear hr11
            go_wp2_with fail
            refine hK.out _ _ k01 (fun hHeld => ?_)
            try simp only [Act.put, List.setIfInBounds_toArray, List.set_cons_zero, List.set_cons_succ]
            refine wpAnyH_ready (rs := [17]) (by kernel_rfl) (by simp) ?_
            refine AllReadyH.cons rfl (fun K hK => ?_) AllReadyH.nil
            go_simp
            go_wp2_with fail
            refine hK.out _ _ k03 (fun hHeld => ?_)
            try simp only [Act.put, List.setIfInBounds_toArray, List.set_cons_zero, List.set_cons_succ]
            refine wpAnyH_ready (rs := [18]) (by kernel_rfl) (by simp) ?_
            refine AllReadyH.cons rfl (fun K hK => ?_) AllReadyH.nil
            go_simp
            go_at_call 33
            refine (pequal_same [(k, v)] _ _ _ (hrd11.on hba11) (SRd.litp (Blk.new w11 _ _) rfl (by rfl) (by show 1 ≤ _; unfold maxLen; omega))).mono ?_
            rintro e w12 ⟨rfl, kq, hw12⟩
            have h1012 : Below w10.heap.size w10 w12 := by rw [hw12]; exact below_dK h10b kq
            clear hw12
            have k02 := And.intro ((h1012.cell (p := ⟨z, 0, none⟩) hzl).trans z0) ((h1012.cell (p := ⟨z, 1, none⟩) hzl).trans z1)
            go_wp2_with fail
            refine hK.out _ _ k02 (fun hHeld => ?_)
            try simp only [Act.put, List.setIfInBounds_toArray, List.set_cons_zero, List.set_cons_succ]
            refine wpAnyH_take (i := 19) (v := ?_) rfl (by kernel_rfl) (by kernel_rfl) (by kernel_rfl) (fun _ _ _ h => h) (Or.inl ⟨by kernel_rfl, ?_⟩) (by assumption) ?_
            rotate_left
            · intro wq hSq
              (try dsimp only at hSq)
              go_simp
              all_goals with_reducible rfl
            try simp only [Act.put, List.setIfInBounds_toArray, List.set_cons_zero, List.set_cons_succ]
            refine wpAnyH_take (i := 20) (v := ?_) rfl (by kernel_rfl) (by kernel_rfl) (by kernel_rfl) (fun _ _ _ h => h) (Or.inl ⟨by kernel_rfl, ?_⟩) (by assumption) ?_
            rotate_left
            · intro wq hSq
              (try dsimp only at hSq)
              go_simp
              all_goals with_reducible rfl
            try simp only [Act.put, List.setIfInBounds_toArray, List.set_cons_zero, List.set_cons_succ]
            refine wpAnyH_take (i := 21) (v := undef) rfl (by kernel_rfl) (by kernel_rfl) (by kernel_rfl) (fun _ _ _ h => h) (Or.inr ⟨by kernel_rfl, rfl⟩) (by assumption) ?_
            try simp only [Act.put, List.setIfInBounds_toArray, List.set_cons_zero, List.set_cons_succ]
            refine wpAnyH_take (i := 22) (v := undef) rfl (by kernel_rfl) (by kernel_rfl) (by kernel_rfl) (fun _ _ _ h => h) (Or.inr ⟨by kernel_rfl, rfl⟩) (by assumption) ?_
            try simp only [Act.put, List.setIfInBounds_toArray, List.set_cons_zero, List.set_cons_succ]
            refine wpAnyH_take (i := 23) (v := undef) rfl (by kernel_rfl) (by kernel_rfl) (by kernel_rfl) (fun _ _ _ h => h) (Or.inr ⟨by kernel_rfl, rfl⟩) (by assumption) ?_
            try simp only [Act.put, List.setIfInBounds_toArray, List.set_cons_zero, List.set_cons_succ]
            refine wpAnyH_take (i := 24) (v := undef) rfl (by kernel_rfl) (by kernel_rfl) (by kernel_rfl) (fun _ _ _ h => h) (Or.inr ⟨by kernel_rfl, rfl⟩) (by assumption) ?_
            try simp only [Act.put, List.setIfInBounds_toArray, List.set_cons_zero, List.set_cons_succ]
            refine wpAnyH_take (i := 25) (v := undef) rfl (by kernel_rfl) (by kernel_rfl) (by kernel_rfl) (fun _ _ _ h => h) (Or.inr ⟨by kernel_rfl, rfl⟩) (by assumption) ?_
            try simp only [Act.put, List.setIfInBounds_toArray, List.set_cons_zero, List.set_cons_succ]
            refine wpAnyH_take (i := 26) (v := undef) rfl (by kernel_rfl) (by kernel_rfl) (by kernel_rfl) (fun _ _ _ h => h) (Or.inr ⟨by kernel_rfl, rfl⟩) (by assumption) ?_
            try simp only [Act.put, List.setIfInBounds_toArray, List.set_cons_zero, List.set_cons_succ]
            refine wpAnyH_take (i := 27) (v := undef) rfl (by kernel_rfl) (by kernel_rfl) (by kernel_rfl) (fun _ _ _ h => h) (Or.inr ⟨by kernel_rfl, rfl⟩) (by assumption) ?_
            try simp only [Act.put, List.setIfInBounds_toArray, List.set_cons_zero, List.set_cons_succ]
            refine wpAnyH_take (i := 28) (v := undef) rfl (by kernel_rfl) (by kernel_rfl) (by kernel_rfl) (fun _ _ _ h => h) (Or.inr ⟨by kernel_rfl, rfl⟩) (by assumption) ?_
            try simp only [Act.put, List.setIfInBounds_toArray, List.set_cons_zero, List.set_cons_succ]
            refine wpAnyH_take (i := 29) (v := undef) rfl (by kernel_rfl) (by kernel_rfl) (by kernel_rfl) (fun _ _ _ h => h) (Or.inr ⟨by kernel_rfl, rfl⟩) (by assumption) ?_
            try simp only [Act.put, List.setIfInBounds_toArray, List.set_cons_zero, List.set_cons_succ]
            refine wpAnyH_take (i := 30) (v := undef) rfl (by kernel_rfl) (by kernel_rfl) (by kernel_rfl) (fun _ _ _ h => h) (Or.inr ⟨by kernel_rfl, rfl⟩) (by assumption) ?_
            try simp only [Act.put, List.setIfInBounds_toArray, List.set_cons_zero, List.set_cons_succ]
            refine wpAnyH_take (i := 31) (v := undef) rfl (by kernel_rfl) (by kernel_rfl) (by kernel_rfl) (fun _ _ _ h => h) (Or.inr ⟨by kernel_rfl, rfl⟩) (by assumption) ?_
            try simp only [Act.put, List.setIfInBounds_toArray, List.set_cons_zero, List.set_cons_succ]
            refine wpAnyH_take (i := 32) (v := undef) rfl (by kernel_rfl) (by kernel_rfl) (by kernel_rfl) (fun _ _ _ h => h) (Or.inr ⟨by kernel_rfl, rfl⟩) (by assumption) ?_
            try simp only [Act.put, List.setIfInBounds_toArray, List.set_cons_zero, List.set_cons_succ]
            refine wpAnyH_take (i := 33) (v := undef) rfl (by kernel_rfl) (by kernel_rfl) (by kernel_rfl) (fun _ _ _ h => h) (Or.inr ⟨by kernel_rfl, rfl⟩) (by assumption) ?_
            try simp only [Act.put, List.setIfInBounds_toArray, List.set_cons_zero, List.set_cons_succ]
            refine wpAnyH_take (i := 34) (v := undef) rfl (by kernel_rfl) (by kernel_rfl) (by kernel_rfl) (fun _ _ _ h => h) (Or.inr ⟨by kernel_rfl, rfl⟩) (by assumption) ?_
            try simp only [Act.put, List.setIfInBounds_toArray, List.set_cons_zero, List.set_cons_succ]
            refine wpAnyH_take (i := 35) (v := undef) rfl (by kernel_rfl) (by kernel_rfl) (by kernel_rfl) (fun _ _ _ h => h) (Or.inr ⟨by kernel_rfl, rfl⟩) (by assumption) ?_
            try simp only [Act.put, List.setIfInBounds_toArray, List.set_cons_zero, List.set_cons_succ]
            refine wpAnyH_take (i := 36) (v := undef) rfl (by kernel_rfl) (by kernel_rfl) (by kernel_rfl) (fun _ _ _ h => h) (Or.inr ⟨by kernel_rfl, rfl⟩) (by assumption) ?_
            try simp only [Act.put, List.setIfInBounds_toArray, List.set_cons_zero, List.set_cons_succ]
            refine wpAnyH_take (i := 37) (v := ?_) rfl (by kernel_rfl) (by kernel_rfl) (by kernel_rfl) (fun _ _ _ h => h) (Or.inl ⟨by kernel_rfl, ?_⟩) (by assumption) ?_
            rotate_left
            · intro wq hSq
              (try dsimp only at hSq)
              go_simp
              all_goals with_reducible rfl
            try simp only [Act.put, List.setIfInBounds_toArray, List.set_cons_zero, List.set_cons_succ]
            refine wpAnyH_take (i := 38) (v := ?_) rfl (by kernel_rfl) (by kernel_rfl) (by kernel_rfl) (fun _ _ _ h => h) (Or.inl ⟨by kernel_rfl, ?_⟩) (by assumption) ?_
            rotate_left
            · intro wq hSq
              (try dsimp only at hSq)
              go_simp
              all_goals with_reducible rfl
            try simp only [Act.put, List.setIfInBounds_toArray, List.set_cons_zero, List.set_cons_succ]
            refine wpAnyH_take (i := 39) (v := ?_) rfl (by kernel_rfl) (by kernel_rfl) (by kernel_rfl) (fun _ _ _ h => h) (Or.inl ⟨by kernel_rfl, ?_⟩) (by assumption) ?_
            rotate_left
            · intro wq hSq
              (try dsimp only at hSq)
              go_simp
              all_goals with_reducible rfl
            try simp only [Act.put, List.setIfInBounds_toArray, List.set_cons_zero, List.set_cons_succ]
            refine wpAnyH_done (by kernel_rfl) ?_ _
            try simp only [Act.put, List.getElem_toArray, List.getElem_cons_succ, List.getElem_cons_zero, List.setIfInBounds_toArray, List.set_cons_zero, List.set_cons_succ]
            have b12 := below_step b10 h1012
            go_wp2_with fail
            go_ret
            exact ⟨rfl, by first | exact b12 | exact hbz _ b12⟩
          · go_simp
            have k04 := And.intro ((hbB.cell (p := ⟨z, 0, none⟩) hzl).trans z0) ((hbB.cell (p := ⟨z, 1, none⟩) hzl).trans z1)
            go_wp2_with fail
            refine hK.out _ _ k04 (fun hHeld => ?_)
            try simp only [Act.put, List.setIfInBounds_toArray, List.set_cons_zero, List.set_cons_succ]
            refine wpAnyH_ready (rs := [15]) (by kernel_rfl) (by simp) ?_
            refine AllReadyH.cons rfl (fun K hK => ?_) AllReadyH.nil
            go_simp
            go_at_call 31
            refine (nrec_any g S7 own [(k, v)] _ (by first | exact hNB | exact hNB2) (by simp)).mono ?_
            rintro e w11 ⟨v11, rfl, hr11, hb11⟩
            obtain ⟨A11, cap11, rfl, _⟩ := hr11.form
            have hrd11 := SRd.of_m hr11
            have h1011 : Below w10.heap.size w10 w11 := by first | exact hbB.trans (hb11.mono (by simp)) | exact hbB2.trans (hb11.mono (by simp))
            have hlY := Blk.below hlB hb11 (by simp)
            have k01 := And.intro ((h1011.cell (p := ⟨z, 0, none⟩) hzl).trans z0) ((h1011.cell (p := ⟨z, 1, none⟩) hzl).trans z1)
            clear hr11
            go_wp2_with fail
            refine hK.out _ _ k01 (fun hHeld => ?_)
            try simp only [Act.put, List.setIfInBounds_toArray, List.set_cons_zero, List.set_cons_succ]
            refine wpAnyH_ready (rs := [18]) (by kernel_rfl) (by simp) ?_
            refine AllReadyH.cons rfl (fun K hK => ?_) AllReadyH.nil
            go_simp
            go_at_call 33
            refine (pequal_same [(k, v)] _ _ _ hrd11 (SRd.litp hlY rfl (by rfl) (by show 1 ≤ _; unfold maxLen; omega))).mono ?_
            rintro e w12 ⟨rfl, kq, hw12⟩
            have h1012 : Below w10.heap.size w10 w12 := by rw [hw12]; exact below_dK h1011 kq
            clear hw12
            have k02 := And.intro ((h1012.cell (p := ⟨z, 0, none⟩) hzl).trans z0) ((h1012.cell (p := ⟨z, 1, none⟩) hzl).trans z1)
            go_wp2_with fail
            refine hK.out _ _ k02 (fun hHeld => ?_)
            try simp only [Act.put, List.setIfInBounds_toArray, List.set_cons_zero, List.set_cons_succ]
            refine wpAnyH_take (i := 19) (v := ?_) rfl (by kernel_rfl) (by kernel_rfl) (by kernel_rfl) (fun _ _ _ h => h) (Or.inl ⟨by kernel_rfl, ?_⟩) (by assumption) ?_
            rotate_left
            · intro wq hSq
              (try dsimp only at hSq)
              go_simp
              all_goals with_reducible rfl
            try simp only [Act.put, List.setIfInBounds_toArray, List.set_cons_zero, List.set_cons_succ]
            refine wpAnyH_take (i := 20) (v := ?_) rfl (by kernel_rfl) (by kernel_rfl) (by kernel_rfl) (fun _ _ _ h => h) (Or.inl ⟨by kernel_rfl, ?_⟩) (by assumption) ?_
            rotate_left
            · intro wq hSq
              (try dsimp only at hSq)
              go_simp
              all_goals with_reducible rfl
            try simp only [Act.put, List.setIfInBounds_toArray, List.set_cons_zero, List.set_cons_succ]
            refine wpAnyH_take (i := 21) (v := undef) rfl (by kernel_rfl) (by kernel_rfl) (by kernel_rfl) (fun _ _ _ h => h) (Or.inr ⟨by kernel_rfl, rfl⟩) (by assumption) ?_
            try simp only [Act.put, List.setIfInBounds_toArray, List.set_cons_zero, List.set_cons_succ]
            refine wpAnyH_take (i := 22) (v := undef) rfl (by kernel_rfl) (by kernel_rfl) (by kernel_rfl) (fun _ _ _ h => h) (Or.inr ⟨by kernel_rfl, rfl⟩) (by assumption) ?_
            try simp only [Act.put, List.setIfInBounds_toArray, List.set_cons_zero, List.set_cons_succ]
            refine wpAnyH_take (i := 23) (v := undef) rfl (by kernel_rfl) (by kernel_rfl) (by kernel_rfl) (fun _ _ _ h => h) (Or.inr ⟨by kernel_rfl, rfl⟩) (by assumption) ?_
            try simp only [Act.put, List.setIfInBounds_toArray, List.set_cons_zero, List.set_cons_succ]
            refine wpAnyH_take (i := 24) (v := undef) rfl (by kernel_rfl) (by kernel_rfl) (by kernel_rfl) (fun _ _ _ h => h) (Or.inr ⟨by kernel_rfl, rfl⟩) (by assumption) ?_
            try simp only [Act.put, List.setIfInBounds_toArray, List.set_cons_zero, List.set_cons_succ]
            refine wpAnyH_take (i := 25) (v := undef) rfl (by kernel_rfl) (by kernel_rfl) (by kernel_rfl) (fun _ _ _ h => h) (Or.inr ⟨by kernel_rfl, rfl⟩) (by assumption) ?_
            try simp only [Act.put, List.setIfInBounds_toArray, List.set_cons_zero, List.set_cons_succ]
            refine wpAnyH_take (i := 26) (v := undef) rfl (by kernel_rfl) (by kernel_rfl) (by kernel_rfl) (fun _ _ _ h => h) (Or.inr ⟨by kernel_rfl, rfl⟩) (by assumption) ?_
            try simp only [Act.put, List.setIfInBounds_toArray, List.set_cons_zero, List.set_cons_succ]
            refine wpAnyH_take (i := 27) (v := undef) rfl (by kernel_rfl) (by kernel_rfl) (by kernel_rfl) (fun _ _ _ h => h) (Or.inr ⟨by kernel_rfl, rfl⟩) (by assumption) ?_
            try simp only [Act.put, List.setIfInBounds_toArray, List.set_cons_zero, List.set_cons_succ]
            refine wpAnyH_take (i := 28) (v := undef) rfl (by kernel_rfl) (by kernel_rfl) (by kernel_rfl) (fun _ _ _ h => h) (Or.inr ⟨by kernel_rfl, rfl⟩) (by assumption) ?_
            try simp only [Act.put, List.setIfInBounds_toArray, List.set_cons_zero, List.set_cons_succ]
            refine wpAnyH_take (i := 29) (v := undef) rfl (by kernel_rfl) (by kernel_rfl) (by kernel_rfl) (fun _ _ _ h => h) (Or.inr ⟨by kernel_rfl, rfl⟩) (by assumption) ?_
            try simp only [Act.put, List.setIfInBounds_toArray, List.set_cons_zero, List.set_cons_succ]
            refine wpAnyH_take (i := 30) (v := undef) rfl (by kernel_rfl) (by kernel_rfl) (by kernel_rfl) (fun _ _ _ h => h) (Or.inr ⟨by kernel_rfl, rfl⟩) (by assumption) ?_
            try simp only [Act.put, List.setIfInBounds_toArray, List.set_cons_zero, List.set_cons_succ]
            refine wpAnyH_take (i := 31) (v := undef) rfl (by kernel_rfl) (by kernel_rfl) (by kernel_rfl) (fun _ _ _ h => h) (Or.inr ⟨by kernel_rfl, rfl⟩) (by assumption) ?_
            try simp only [Act.put, List.setIfInBounds_toArray, List.set_cons_zero, List.set_cons_succ]
            refine wpAnyH_take (i := 32) (v := undef) rfl (by kernel_rfl) (by kernel_rfl) (by kernel_rfl) (fun _ _ _ h => h) (Or.inr ⟨by kernel_rfl, rfl⟩) (by assumption) ?_
            try simp only [Act.put, List.setIfInBounds_toArray, List.set_cons_zero, List.set_cons_succ]
            refine wpAnyH_take (i := 33) (v := undef) rfl (by kernel_rfl) (by kernel_rfl) (by kernel_rfl) (fun _ _ _ h => h) (Or.inr ⟨by kernel_rfl, rfl⟩) (by assumption) ?_
            try simp only [Act.put, List.setIfInBounds_toArray, List.set_cons_zero, List.set_cons_succ]
            refine wpAnyH_take (i := 34) (v := undef) rfl (by kernel_rfl) (by kernel_rfl) (by kernel_rfl) (fun _ _ _ h => h) (Or.inr ⟨by kernel_rfl, rfl⟩) (by assumption) ?_
            try simp only [Act.put, List.setIfInBounds_toArray, List.set_cons_zero, List.set_cons_succ]
            refine wpAnyH_take (i := 35) (v := undef) rfl (by kernel_rfl) (by kernel_rfl) (by kernel_rfl) (fun _ _ _ h => h) (Or.inr ⟨by kernel_rfl, rfl⟩) (by assumption) ?_
            try simp only [Act.put, List.setIfInBounds_toArray, List.set_cons_zero, List.set_cons_succ]
            refine wpAnyH_take (i := 36) (v := undef) rfl (by kernel_rfl) (by kernel_rfl) (by kernel_rfl) (fun _ _ _ h => h) (Or.inr ⟨by kernel_rfl, rfl⟩) (by assumption) ?_
            try simp only [Act.put, List.setIfInBounds_toArray, List.set_cons_zero, List.set_cons_succ]
            refine wpAnyH_take (i := 37) (v := ?_) rfl (by kernel_rfl) (by kernel_rfl) (by kernel_rfl) (fun _ _ _ h => h) (Or.inl ⟨by kernel_rfl, ?_⟩) (by assumption) ?_
            rotate_left
            · intro wq hSq
              (try dsimp only at hSq)
              go_simp
              all_goals with_reducible rfl
            try simp only [Act.put, List.setIfInBounds_toArray, List.set_cons_zero, List.set_cons_succ]
            refine wpAnyH_take (i := 38) (v := ?_) rfl (by kernel_rfl) (by kernel_rfl) (by kernel_rfl) (fun _ _ _ h => h) (Or.inl ⟨by kernel_rfl, ?_⟩) (by assumption) ?_
            rotate_left
            · intro wq hSq
              (try dsimp only at hSq)
              go_simp
              all_goals with_reducible rfl
            try simp only [Act.put, List.setIfInBounds_toArray, List.set_cons_zero, List.set_cons_succ]
            refine wpAnyH_take (i := 39) (v := ?_) rfl (by kernel_rfl) (by kernel_rfl) (by kernel_rfl) (fun _ _ _ h => h) (Or.inl ⟨by kernel_rfl, ?_⟩) (by assumption) ?_
            rotate_left
            · intro wq hSq
              (try dsimp only at hSq)
              go_simp
              all_goals with_reducible rfl
            try simp only [Act.put, List.setIfInBounds_toArray, List.set_cons_zero, List.set_cons_succ]
            refine wpAnyH_done (by kernel_rfl) ?_ _
            try simp only [Act.put, List.getElem_toArray, List.getElem_cons_succ, List.getElem_cons_zero, List.setIfInBounds_toArray, List.set_cons_zero, List.set_cons_succ]
            have b12 := below_step b10 h1012
            go_wp2_with fail
            go_ret
            exact ⟨rfl, by first | exact b12 | exact hbz _ b12⟩
        · go_wp2_with fail
          refine (fits_any k v _ (by omega) V9.T V9.E V9.S).mono ?_
          rintro e w10 ⟨rfl, hb10⟩
          rw [HF.out]
          have hb710 := hb7x hb10
          have b10 := below_step hb7w hb710
          have hB10 := hB9.below hb10 hB9.lt
          clear z0 z1 k1 hb7x
          have z0 := hB10.cell 0
          have z1 := hB10.cell 1
          have hzl := hB10.lt
          have hx10 := hx7.on hb710
          have hN10 := hN7.on hb710
          have he0 : errv 0 = .nilIface := rfl
          rw [he0]
          have hbA : Below w10.heap.size w10 w10.drew := (Below.refl _ _).drew
          have hbB : Below w10.heap.size w10 ((w10.drew).alloc (.cells #[.string k, .string v] 52)) := hbA.alloc (Nat.le_refl _) _
          have hbB2 : Below w10.heap.size w10 ((w10.drew).alloc (.cells #[.string k, .string v] 52)).drew := hbB.drew
          have hNA := hN10.on hbA
          have hNB := hN10.on hbB
          have hNB2 := hN10.on hbB2
          have hlB : Blk ((w10.drew).alloc (.cells #[.string k, .string v] 52)) w10.heap.size 52 #[.string k, .string v] := Blk.new w10.drew _ _
          clear hN10 hN7 hx7 hx10
          go_wp2_with fail
          refine wp_region_held_drew (S := (fun W => W.cell? ⟨z, 0, none⟩ = some (.string k) ∧ W.cell? ⟨z, 1, none⟩ = some (.string v))) (by kernel_rfl) ⟨z0, z1⟩ (fun hHeld => ?_)
          refine wpAnyH_take (i := 0) (v := ?_) rfl (by kernel_rfl) (by kernel_rfl) (by kernel_rfl) (fun _ _ _ h => h) (Or.inl ⟨by kernel_rfl, ?_⟩) (by assumption) ?_
          rotate_left
          · intro wq hSq
            (try dsimp only at hSq)
            go_simp
            all_goals with_reducible rfl
          try simp only [Act.put, List.setIfInBounds_toArray, List.set_cons_zero, List.set_cons_succ]
          refine wpAnyH_take (i := 1) (v := ?_) rfl (by kernel_rfl) (by kernel_rfl) (by kernel_rfl) (fun _ _ _ h => h) (Or.inl ⟨by kernel_rfl, ?_⟩) (by assumption) ?_
          rotate_left
          · intro wq hSq
            (try dsimp only at hSq)
            go_simp
            all_goals with_reducible rfl
          try simp only [Act.put, List.setIfInBounds_toArray, List.set_cons_zero, List.set_cons_succ]
          refine wpAnyH_take (i := 2) (v := ?_) rfl (by kernel_rfl) (by kernel_rfl) (by kernel_rfl) (fun _ _ _ h => h) (Or.inl ⟨by kernel_rfl, ?_⟩) (by assumption) ?_
          rotate_left
          · intro wq hSq
            (try dsimp only at hSq)
            go_simp
            all_goals with_reducible rfl
          try simp only [Act.put, List.setIfInBounds_toArray, List.set_cons_zero, List.set_cons_succ]
          refine wpAnyH_take (i := 3) (v := ?_) rfl (by kernel_rfl) (by kernel_rfl) (by kernel_rfl) (fun _ _ _ h => h) (Or.inl ⟨by kernel_rfl, ?_⟩) (by assumption) ?_
          rotate_left
          · intro wq hSq
            (try dsimp only at hSq)
            go_simp
            all_goals with_reducible rfl
          try simp only [Act.put, List.setIfInBounds_toArray, List.set_cons_zero, List.set_cons_succ]
          refine wpAnyH_take (i := 4) (v := ?_) rfl (by kernel_rfl) (by kernel_rfl) (by kernel_rfl) (fun _ _ _ h => h) (Or.inl ⟨by kernel_rfl, ?_⟩) (by assumption) ?_
          rotate_left
          · intro wq hSq
            (try dsimp only at hSq)
            go_simp
            all_goals with_reducible rfl
          try simp only [Act.put, List.setIfInBounds_toArray, List.set_cons_zero, List.set_cons_succ]
          refine wpAnyH_take (i := 5) (v := ?_) rfl (by kernel_rfl) (by kernel_rfl) (by kernel_rfl) (fun _ _ _ h => h) (Or.inl ⟨by kernel_rfl, ?_⟩) (by assumption) ?_
          rotate_left
          · intro wq hSq
            (try dsimp only at hSq)
            go_simp
            all_goals with_reducible rfl
          try simp only [Act.put, List.setIfInBounds_toArray, List.set_cons_zero, List.set_cons_succ]
          refine wpAnyH_take (i := 6) (v := ?_) rfl (by kernel_rfl) (by kernel_rfl) (by kernel_rfl) (fun _ _ _ h => h) (Or.inl ⟨by kernel_rfl, ?_⟩) (by assumption) ?_
          rotate_left
          · intro wq hSq
            (try dsimp only at hSq)
            go_simp
            all_goals with_reducible rfl
          try simp only [Act.put, List.setIfInBounds_toArray, List.set_cons_zero, List.set_cons_succ]
          refine wpAnyH_take (i := 7) (v := ?_) rfl (by kernel_rfl) (by kernel_rfl) (by kernel_rfl) (fun _ _ _ h => h) (Or.inl ⟨by kernel_rfl, ?_⟩) (by assumption) ?_
          rotate_left
          · intro wq hSq
            (try dsimp only at hSq)
            go_simp
            all_goals with_reducible rfl
          try simp only [Act.put, List.setIfInBounds_toArray, List.set_cons_zero, List.set_cons_succ]
          refine wpAnyH_take (i := 8) (v := ?_) rfl (by kernel_rfl) (by kernel_rfl) (by kernel_rfl) (fun _ _ _ h => h) (Or.inl ⟨by kernel_rfl, ?_⟩) (by assumption) ?_
          rotate_left
          · intro wq hSq
            (try dsimp only at hSq)
            go_simp
            all_goals with_reducible rfl
          try simp only [Act.put, List.setIfInBounds_toArray, List.set_cons_zero, List.set_cons_succ]
          refine wpAnyH_take (i := 9) (v := ?_) rfl (by kernel_rfl) (by kernel_rfl) (by kernel_rfl) (fun _ _ _ h => h) (Or.inl ⟨by kernel_rfl, ?_⟩) (by assumption) ?_
          rotate_left
          · intro wq hSq
            (try dsimp only at hSq)
            go_simp
            all_goals with_reducible rfl
          try simp only [Act.put, List.setIfInBounds_toArray, List.set_cons_zero, List.set_cons_succ]
          refine wpAnyH_take (i := 10) (v := ?_) rfl (by kernel_rfl) (by kernel_rfl) (by kernel_rfl) (fun _ _ _ h => h) (Or.inl ⟨by kernel_rfl, ?_⟩) (by assumption) ?_
          rotate_left
          · intro wq hSq
            (try dsimp only at hSq)
            go_simp
            all_goals with_reducible rfl
          try simp only [Act.put, List.setIfInBounds_toArray, List.set_cons_zero, List.set_cons_succ]
          refine wpAnyH_take (i := 11) (v := ?_) rfl (by kernel_rfl) (by kernel_rfl) (by kernel_rfl) (fun _ _ _ h => h) (Or.inl ⟨by kernel_rfl, ?_⟩) (by assumption) ?_
          rotate_left
          · intro wq hSq
            (try dsimp only at hSq)
            go_simp
            all_goals with_reducible rfl
          try simp only [Act.put, List.setIfInBounds_toArray, List.set_cons_zero, List.set_cons_succ]
          refine wpAnyH_take (i := 12) (v := ?_) rfl (by kernel_rfl) (by kernel_rfl) (by kernel_rfl) (fun _ _ _ h => h) (Or.inl ⟨by kernel_rfl, ?_⟩) (by assumption) ?_
          rotate_left
          · intro wq hSq
            (try dsimp only at hSq)
            go_simp
            all_goals with_reducible rfl
          try simp only [Act.put, List.setIfInBounds_toArray, List.set_cons_zero, List.set_cons_succ]
          refine wpAnyH_take (i := 13) (v := ?_) rfl (by kernel_rfl) (by kernel_rfl) (by kernel_rfl) (fun _ _ _ h => h) (Or.inl ⟨by kernel_rfl, ?_⟩) (by assumption) ?_
          rotate_left
          · intro wq hSq
            (try dsimp only at hSq)
            go_simp
            all_goals with_reducible rfl
          try simp only [Act.put, List.setIfInBounds_toArray, List.set_cons_zero, List.set_cons_succ]
          refine wpAnyH_take (i := 14) (v := ?_) rfl (by kernel_rfl) (by kernel_rfl) (by kernel_rfl) (fun _ _ _ h => h) (Or.inl ⟨by kernel_rfl, ?_⟩) (by assumption) ?_
          rotate_left
          · intro wq hSq
            (try dsimp only at hSq)
            go_simp
            all_goals with_reducible rfl
          try simp only [Act.put, List.setIfInBounds_toArray, List.set_cons_zero, List.set_cons_succ]
          refine wpAnyH_take (i := 16) (v := ?_) rfl (by kernel_rfl) (by kernel_rfl) (by kernel_rfl) (fun _ _ _ h => h) (Or.inl ⟨by kernel_rfl, ?_⟩) (by assumption) ?_
          rotate_left
          · intro wq hSq
            (try dsimp only at hSq)
            go_simp
            all_goals with_reducible rfl
          try simp only [Act.put, List.setIfInBounds_toArray, List.set_cons_zero, List.set_cons_succ]
          refine wpAnyH_ready (rs := [15, 17]) (by kernel_rfl) (by simp) ?_
          refine AllReadyH.cons rfl (fun K hK => ?_) (AllReadyH.cons rfl (fun K hK => ?_) AllReadyH.nil)
          · go_simp
            go_at_call 31
            refine (nrec_any g S7 own [(k, v)] _ hNA (by simp)).mono ?_
            rintro e w11 ⟨v11, rfl, hr11, hb11⟩
            obtain ⟨A11, cap11, rfl, _⟩ := hr11.form
            have hrd11 := SRd.of_m hr11
            have h1011 : Below w10.heap.size w10 w11 := hbA.trans hb11
            have k01 := And.intro ((h1011.cell (p := ⟨z, 0, none⟩) hzl).trans z0) ((h1011.cell (p := ⟨z, 1, none⟩) hzl).trans z1)
            have hba11 : Below w11.heap.size w11 (w11.alloc (.cells #[.string k, .string v] 52)) := (Below.refl _ _).alloc (Nat.le_refl _) _
            have h10b := below_step h1011 hba11
            have k03 := And.intro ((h10b.cell (p := ⟨z, 0, none⟩) hzl).trans z0) ((h10b.cell (p := ⟨z, 1, none⟩) hzl).trans z1)
            clear hr11
            go_wp2_with fail
            refine hK.out _ _ k01 (fun hHeld => ?_)
            try simp only [Act.put, List.setIfInBounds_toArray, List.set_cons_zero, List.set_cons_succ]
            refine wpAnyH_ready (rs := [17]) (by kernel_rfl) (by simp) ?_
            refine AllReadyH.cons rfl (fun K hK => ?_) AllReadyH.nil
            go_simp
            go_wp2_with fail
            refine hK.out _ _ k03 (fun hHeld => ?_)
            try simp only [Act.put, List.setIfInBounds_toArray, List.set_cons_zero, List.set_cons_succ]
            refine wpAnyH_ready (rs := [18]) (by kernel_rfl) (by simp) ?_
            refine AllReadyH.cons rfl (fun K hK => ?_) AllReadyH.nil
            go_simp
            go_at_call 33
            refine (pequal_same [(k, v)] _ _ _ (hrd11.on hba11) (SRd.litp (Blk.new w11 _ _) rfl (by rfl) (by show 1 ≤ _; unfold maxLen; omega))).mono ?_
            rintro e w12 ⟨rfl, kq, hw12⟩
            have h1012 : Below w10.heap.size w10 w12 := by rw [hw12]; exact below_dK h10b kq
            clear hw12
            have k02 := And.intro ((h1012.cell (p := ⟨z, 0, none⟩) hzl).trans z0) ((h1012.cell (p := ⟨z, 1, none⟩) hzl).trans z1)
            go_wp2_with fail
            refine hK.out _ _ k02 (fun hHeld => ?_)
            try simp only [Act.put, List.setIfInBounds_toArray, List.set_cons_zero, List.set_cons_succ]
            refine wpAnyH_take (i := 19) (v := ?_) rfl (by kernel_rfl) (by kernel_rfl) (by kernel_rfl) (fun _ _ _ h => h) (Or.inl ⟨by kernel_rfl, ?_⟩) (by assumption) ?_
            rotate_left
            · intro wq hSq
              (try dsimp only at hSq)
              go_simp
              all_goals with_reducible rfl
            try simp only [Act.put, List.setIfInBounds_toArray, List.set_cons_zero, List.set_cons_succ]
            refine wpAnyH_take (i := 20) (v := ?_) rfl (by kernel_rfl) (by kernel_rfl) (by kernel_rfl) (fun _ _ _ h => h) (Or.inl ⟨by kernel_rfl, ?_⟩) (by assumption) ?_
            rotate_left
            · intro wq hSq
              (try dsimp only at hSq)
              go_simp
              all_goals with_reducible rfl
            try simp only [Act.put, List.setIfInBounds_toArray, List.set_cons_zero, List.set_cons_succ]
            refine wpAnyH_take (i := 21) (v := undef) rfl (by kernel_rfl) (by kernel_rfl) (by kernel_rfl) (fun _ _ _ h => h) (Or.inr ⟨by kernel_rfl, rfl⟩) (by assumption) ?_
            try simp only [Act.put, List.setIfInBounds_toArray, List.set_cons_zero, List.set_cons_succ]
            refine wpAnyH_take (i := 22) (v := undef) rfl (by kernel_rfl) (by kernel_rfl) (by kernel_rfl) (fun _ _ _ h => h) (Or.inr ⟨by kernel_rfl, rfl⟩) (by assumption) ?_
            try simp only [Act.put, List.setIfInBounds_toArray, List.set_cons_zero, List.set_cons_succ]
            refine wpAnyH_take (i := 23) (v := undef) rfl (by kernel_rfl) (by kernel_rfl) (by kernel_rfl) (fun _ _ _ h => h) (Or.inr ⟨by kernel_rfl, rfl⟩) (by assumption) ?_
            try simp only [Act.put, List.setIfInBounds_toArray, List.set_cons_zero, List.set_cons_succ]
            refine wpAnyH_take (i := 24) (v := undef) rfl (by kernel_rfl) (by kernel_rfl) (by kernel_rfl) (fun _ _ _ h => h) (Or.inr ⟨by kernel_rfl, rfl⟩) (by assumption) ?_
            try simp only [Act.put, List.setIfInBounds_toArray, List.set_cons_zero, List.set_cons_succ]
            refine wpAnyH_take (i := 25) (v := undef) rfl (by kernel_rfl) (by kernel_rfl) (by kernel_rfl) (fun _ _ _ h => h) (Or.inr ⟨by kernel_rfl, rfl⟩) (by assumption) ?_
            try simp only [Act.put, List.setIfInBounds_toArray, List.set_cons_zero, List.set_cons_succ]
            refine wpAnyH_take (i := 26) (v := undef) rfl (by kernel_rfl) (by kernel_rfl) (by kernel_rfl) (fun _ _ _ h => h) (Or.inr ⟨by kernel_rfl, rfl⟩) (by assumption) ?_
            try simp only [Act.put, List.setIfInBounds_toArray, List.set_cons_zero, List.set_cons_succ]
            refine wpAnyH_take (i := 27) (v := undef) rfl (by kernel_rfl) (by kernel_rfl) (by kernel_rfl) (fun _ _ _ h => h) (Or.inr ⟨by kernel_rfl, rfl⟩) (by assumption) ?_
            try simp only [Act.put, List.setIfInBounds_toArray, List.set_cons_zero, List.set_cons_succ]
            refine wpAnyH_take (i := 28) (v := undef) rfl (by kernel_rfl) (by kernel_rfl) (by kernel_rfl) (fun _ _ _ h => h) (Or.inr ⟨by kernel_rfl, rfl⟩) (by assumption) ?_
            try simp only [Act.put, List.setIfInBounds_toArray, List.set_cons_zero, List.set_cons_succ]
            refine wpAnyH_take (i := 29) (v := undef) rfl (by kernel_rfl) (by kernel_rfl) (by kernel_rfl) (fun _ _ _ h => h) (Or.inr ⟨by kernel_rfl, rfl⟩) (by assumption) ?_
            try simp only [Act.put, List.setIfInBounds_toArray, List.set_cons_zero, List.set_cons_succ]
            refine wpAnyH_take (i := 30) (v := undef) rfl (by kernel_rfl) (by kernel_rfl) (by kernel_rfl) (fun _ _ _ h => h) (Or.inr ⟨by kernel_rfl, rfl⟩) (by assumption) ?_
            try simp only [Act.put, List.setIfInBounds_toArray, List.set_cons_zero, List.set_cons_succ]
            refine wpAnyH_take (i := 31) (v := undef) rfl (by kernel_rfl) (by kernel_rfl) (by kernel_rfl) (fun _ _ _ h => h) (Or.inr ⟨by kernel_rfl, rfl⟩) (by assumption) ?_
            try simp only [Act.put, List.setIfInBounds_toArray, List.set_cons_zero, List.set_cons_succ]
            refine wpAnyH_take (i := 32) (v := undef) rfl (by kernel_rfl) (by kernel_rfl) (by kernel_rfl) (fun _ _ _ h => h) (Or.inr ⟨by kernel_rfl, rfl⟩) (by assumption) ?_
            try simp only [Act.put, List.setIfInBounds_toArray, List.set_cons_zero, List.set_cons_succ]
            refine wpAnyH_take (i := 33) (v := undef) rfl (by kernel_rfl) (by kernel_rfl) (by kernel_rfl) (fun _ _ _ h => h) (Or.inr ⟨by kernel_rfl, rfl⟩) (by assumption) ?_
            try simp only [Act.put, List.setIfInBounds_toArray, List.set_cons_zero, List.set_cons_succ]
            refine wpAnyH_take (i := 34) (v := undef) rfl (by kernel_rfl) (by kernel_rfl) (by kernel_rfl) (fun _ _ _ h => h) (Or.inr ⟨by kernel_rfl, rfl⟩) (by assumption) ?_
            try simp only [Act.put, List.setIfInBounds_toArray, List.set_cons_zero, List.set_cons_succ]
            refine wpAnyH_take (i := 35) (v := undef) rfl (by kernel_rfl) (by kernel_rfl) (by kernel_rfl) (fun _ _ _ h => h) (Or.inr ⟨by kernel_rfl, rfl⟩) (by assumption) ?_
            try simp only [Act.put, List.setIfInBounds_toArray, List.set_cons_zero, List.set_cons_succ]
            refine wpAnyH_take (i := 36) (v := undef) rfl (by kernel_rfl) (by kernel_rfl) (by kernel_rfl) (fun _ _ _ h => h) (Or.inr ⟨by kernel_rfl, rfl⟩) (by assumption) ?_
            try simp only [Act.put, List.setIfInBounds_toArray, List.set_cons_zero, List.set_cons_succ]
            refine wpAnyH_take (i := 37) (v := ?_) rfl (by kernel_rfl) (by kernel_rfl) (by kernel_rfl) (fun _ _ _ h => h) (Or.inl ⟨by kernel_rfl, ?_⟩) (by assumption) ?_
            rotate_left
            · intro wq hSq
              (try dsimp only at hSq)
              go_simp
              all_goals with_reducible rfl
            try simp only [Act.put, List.setIfInBounds_toArray, List.set_cons_zero, List.set_cons_succ]
            refine wpAnyH_take (i := 38) (v := ?_) rfl (by kernel_rfl) (by kernel_rfl) (by kernel_rfl) (fun _ _ _ h => h) (Or.inl ⟨by kernel_rfl, ?_⟩) (by assumption) ?_
            rotate_left
            · intro wq hSq
              (try dsimp only at hSq)
              go_simp
              all_goals with_reducible rfl
            try simp only [Act.put, List.setIfInBounds_toArray, List.set_cons_zero, List.set_cons_succ]
            refine wpAnyH_take (i := 39) (v := ?_) rfl (by kernel_rfl) (by kernel_rfl) (by kernel_rfl) (fun _ _ _ h => h) (Or.inl ⟨by kernel_rfl, ?_⟩) (by assumption) ?_
            rotate_left
            · intro wq hSq
              (try dsimp only at hSq)
              go_simp
              all_goals with_reducible rfl
            try simp only [Act.put, List.setIfInBounds_toArray, List.set_cons_zero, List.set_cons_succ]
            refine wpAnyH_done (by kernel_rfl) ?_ _
            try simp only [Act.put, List.getElem_toArray, List.getElem_cons_succ, List.getElem_cons_zero, List.setIfInBounds_toArray, List.set_cons_zero, List.set_cons_succ]
            have b12 := below_step b10 h1012
            go_wp2_with fail
            go_ret
            exact ⟨rfl, by first | exact b12 | exact hbz _ b12⟩
          · go_simp
            have k04 := And.intro ((hbB.cell (p := ⟨z, 0, none⟩) hzl).trans z0) ((hbB.cell (p := ⟨z, 1, none⟩) hzl).trans z1)
            go_wp2_with fail
            refine hK.out _ _ k04 (fun hHeld => ?_)
            try simp only [Act.put, List.setIfInBounds_toArray, List.set_cons_zero, List.set_cons_succ]
            refine wpAnyH_ready (rs := [15]) (by kernel_rfl) (by simp) ?_
            refine AllReadyH.cons rfl (fun K hK => ?_) AllReadyH.nil
            go_simp
            go_at_call 31
            refine (nrec_any g S7 own [(k, v)] _ (by first | exact hNB | exact hNB2) (by simp)).mono ?_
            rintro e w11 ⟨v11, rfl, hr11, hb11⟩
            obtain ⟨A11, cap11, rfl, _⟩ := hr11.form
            have hrd11 := SRd.of_m hr11
            have h1011 : Below w10.heap.size w10 w11 := by first | exact hbB.trans (hb11.mono (by simp)) | exact hbB2.trans (hb11.mono (by simp))
            have hlY := Blk.below hlB hb11 (by simp)
            have k01 := And.intro ((h1011.cell (p := ⟨z, 0, none⟩) hzl).trans z0) ((h1011.cell (p := ⟨z, 1, none⟩) hzl).trans z1)
            clear hr11
            go_wp2_with fail
            refine hK.out _ _ k01 (fun hHeld => ?_)
            try simp only [Act.put, List.setIfInBounds_toArray, List.set_cons_zero, List.set_cons_succ]
            refine wpAnyH_ready (rs := [18]) (by kernel_rfl) (by simp) ?_
            refine AllReadyH.cons rfl (fun K hK => ?_) AllReadyH.nil
            go_simp
            go_at_call 33
            refine (pequal_same [(k, v)] _ _ _ hrd11 (SRd.litp hlY rfl (by rfl) (by show 1 ≤ _; unfold maxLen; omega))).mono ?_
            rintro e w12 ⟨rfl, kq, hw12⟩
            have h1012 : Below w10.heap.size w10 w12 := by rw [hw12]; exact below_dK h1011 kq
            clear hw12
            have k02 := And.intro ((h1012.cell (p := ⟨z, 0, none⟩) hzl).trans z0) ((h1012.cell (p := ⟨z, 1, none⟩) hzl).trans z1)
            go_wp2_with fail
            refine hK.out _ _ k02 (fun hHeld => ?_)
            try simp only [Act.put, List.setIfInBounds_toArray, List.set_cons_zero, List.set_cons_succ]
            refine wpAnyH_take (i := 19) (v := ?_) rfl (by kernel_rfl) (by kernel_rfl) (by kernel_rfl) (fun _ _ _ h => h) (Or.inl ⟨by kernel_rfl, ?_⟩) (by assumption) ?_
            rotate_left
            · intro wq hSq
              (try dsimp only at hSq)
              go_simp
              all_goals with_reducible rfl
            try simp only [Act.put, List.setIfInBounds_toArray, List.set_cons_zero, List.set_cons_succ]
            refine wpAnyH_take (i := 20) (v := ?_) rfl (by kernel_rfl) (by kernel_rfl) (by kernel_rfl) (fun _ _ _ h => h) (Or.inl ⟨by kernel_rfl, ?_⟩) (by assumption) ?_
            rotate_left
            · intro wq hSq
              (try dsimp only at hSq)
              go_simp
              all_goals with_reducible rfl
            try simp only [Act.put, List.setIfInBounds_toArray, List.set_cons_zero, List.set_cons_succ]
            refine wpAnyH_take (i := 21) (v := undef) rfl (by kernel_rfl) (by kernel_rfl) (by kernel_rfl) (fun _ _ _ h => h) (Or.inr ⟨by kernel_rfl, rfl⟩) (by assumption) ?_
            try simp only [Act.put, List.setIfInBounds_toArray, List.set_cons_zero, List.set_cons_succ]
            refine wpAnyH_take (i := 22) (v := undef) rfl (by kernel_rfl) (by kernel_rfl) (by kernel_rfl) (fun _ _ _ h => h) (Or.inr ⟨by kernel_rfl, rfl⟩) (by assumption) ?_
            try simp only [Act.put, List.setIfInBounds_toArray, List.set_cons_zero, List.set_cons_succ]
            refine wpAnyH_take (i := 23) (v := undef) rfl (by kernel_rfl) (by kernel_rfl) (by kernel_rfl) (fun _ _ _ h => h) (Or.inr ⟨by kernel_rfl, rfl⟩) (by assumption) ?_
            try simp only [Act.put, List.setIfInBounds_toArray, List.set_cons_zero, List.set_cons_succ]
            refine wpAnyH_take (i := 24) (v := undef) rfl (by kernel_rfl) (by kernel_rfl) (by kernel_rfl) (fun _ _ _ h => h) (Or.inr ⟨by kernel_rfl, rfl⟩) (by assumption) ?_
            try simp only [Act.put, List.setIfInBounds_toArray, List.set_cons_zero, List.set_cons_succ]
            refine wpAnyH_take (i := 25) (v := undef) rfl (by kernel_rfl) (by kernel_rfl) (by kernel_rfl) (fun _ _ _ h => h) (Or.inr ⟨by kernel_rfl, rfl⟩) (by assumption) ?_
            try simp only [Act.put, List.setIfInBounds_toArray, List.set_cons_zero, List.set_cons_succ]
            refine wpAnyH_take (i := 26) (v := undef) rfl (by kernel_rfl) (by kernel_rfl) (by kernel_rfl) (fun _ _ _ h => h) (Or.inr ⟨by kernel_rfl, rfl⟩) (by assumption) ?_
            try simp only [Act.put, List.setIfInBounds_toArray, List.set_cons_zero, List.set_cons_succ]
            refine wpAnyH_take (i := 27) (v := undef) rfl (by kernel_rfl) (by kernel_rfl) (by kernel_rfl) (fun _ _ _ h => h) (Or.inr ⟨by kernel_rfl, rfl⟩) (by assumption) ?_
            try simp only [Act.put, List.setIfInBounds_toArray, List.set_cons_zero, List.set_cons_succ]
            refine wpAnyH_take (i := 28) (v := undef) rfl (by kernel_rfl) (by kernel_rfl) (by kernel_rfl) (fun _ _ _ h => h) (Or.inr ⟨by kernel_rfl, rfl⟩) (by assumption) ?_
            try simp only [Act.put, List.setIfInBounds_toArray, List.set_cons_zero, List.set_cons_succ]
            refine wpAnyH_take (i := 29) (v := undef) rfl (by kernel_rfl) (by kernel_rfl) (by kernel_rfl) (fun _ _ _ h => h) (Or.inr ⟨by kernel_rfl, rfl⟩) (by assumption) ?_
            try simp only [Act.put, List.setIfInBounds_toArray, List.set_cons_zero, List.set_cons_succ]
            refine wpAnyH_take (i := 30) (v := undef) rfl (by kernel_rfl) (by kernel_rfl) (by kernel_rfl) (fun _ _ _ h => h) (Or.inr ⟨by kernel_rfl, rfl⟩) (by assumption) ?_
            try simp only [Act.put, List.setIfInBounds_toArray, List.set_cons_zero, List.set_cons_succ]
            refine wpAnyH_take (i := 31) (v := undef) rfl (by kernel_rfl) (by kernel_rfl) (by kernel_rfl) (fun _ _ _ h => h) (Or.inr ⟨by kernel_rfl, rfl⟩) (by assumption) ?_
            try simp only [Act.put, List.setIfInBounds_toArray, List.set_cons_zero, List.set_cons_succ]
            refine wpAnyH_take (i := 32) (v := undef) rfl (by kernel_rfl) (by kernel_rfl) (by kernel_rfl) (fun _ _ _ h => h) (Or.inr ⟨by kernel_rfl, rfl⟩) (by assumption) ?_
            try simp only [Act.put, List.setIfInBounds_toArray, List.set_cons_zero, List.set_cons_succ]
            refine wpAnyH_take (i := 33) (v := undef) rfl (by kernel_rfl) (by kernel_rfl) (by kernel_rfl) (fun _ _ _ h => h) (Or.inr ⟨by kernel_rfl, rfl⟩) (by assumption) ?_
            try simp only [Act.put, List.setIfInBounds_toArray, List.set_cons_zero, List.set_cons_succ]
            refine wpAnyH_take (i := 34) (v := undef) rfl (by kernel_rfl) (by kernel_rfl) (by kernel_rfl) (fun _ _ _ h => h) (Or.inr ⟨by kernel_rfl, rfl⟩) (by assumption) ?_
            try simp only [Act.put, List.setIfInBounds_toArray, List.set_cons_zero, List.set_cons_succ]
            refine wpAnyH_take (i := 35) (v := undef) rfl (by kernel_rfl) (by kernel_rfl) (by kernel_rfl) (fun _ _ _ h => h) (Or.inr ⟨by kernel_rfl, rfl⟩) (by assumption) ?_
            try simp only [Act.put, List.setIfInBounds_toArray, List.set_cons_zero, List.set_cons_succ]
            refine wpAnyH_take (i := 36) (v := undef) rfl (by kernel_rfl) (by kernel_rfl) (by kernel_rfl) (fun _ _ _ h => h) (Or.inr ⟨by kernel_rfl, rfl⟩) (by assumption) ?_
            try simp only [Act.put, List.setIfInBounds_toArray, List.set_cons_zero, List.set_cons_succ]
            refine wpAnyH_take (i := 37) (v := ?_) rfl (by kernel_rfl) (by kernel_rfl) (by kernel_rfl) (fun _ _ _ h => h) (Or.inl ⟨by kernel_rfl, ?_⟩) (by assumption) ?_
            rotate_left
            · intro wq hSq
              (try dsimp only at hSq)
              go_simp
              all_goals with_reducible rfl
            try simp only [Act.put, List.setIfInBounds_toArray, List.set_cons_zero, List.set_cons_succ]
            refine wpAnyH_take (i := 38) (v := ?_) rfl (by kernel_rfl) (by kernel_rfl) (by kernel_rfl) (fun _ _ _ h => h) (Or.inl ⟨by kernel_rfl, ?_⟩) (by assumption) ?_
            rotate_left
            · intro wq hSq
              (try dsimp only at hSq)
              go_simp
              all_goals with_reducible rfl
            try simp only [Act.put, List.setIfInBounds_toArray, List.set_cons_zero, List.set_cons_succ]
            refine wpAnyH_take (i := 39) (v := ?_) rfl (by kernel_rfl) (by kernel_rfl) (by kernel_rfl) (fun _ _ _ h => h) (Or.inl ⟨by kernel_rfl, ?_⟩) (by assumption) ?_
            rotate_left
            · intro wq hSq
              (try dsimp only at hSq)
              go_simp
              all_goals with_reducible rfl
            try simp only [Act.put, List.setIfInBounds_toArray, List.set_cons_zero, List.set_cons_succ]
            refine wpAnyH_done (by kernel_rfl) ?_ _
            try simp only [Act.put, List.getElem_toArray, List.getElem_cons_succ, List.getElem_cons_zero, List.setIfInBounds_toArray, List.set_cons_zero, List.set_cons_succ]
            have b12 := below_step b10 h1012
            go_wp2_with fail
            go_ret
            exact ⟨rfl, by first | exact b12 | exact hbz _ b12⟩
      · rw [if_neg (by omega)] at ha
        rw [ha] at hX hR
        simp only at hX hR
        rw [one_some _ rejB_ne] at hX
        rw [one_nil] at hR
        have hX : saidL own true false [(k, v)] = [(k, ⟨#[82, 101, 106, 101, 99, 116]⟩)] := hX
        have HX := Lib.hid hX
        have HR := Lib.hid hR
        clear ha hX hR hk hF hFk hOl
        have hb6w := below_step hb5w hb6
        have hB6 := hB5.below hb6 hB5.lt
        have hN6 := hN5.on hb6
        have y0 := hB6.cell 0
        have y1 := hB6.cell 1
        have h6l := hN6.lt
        have hba6 : Below w6.heap.size w6 (w6.alloc (.cells #[.string k, .string v] 52)) := (Below.refl _ _).alloc (Nat.le_refl _) _
        have hb6a := below_step hb6w hba6
        have hNa := hN6.on hba6
        clear z0 z1 hN5
        go_wp2_with fail
        refine (nanswer_any g S own [] [(k, v)] true false _ _ w hNa (SRd.litp (Blk.new w6 _ _) rfl (by rfl) (by show 1 ≤ _; unfold maxLen; omega)) (fun _ k1 hk1 hm => by have h8 := h6l k1 hm; injection hk1 with hk1; have h9 : w6.heap.size = k1 := hk1; omega) HSM.out (own_ok hnew).1 (by simp) (.inl rfl) V hb6a hS0).mono ?_
        rw [HE.out]
        rintro e w7 ⟨S7, u7, rfl, hu7, hN7, hnf7, hS7, hdu7⟩
        have hb7w := (ans_after hb6a hS0 hnf7 hS7).1
        have hzS : z ∉ S := fun hm => by have h1 := hS z hm; have h2 := hB4z.out; omega
        have hB7 : Blk w7 z 52 #[.string k, .string v] := (hnf7.block z (by simp; exact Nat.lt_succ_of_lt hB6.lt) hzS).trans (hB6.below hba6 hB6.lt)
        rw [HX.out] at hu7
        rw [HR.out] at hN7
        have hx7 := hu7.rd
        obtain ⟨uA7, ucap7, rfl⟩ := hu7.form
        clear hu7 hnf7 hS7 hdu7 hNa y0 y1 h6l hN6 hzS
        have V7 := V.on hb7w
        have z0 := hB7.cell 0
        have z1 := hB7.cell 1
        go_wp2_with fail
        refine (of_some k r K D _ _ _ HK.out HKK.out HD.out rfl rfl V7.T).mono ?_
        rintro e w8 ⟨rfl, hb8⟩
        have hbK : Below w8.heap.size w8 (w8.alloc (.cells #[.string ⟨r.name.toArray⟩, .int .i64 K, .int .i64 r.low, .int .i64 r.high, .string D, .bool r.noth, .bool r.lonly] 58)) := (Below.refl _ _).alloc (Nat.le_refl _) _
        have hBk := Blk.new w8 58 #[.string ⟨r.name.toArray⟩, .int .i64 K, .int .i64 r.low, .int .i64 r.high, .string D, .bool r.noth, .bool r.lonly]
        obtain ⟨y, hy⟩ : ∃ y, w8.heap.size = y := ⟨_, rfl⟩
        rw [hy] at hBk
        have hb79 := below_step hb8 hbK
        have hB9 := hB7.below hb79 hB7.lt
        have b9 := below_step hb7w hb79
        have V9 := V.on b9
        have hzy : z ≠ y := by have := hB7.lt; have := hb8.size; omega
        have hb7x : ∀ {W : World}, Below (w8.alloc (.cells #[.string ⟨r.name.toArray⟩, .int .i64 K, .int .i64 r.low, .int .i64 r.high, .string D, .bool r.noth, .bool r.lonly] 58)).heap.size (w8.alloc (.cells #[.string ⟨r.name.toArray⟩, .int .i64 K, .int .i64 r.low, .int .i64 r.high, .string D, .bool r.noth, .bool r.lonly] 58)) W → Below w7.heap.size w7 W := fun h => below_step hb79 h
        clear z0 z1
        have k1 := hBk.cell 1
        have z0 := hB9.cell 0
        have z1 := hB9.cell 1
        rcases hK67 with rfl | rfl
        · go_wp2_with fail
          refine (fits_any k v _ (by omega) V9.T V9.E V9.S).mono ?_
          rintro e w10 ⟨rfl, hb10⟩
          rw [HF.out]
          have hb710 := hb7x hb10
          have b10 := below_step hb7w hb710
          have hB10 := hB9.below hb10 hB9.lt
          clear z0 z1 k1 hb7x
          have z0 := hB10.cell 0
          have z1 := hB10.cell 1
          have hzl := hB10.lt
          have hx10 := hx7.on hb710
          have hN10 := hN7.on hb710
          have hFe : ∃ t x, errv F = .iface t x := by unfold errv; rw [if_neg (by omega)]; exact ⟨_, _, rfl⟩
          obtain ⟨t, x, hFe⟩ := hFe
          rw [hFe]
          have hbA : Below w10.heap.size w10 w10.drew := (Below.refl _ _).drew
          clear hFe hN7 hx7
          go_wp2_with fail
          refine wp_region_held_drew (S := (fun W => W.cell? ⟨z, 0, none⟩ = some (.string k) ∧ W.cell? ⟨z, 1, none⟩ = some (.string v))) (by kernel_rfl) ⟨z0, z1⟩ (fun hHeld => ?_)
          refine wpAnyH_take (i := 0) (v := ?_) rfl (by kernel_rfl) (by kernel_rfl) (by kernel_rfl) (fun _ _ _ h => h) (Or.inl ⟨by kernel_rfl, ?_⟩) (by assumption) ?_
          rotate_left
          · intro wq hSq
            (try dsimp only at hSq)
            go_simp
            all_goals with_reducible rfl
          try simp only [Act.put, List.setIfInBounds_toArray, List.set_cons_zero, List.set_cons_succ]
          refine wpAnyH_take (i := 1) (v := ?_) rfl (by kernel_rfl) (by kernel_rfl) (by kernel_rfl) (fun _ _ _ h => h) (Or.inl ⟨by kernel_rfl, ?_⟩) (by assumption) ?_
          rotate_left
          · intro wq hSq
            (try dsimp only at hSq)
            go_simp
            all_goals with_reducible rfl
          try simp only [Act.put, List.setIfInBounds_toArray, List.set_cons_zero, List.set_cons_succ]
          refine wpAnyH_take (i := 2) (v := ?_) rfl (by kernel_rfl) (by kernel_rfl) (by kernel_rfl) (fun _ _ _ h => h) (Or.inl ⟨by kernel_rfl, ?_⟩) (by assumption) ?_
          rotate_left
          · intro wq hSq
            (try dsimp only at hSq)
            go_simp
            all_goals with_reducible rfl
          try simp only [Act.put, List.setIfInBounds_toArray, List.set_cons_zero, List.set_cons_succ]
          refine wpAnyH_take (i := 3) (v := ?_) rfl (by kernel_rfl) (by kernel_rfl) (by kernel_rfl) (fun _ _ _ h => h) (Or.inl ⟨by kernel_rfl, ?_⟩) (by assumption) ?_
          rotate_left
          · intro wq hSq
            (try dsimp only at hSq)
            go_simp
            all_goals with_reducible rfl
          try simp only [Act.put, List.setIfInBounds_toArray, List.set_cons_zero, List.set_cons_succ]
          refine wpAnyH_take (i := 4) (v := ?_) rfl (by kernel_rfl) (by kernel_rfl) (by kernel_rfl) (fun _ _ _ h => h) (Or.inl ⟨by kernel_rfl, ?_⟩) (by assumption) ?_
          rotate_left
          · intro wq hSq
            (try dsimp only at hSq)
            go_simp
            all_goals with_reducible rfl
          try simp only [Act.put, List.setIfInBounds_toArray, List.set_cons_zero, List.set_cons_succ]
          refine wpAnyH_take (i := 5) (v := ?_) rfl (by kernel_rfl) (by kernel_rfl) (by kernel_rfl) (fun _ _ _ h => h) (Or.inl ⟨by kernel_rfl, ?_⟩) (by assumption) ?_
          rotate_left
          · intro wq hSq
            (try dsimp only at hSq)
            go_simp
            all_goals with_reducible rfl
          try simp only [Act.put, List.setIfInBounds_toArray, List.set_cons_zero, List.set_cons_succ]
          refine wpAnyH_take (i := 6) (v := ?_) rfl (by kernel_rfl) (by kernel_rfl) (by kernel_rfl) (fun _ _ _ h => h) (Or.inl ⟨by kernel_rfl, ?_⟩) (by assumption) ?_
          rotate_left
          · intro wq hSq
            (try dsimp only at hSq)
            go_simp
            all_goals with_reducible rfl
          try simp only [Act.put, List.setIfInBounds_toArray, List.set_cons_zero, List.set_cons_succ]
          refine wpAnyH_take (i := 7) (v := ?_) rfl (by kernel_rfl) (by kernel_rfl) (by kernel_rfl) (fun _ _ _ h => h) (Or.inl ⟨by kernel_rfl, ?_⟩) (by assumption) ?_
          rotate_left
          · intro wq hSq
            (try dsimp only at hSq)
            go_simp
            all_goals with_reducible rfl
          try simp only [Act.put, List.setIfInBounds_toArray, List.set_cons_zero, List.set_cons_succ]
          refine wpAnyH_take (i := 8) (v := ?_) rfl (by kernel_rfl) (by kernel_rfl) (by kernel_rfl) (fun _ _ _ h => h) (Or.inl ⟨by kernel_rfl, ?_⟩) (by assumption) ?_
          rotate_left
          · intro wq hSq
            (try dsimp only at hSq)
            go_simp
            all_goals with_reducible rfl
          try simp only [Act.put, List.setIfInBounds_toArray, List.set_cons_zero, List.set_cons_succ]
          refine wpAnyH_take (i := 9) (v := undef) rfl (by kernel_rfl) (by kernel_rfl) (by kernel_rfl) (fun _ _ _ h => h) (Or.inr ⟨by kernel_rfl, rfl⟩) (by assumption) ?_
          try simp only [Act.put, List.setIfInBounds_toArray, List.set_cons_zero, List.set_cons_succ]
          refine wpAnyH_take (i := 10) (v := undef) rfl (by kernel_rfl) (by kernel_rfl) (by kernel_rfl) (fun _ _ _ h => h) (Or.inr ⟨by kernel_rfl, rfl⟩) (by assumption) ?_
          try simp only [Act.put, List.setIfInBounds_toArray, List.set_cons_zero, List.set_cons_succ]
          refine wpAnyH_take (i := 11) (v := undef) rfl (by kernel_rfl) (by kernel_rfl) (by kernel_rfl) (fun _ _ _ h => h) (Or.inr ⟨by kernel_rfl, rfl⟩) (by assumption) ?_
          try simp only [Act.put, List.setIfInBounds_toArray, List.set_cons_zero, List.set_cons_succ]
          refine wpAnyH_take (i := 12) (v := ?_) rfl (by kernel_rfl) (by kernel_rfl) (by kernel_rfl) (fun _ _ _ h => h) (Or.inl ⟨by kernel_rfl, ?_⟩) (by assumption) ?_
          rotate_left
          · intro wq hSq
            (try dsimp only at hSq)
            go_simp
            all_goals with_reducible rfl
          try simp only [Act.put, List.setIfInBounds_toArray, List.set_cons_zero, List.set_cons_succ]
          refine wpAnyH_take (i := 13) (v := ?_) rfl (by kernel_rfl) (by kernel_rfl) (by kernel_rfl) (fun _ _ _ h => h) (Or.inl ⟨by kernel_rfl, ?_⟩) (by assumption) ?_
          rotate_left
          · intro wq hSq
            (try dsimp only at hSq)
            go_simp
            all_goals with_reducible rfl
          try simp only [Act.put, List.setIfInBounds_toArray, List.set_cons_zero, List.set_cons_succ]
          refine wpAnyH_take (i := 14) (v := undef) rfl (by kernel_rfl) (by kernel_rfl) (by kernel_rfl) (fun _ _ _ h => h) (Or.inr ⟨by kernel_rfl, rfl⟩) (by assumption) ?_
          try simp only [Act.put, List.setIfInBounds_toArray, List.set_cons_zero, List.set_cons_succ]
          refine wpAnyH_take (i := 15) (v := undef) rfl (by kernel_rfl) (by kernel_rfl) (by kernel_rfl) (fun _ _ _ h => h) (Or.inr ⟨by kernel_rfl, rfl⟩) (by assumption) ?_
          try simp only [Act.put, List.setIfInBounds_toArray, List.set_cons_zero, List.set_cons_succ]
          refine wpAnyH_take (i := 16) (v := undef) rfl (by kernel_rfl) (by kernel_rfl) (by kernel_rfl) (fun _ _ _ h => h) (Or.inr ⟨by kernel_rfl, rfl⟩) (by assumption) ?_
          try simp only [Act.put, List.setIfInBounds_toArray, List.set_cons_zero, List.set_cons_succ]
          refine wpAnyH_take (i := 17) (v := undef) rfl (by kernel_rfl) (by kernel_rfl) (by kernel_rfl) (fun _ _ _ h => h) (Or.inr ⟨by kernel_rfl, rfl⟩) (by assumption) ?_
          try simp only [Act.put, List.setIfInBounds_toArray, List.set_cons_zero, List.set_cons_succ]
          refine wpAnyH_take (i := 18) (v := undef) rfl (by kernel_rfl) (by kernel_rfl) (by kernel_rfl) (fun _ _ _ h => h) (Or.inr ⟨by kernel_rfl, rfl⟩) (by assumption) ?_
          try simp only [Act.put, List.setIfInBounds_toArray, List.set_cons_zero, List.set_cons_succ]
          refine wpAnyH_take (i := 19) (v := ?_) rfl (by kernel_rfl) (by kernel_rfl) (by kernel_rfl) (fun _ _ _ h => h) (Or.inl ⟨by kernel_rfl, ?_⟩) (by assumption) ?_
          rotate_left
          · intro wq hSq
            (try dsimp only at hSq)
            go_simp
            all_goals with_reducible rfl
          try simp only [Act.put, List.setIfInBounds_toArray, List.set_cons_zero, List.set_cons_succ]
          refine wpAnyH_take (i := 20) (v := ?_) rfl (by kernel_rfl) (by kernel_rfl) (by kernel_rfl) (fun _ _ _ h => h) (Or.inl ⟨by kernel_rfl, ?_⟩) (by assumption) ?_
          rotate_left
          · intro wq hSq
            (try dsimp only at hSq)
            go_simp
            all_goals with_reducible rfl
          try simp only [Act.put, List.setIfInBounds_toArray, List.set_cons_zero, List.set_cons_succ]
          refine wpAnyH_take (i := 21) (v := ?_) rfl (by kernel_rfl) (by kernel_rfl) (by kernel_rfl) (fun _ _ _ h => h) (Or.inl ⟨by kernel_rfl, ?_⟩) (by assumption) ?_
          rotate_left
          · intro wq hSq
            (try dsimp only at hSq)
            go_simp
            all_goals with_reducible rfl
          try simp only [Act.put, List.setIfInBounds_toArray, List.set_cons_zero, List.set_cons_succ]
          refine wpAnyH_take (i := 22) (v := ?_) rfl (by kernel_rfl) (by kernel_rfl) (by kernel_rfl) (fun _ _ _ h => h) (Or.inl ⟨by kernel_rfl, ?_⟩) (by assumption) ?_
          rotate_left
          · intro wq hSq
            (try dsimp only at hSq)
            go_simp
            all_goals with_reducible rfl
          try simp only [Act.put, List.setIfInBounds_toArray, List.set_cons_zero, List.set_cons_succ]
          refine wpAnyH_take (i := 23) (v := ?_) rfl (by kernel_rfl) (by kernel_rfl) (by kernel_rfl) (fun _ _ _ h => h) (Or.inl ⟨by kernel_rfl, ?_⟩) (by assumption) ?_
          rotate_left
          · intro wq hSq
            (try dsimp only at hSq)
            go_simp
            all_goals with_reducible rfl
          try simp only [Act.put, List.setIfInBounds_toArray, List.set_cons_zero, List.set_cons_succ]
          refine wpAnyH_take (i := 24) (v := ?_) rfl (by kernel_rfl) (by kernel_rfl) (by kernel_rfl) (fun _ _ _ h => h) (Or.inl ⟨by kernel_rfl, ?_⟩) (by assumption) ?_
          rotate_left
          · intro wq hSq
            (try dsimp only at hSq)
            go_simp
            all_goals with_reducible rfl
          try simp only [Act.put, List.setIfInBounds_toArray, List.set_cons_zero, List.set_cons_succ]
          refine wpAnyH_take (i := 25) (v := ?_) rfl (by kernel_rfl) (by kernel_rfl) (by kernel_rfl) (fun _ _ _ h => h) (Or.inl ⟨by kernel_rfl, ?_⟩) (by assumption) ?_
          rotate_left
          · intro wq hSq
            (try dsimp only at hSq)
            go_simp
            all_goals with_reducible rfl
          try simp only [Act.put, List.setIfInBounds_toArray, List.set_cons_zero, List.set_cons_succ]
          refine wpAnyH_take (i := 26) (v := ?_) rfl (by kernel_rfl) (by kernel_rfl) (by kernel_rfl) (fun _ _ _ h => h) (Or.inl ⟨by kernel_rfl, ?_⟩) (by assumption) ?_
          rotate_left
          · intro wq hSq
            (try dsimp only at hSq)
            go_simp
            all_goals with_reducible rfl
          try simp only [Act.put, List.setIfInBounds_toArray, List.set_cons_zero, List.set_cons_succ]
          refine wpAnyH_ready (rs := [27]) (by kernel_rfl) (by simp) ?_
          refine AllReadyH.cons rfl (fun K hK => ?_) AllReadyH.nil
          go_simp
          go_at_call 43
          refine (pair_any k ⟨#[82, 101, 106, 101, 99, 116]⟩ _).mono ?_
          rintro e w11 ⟨rfl, hb11⟩
          have h1011 : Below w10.heap.size w10 w11 := by first | exact hbA.trans hb11 | exact hb11
          have hx11 := hx10.on h1011
          have k01 := And.intro ((h1011.cell (p := ⟨z, 0, none⟩) hzl).trans z0) ((h1011.cell (p := ⟨z, 1, none⟩) hzl).trans z1)
          have hba11 : Below w11.heap.size w11 (w11.alloc (.cells #[.string k, .string ⟨#[82, 101, 106, 101, 99, 116]⟩] 52)) := (Below.refl _ _).alloc (Nat.le_refl _) _
          have h10b := below_step h1011 hba11
          have k03 := And.intro ((h10b.cell (p := ⟨z, 0, none⟩) hzl).trans z0) ((h10b.cell (p := ⟨z, 1, none⟩) hzl).trans z1)
          go_wp2_with fail
          refine hK.out _ _ k01 (fun hHeld => ?_)
          try simp only [Act.put, List.setIfInBounds_toArray, List.set_cons_zero, List.set_cons_succ]
          refine wpAnyH_ready (rs := [28]) (by kernel_rfl) (by simp) ?_
          refine AllReadyH.cons rfl (fun K hK => ?_) AllReadyH.nil
          go_simp
          go_wp2_with fail
          refine hK.out _ _ k03 (fun hHeld => ?_)
          try simp only [Act.put, List.setIfInBounds_toArray, List.set_cons_zero, List.set_cons_succ]
          refine wpAnyH_ready (rs := [29]) (by kernel_rfl) (by simp) ?_
          refine AllReadyH.cons rfl (fun K hK => ?_) AllReadyH.nil
          go_simp
          go_at_call 33
          refine (pequal_same [(k, ⟨#[82, 101, 106, 101, 99, 116]⟩)] _ _ _ (hx11.on hba11) (SRd.litp (Blk.new w11 _ _) rfl (by rfl) (by show 1 ≤ _; unfold maxLen; omega))).mono ?_
          rintro e w12 ⟨rfl, kq, hw12⟩
          have h1012 : Below w10.heap.size w10 w12 := by rw [hw12]; exact below_dK h10b kq
          clear hw12
          have hN12 := hN10.on h1012
          have k02 := And.intro ((h1012.cell (p := ⟨z, 0, none⟩) hzl).trans z0) ((h1012.cell (p := ⟨z, 1, none⟩) hzl).trans z1)
          go_wp2_with fail
          refine hK.out _ _ k02 (fun hHeld => ?_)
          try simp only [Act.put, List.setIfInBounds_toArray, List.set_cons_zero, List.set_cons_succ]
          refine wpAnyH_take (i := 30) (v := ?_) rfl (by kernel_rfl) (by kernel_rfl) (by kernel_rfl) (fun _ _ _ h => h) (Or.inl ⟨by kernel_rfl, ?_⟩) (by assumption) ?_
          rotate_left
          · intro wq hSq
            (try dsimp only at hSq)
            go_simp
            all_goals with_reducible rfl
          try simp only [Act.put, List.setIfInBounds_toArray, List.set_cons_zero, List.set_cons_succ]
          refine wpAnyH_take (i := 31) (v := ?_) rfl (by kernel_rfl) (by kernel_rfl) (by kernel_rfl) (fun _ _ _ h => h) (Or.inl ⟨by kernel_rfl, ?_⟩) (by assumption) ?_
          rotate_left
          · intro wq hSq
            (try dsimp only at hSq)
            go_simp
            all_goals with_reducible rfl
          try simp only [Act.put, List.setIfInBounds_toArray, List.set_cons_zero, List.set_cons_succ]
          refine wpAnyH_take (i := 32) (v := ?_) rfl (by kernel_rfl) (by kernel_rfl) (by kernel_rfl) (fun _ _ _ h => h) (Or.inl ⟨by kernel_rfl, ?_⟩) (by assumption) ?_
          rotate_left
          · intro wq hSq
            (try dsimp only at hSq)
            go_simp
            all_goals with_reducible rfl
          try simp only [Act.put, List.setIfInBounds_toArray, List.set_cons_zero, List.set_cons_succ]
          refine wpAnyH_ready (rs := [33]) (by kernel_rfl) (by simp) ?_
          refine AllReadyH.cons rfl (fun K hK => ?_) AllReadyH.nil
          go_simp
          go_at_call 31
          refine (nrec_any g S7 own [] _ hN12 (by simp)).mono ?_
          rintro e w13 ⟨v13, rfl, hr13, hb13⟩
          obtain ⟨A13, cap13, rfl, _⟩ := hr13.form
          have h1013 := below_step h1012 hb13
          have k04 := And.intro ((h1013.cell (p := ⟨z, 0, none⟩) hzl).trans z0) ((h1013.cell (p := ⟨z, 1, none⟩) hzl).trans z1)
          clear hr13
          go_wp2_with fail
          refine hK.out _ _ k04 (fun hHeld => ?_)
          try simp only [Act.put, List.setIfInBounds_toArray, List.set_cons_zero, List.set_cons_succ]
          refine wpAnyH_take (i := 34) (v := ?_) rfl (by kernel_rfl) (by kernel_rfl) (by kernel_rfl) (fun _ _ _ h => h) (Or.inl ⟨by kernel_rfl, ?_⟩) (by assumption) ?_
          rotate_left
          · intro wq hSq
            (try dsimp only at hSq)
            go_simp
            all_goals with_reducible rfl
          try simp only [Act.put, List.setIfInBounds_toArray, List.set_cons_zero, List.set_cons_succ]
          refine wpAnyH_take (i := 35) (v := ?_) rfl (by kernel_rfl) (by kernel_rfl) (by kernel_rfl) (fun _ _ _ h => h) (Or.inl ⟨by kernel_rfl, ?_⟩) (by assumption) ?_
          rotate_left
          · intro wq hSq
            (try dsimp only at hSq)
            go_simp
            all_goals with_reducible rfl
          try simp only [Act.put, List.setIfInBounds_toArray, List.set_cons_zero, List.set_cons_succ]
          refine wpAnyH_take (i := 36) (v := ?_) rfl (by kernel_rfl) (by kernel_rfl) (by kernel_rfl) (fun _ _ _ h => h) (Or.inl ⟨by kernel_rfl, ?_⟩) (by assumption) ?_
          rotate_left
          · intro wq hSq
            (try dsimp only at hSq)
            go_simp
            all_goals with_reducible rfl
          try simp only [Act.put, List.setIfInBounds_toArray, List.set_cons_zero, List.set_cons_succ]
          refine wpAnyH_take (i := 37) (v := ?_) rfl (by kernel_rfl) (by kernel_rfl) (by kernel_rfl) (fun _ _ _ h => h) (Or.inl ⟨by kernel_rfl, ?_⟩) (by assumption) ?_
          rotate_left
          · intro wq hSq
            (try dsimp only at hSq)
            go_simp
            all_goals with_reducible rfl
          try simp only [Act.put, List.setIfInBounds_toArray, List.set_cons_zero, List.set_cons_succ]
          refine wpAnyH_take (i := 38) (v := ?_) rfl (by kernel_rfl) (by kernel_rfl) (by kernel_rfl) (fun _ _ _ h => h) (Or.inl ⟨by kernel_rfl, ?_⟩) (by assumption) ?_
          rotate_left
          · intro wq hSq
            (try dsimp only at hSq)
            go_simp
            all_goals with_reducible rfl
          try simp only [Act.put, List.setIfInBounds_toArray, List.set_cons_zero, List.set_cons_succ]
          refine wpAnyH_take (i := 39) (v := ?_) rfl (by kernel_rfl) (by kernel_rfl) (by kernel_rfl) (fun _ _ _ h => h) (Or.inl ⟨by kernel_rfl, ?_⟩) (by assumption) ?_
          rotate_left
          · intro wq hSq
            (try dsimp only at hSq)
            go_simp
            all_goals with_reducible rfl
          try simp only [Act.put, List.setIfInBounds_toArray, List.set_cons_zero, List.set_cons_succ]
          refine wpAnyH_done (by kernel_rfl) ?_ _
          try simp only [Act.put, List.getElem_toArray, List.getElem_cons_succ, List.getElem_cons_zero, List.setIfInBounds_toArray, List.set_cons_zero, List.set_cons_succ]
          have b12 := below_step b10 h1013
          go_wp2_with fail
          go_ret
          exact ⟨rfl, by first | exact b12 | exact hbz _ b12⟩
        · go_wp2_with fail
          refine (fits_any k v _ (by omega) V9.T V9.E V9.S).mono ?_
          rintro e w10 ⟨rfl, hb10⟩
          rw [HF.out]
          have hb710 := hb7x hb10
          have b10 := below_step hb7w hb710
          have hB10 := hB9.below hb10 hB9.lt
          clear z0 z1 k1 hb7x
          have z0 := hB10.cell 0
          have z1 := hB10.cell 1
          have hzl := hB10.lt
          have hx10 := hx7.on hb710
          have hN10 := hN7.on hb710
          have hFe : ∃ t x, errv F = .iface t x := by unfold errv; rw [if_neg (by omega)]; exact ⟨_, _, rfl⟩
          obtain ⟨t, x, hFe⟩ := hFe
          rw [hFe]
          have hbA : Below w10.heap.size w10 w10.drew := (Below.refl _ _).drew
          clear hFe hN7 hx7
          go_wp2_with fail
          refine wp_region_held_drew (S := (fun W => W.cell? ⟨z, 0, none⟩ = some (.string k) ∧ W.cell? ⟨z, 1, none⟩ = some (.string v))) (by kernel_rfl) ⟨z0, z1⟩ (fun hHeld => ?_)
          refine wpAnyH_take (i := 0) (v := ?_) rfl (by kernel_rfl) (by kernel_rfl) (by kernel_rfl) (fun _ _ _ h => h) (Or.inl ⟨by kernel_rfl, ?_⟩) (by assumption) ?_
          rotate_left
          · intro wq hSq
            (try dsimp only at hSq)
            go_simp
            all_goals with_reducible rfl
          try simp only [Act.put, List.setIfInBounds_toArray, List.set_cons_zero, List.set_cons_succ]
          refine wpAnyH_take (i := 1) (v := ?_) rfl (by kernel_rfl) (by kernel_rfl) (by kernel_rfl) (fun _ _ _ h => h) (Or.inl ⟨by kernel_rfl, ?_⟩) (by assumption) ?_
          rotate_left
          · intro wq hSq
            (try dsimp only at hSq)
            go_simp
            all_goals with_reducible rfl
          try simp only [Act.put, List.setIfInBounds_toArray, List.set_cons_zero, List.set_cons_succ]
          refine wpAnyH_take (i := 2) (v := ?_) rfl (by kernel_rfl) (by kernel_rfl) (by kernel_rfl) (fun _ _ _ h => h) (Or.inl ⟨by kernel_rfl, ?_⟩) (by assumption) ?_
          rotate_left
          · intro wq hSq
            (try dsimp only at hSq)
            go_simp
            all_goals with_reducible rfl
          try simp only [Act.put, List.setIfInBounds_toArray, List.set_cons_zero, List.set_cons_succ]
          refine wpAnyH_take (i := 3) (v := ?_) rfl (by kernel_rfl) (by kernel_rfl) (by kernel_rfl) (fun _ _ _ h => h) (Or.inl ⟨by kernel_rfl, ?_⟩) (by assumption) ?_
          rotate_left
          · intro wq hSq
            (try dsimp only at hSq)
            go_simp
            all_goals with_reducible rfl
          try simp only [Act.put, List.setIfInBounds_toArray, List.set_cons_zero, List.set_cons_succ]
          refine wpAnyH_take (i := 4) (v := ?_) rfl (by kernel_rfl) (by kernel_rfl) (by kernel_rfl) (fun _ _ _ h => h) (Or.inl ⟨by kernel_rfl, ?_⟩) (by assumption) ?_
          rotate_left
          · intro wq hSq
            (try dsimp only at hSq)
            go_simp
            all_goals with_reducible rfl
          try simp only [Act.put, List.setIfInBounds_toArray, List.set_cons_zero, List.set_cons_succ]
          refine wpAnyH_take (i := 5) (v := ?_) rfl (by kernel_rfl) (by kernel_rfl) (by kernel_rfl) (fun _ _ _ h => h) (Or.inl ⟨by kernel_rfl, ?_⟩) (by assumption) ?_
          rotate_left
          · intro wq hSq
            (try dsimp only at hSq)
            go_simp
            all_goals with_reducible rfl
          try simp only [Act.put, List.setIfInBounds_toArray, List.set_cons_zero, List.set_cons_succ]
          refine wpAnyH_take (i := 6) (v := ?_) rfl (by kernel_rfl) (by kernel_rfl) (by kernel_rfl) (fun _ _ _ h => h) (Or.inl ⟨by kernel_rfl, ?_⟩) (by assumption) ?_
          rotate_left
          · intro wq hSq
            (try dsimp only at hSq)
            go_simp
            all_goals with_reducible rfl
          try simp only [Act.put, List.setIfInBounds_toArray, List.set_cons_zero, List.set_cons_succ]
          refine wpAnyH_take (i := 7) (v := ?_) rfl (by kernel_rfl) (by kernel_rfl) (by kernel_rfl) (fun _ _ _ h => h) (Or.inl ⟨by kernel_rfl, ?_⟩) (by assumption) ?_
          rotate_left
          · intro wq hSq
            (try dsimp only at hSq)
            go_simp
            all_goals with_reducible rfl
          try simp only [Act.put, List.setIfInBounds_toArray, List.set_cons_zero, List.set_cons_succ]
          refine wpAnyH_take (i := 8) (v := ?_) rfl (by kernel_rfl) (by kernel_rfl) (by kernel_rfl) (fun _ _ _ h => h) (Or.inl ⟨by kernel_rfl, ?_⟩) (by assumption) ?_
          rotate_left
          · intro wq hSq
            (try dsimp only at hSq)
            go_simp
            all_goals with_reducible rfl
          try simp only [Act.put, List.setIfInBounds_toArray, List.set_cons_zero, List.set_cons_succ]
          refine wpAnyH_take (i := 9) (v := undef) rfl (by kernel_rfl) (by kernel_rfl) (by kernel_rfl) (fun _ _ _ h => h) (Or.inr ⟨by kernel_rfl, rfl⟩) (by assumption) ?_
          try simp only [Act.put, List.setIfInBounds_toArray, List.set_cons_zero, List.set_cons_succ]
          refine wpAnyH_take (i := 10) (v := undef) rfl (by kernel_rfl) (by kernel_rfl) (by kernel_rfl) (fun _ _ _ h => h) (Or.inr ⟨by kernel_rfl, rfl⟩) (by assumption) ?_
          try simp only [Act.put, List.setIfInBounds_toArray, List.set_cons_zero, List.set_cons_succ]
          refine wpAnyH_take (i := 11) (v := undef) rfl (by kernel_rfl) (by kernel_rfl) (by kernel_rfl) (fun _ _ _ h => h) (Or.inr ⟨by kernel_rfl, rfl⟩) (by assumption) ?_
          try simp only [Act.put, List.setIfInBounds_toArray, List.set_cons_zero, List.set_cons_succ]
          refine wpAnyH_take (i := 12) (v := ?_) rfl (by kernel_rfl) (by kernel_rfl) (by kernel_rfl) (fun _ _ _ h => h) (Or.inl ⟨by kernel_rfl, ?_⟩) (by assumption) ?_
          rotate_left
          · intro wq hSq
            (try dsimp only at hSq)
            go_simp
            all_goals with_reducible rfl
          try simp only [Act.put, List.setIfInBounds_toArray, List.set_cons_zero, List.set_cons_succ]
          refine wpAnyH_take (i := 13) (v := ?_) rfl (by kernel_rfl) (by kernel_rfl) (by kernel_rfl) (fun _ _ _ h => h) (Or.inl ⟨by kernel_rfl, ?_⟩) (by assumption) ?_
          rotate_left
          · intro wq hSq
            (try dsimp only at hSq)
            go_simp
            all_goals with_reducible rfl
          try simp only [Act.put, List.setIfInBounds_toArray, List.set_cons_zero, List.set_cons_succ]
          refine wpAnyH_take (i := 14) (v := undef) rfl (by kernel_rfl) (by kernel_rfl) (by kernel_rfl) (fun _ _ _ h => h) (Or.inr ⟨by kernel_rfl, rfl⟩) (by assumption) ?_
          try simp only [Act.put, List.setIfInBounds_toArray, List.set_cons_zero, List.set_cons_succ]
          refine wpAnyH_take (i := 15) (v := undef) rfl (by kernel_rfl) (by kernel_rfl) (by kernel_rfl) (fun _ _ _ h => h) (Or.inr ⟨by kernel_rfl, rfl⟩) (by assumption) ?_
          try simp only [Act.put, List.setIfInBounds_toArray, List.set_cons_zero, List.set_cons_succ]
          refine wpAnyH_take (i := 16) (v := undef) rfl (by kernel_rfl) (by kernel_rfl) (by kernel_rfl) (fun _ _ _ h => h) (Or.inr ⟨by kernel_rfl, rfl⟩) (by assumption) ?_
          try simp only [Act.put, List.setIfInBounds_toArray, List.set_cons_zero, List.set_cons_succ]
          refine wpAnyH_take (i := 17) (v := undef) rfl (by kernel_rfl) (by kernel_rfl) (by kernel_rfl) (fun _ _ _ h => h) (Or.inr ⟨by kernel_rfl, rfl⟩) (by assumption) ?_
          try simp only [Act.put, List.setIfInBounds_toArray, List.set_cons_zero, List.set_cons_succ]
          refine wpAnyH_take (i := 18) (v := undef) rfl (by kernel_rfl) (by kernel_rfl) (by kernel_rfl) (fun _ _ _ h => h) (Or.inr ⟨by kernel_rfl, rfl⟩) (by assumption) ?_
          try simp only [Act.put, List.setIfInBounds_toArray, List.set_cons_zero, List.set_cons_succ]
          refine wpAnyH_take (i := 19) (v := ?_) rfl (by kernel_rfl) (by kernel_rfl) (by kernel_rfl) (fun _ _ _ h => h) (Or.inl ⟨by kernel_rfl, ?_⟩) (by assumption) ?_
          rotate_left
          · intro wq hSq
            (try dsimp only at hSq)
            go_simp
            all_goals with_reducible rfl
          try simp only [Act.put, List.setIfInBounds_toArray, List.set_cons_zero, List.set_cons_succ]
          refine wpAnyH_take (i := 20) (v := ?_) rfl (by kernel_rfl) (by kernel_rfl) (by kernel_rfl) (fun _ _ _ h => h) (Or.inl ⟨by kernel_rfl, ?_⟩) (by assumption) ?_
          rotate_left
          · intro wq hSq
            (try dsimp only at hSq)
            go_simp
            all_goals with_reducible rfl
          try simp only [Act.put, List.setIfInBounds_toArray, List.set_cons_zero, List.set_cons_succ]
          refine wpAnyH_take (i := 21) (v := ?_) rfl (by kernel_rfl) (by kernel_rfl) (by kernel_rfl) (fun _ _ _ h => h) (Or.inl ⟨by kernel_rfl, ?_⟩) (by assumption) ?_
          rotate_left
          · intro wq hSq
            (try dsimp only at hSq)
            go_simp
            all_goals with_reducible rfl
          try simp only [Act.put, List.setIfInBounds_toArray, List.set_cons_zero, List.set_cons_succ]
          refine wpAnyH_take (i := 22) (v := ?_) rfl (by kernel_rfl) (by kernel_rfl) (by kernel_rfl) (fun _ _ _ h => h) (Or.inl ⟨by kernel_rfl, ?_⟩) (by assumption) ?_
          rotate_left
          · intro wq hSq
            (try dsimp only at hSq)
            go_simp
            all_goals with_reducible rfl
          try simp only [Act.put, List.setIfInBounds_toArray, List.set_cons_zero, List.set_cons_succ]
          refine wpAnyH_take (i := 23) (v := ?_) rfl (by kernel_rfl) (by kernel_rfl) (by kernel_rfl) (fun _ _ _ h => h) (Or.inl ⟨by kernel_rfl, ?_⟩) (by assumption) ?_
          rotate_left
          · intro wq hSq
            (try dsimp only at hSq)
            go_simp
            all_goals with_reducible rfl
          try simp only [Act.put, List.setIfInBounds_toArray, List.set_cons_zero, List.set_cons_succ]
          refine wpAnyH_take (i := 24) (v := ?_) rfl (by kernel_rfl) (by kernel_rfl) (by kernel_rfl) (fun _ _ _ h => h) (Or.inl ⟨by kernel_rfl, ?_⟩) (by assumption) ?_
          rotate_left
          · intro wq hSq
            (try dsimp only at hSq)
            go_simp
            all_goals with_reducible rfl
          try simp only [Act.put, List.setIfInBounds_toArray, List.set_cons_zero, List.set_cons_succ]
          refine wpAnyH_take (i := 25) (v := ?_) rfl (by kernel_rfl) (by kernel_rfl) (by kernel_rfl) (fun _ _ _ h => h) (Or.inl ⟨by kernel_rfl, ?_⟩) (by assumption) ?_
          rotate_left
          · intro wq hSq
            (try dsimp only at hSq)
            go_simp
            all_goals with_reducible rfl
          try simp only [Act.put, List.setIfInBounds_toArray, List.set_cons_zero, List.set_cons_succ]
          refine wpAnyH_take (i := 26) (v := ?_) rfl (by kernel_rfl) (by kernel_rfl) (by kernel_rfl) (fun _ _ _ h => h) (Or.inl ⟨by kernel_rfl, ?_⟩) (by assumption) ?_
          rotate_left
          · intro wq hSq
            (try dsimp only at hSq)
            go_simp
            all_goals with_reducible rfl
          try simp only [Act.put, List.setIfInBounds_toArray, List.set_cons_zero, List.set_cons_succ]
          refine wpAnyH_ready (rs := [27]) (by kernel_rfl) (by simp) ?_
          refine AllReadyH.cons rfl (fun K hK => ?_) AllReadyH.nil
          go_simp
          go_at_call 43
          refine (pair_any k ⟨#[82, 101, 106, 101, 99, 116]⟩ _).mono ?_
          rintro e w11 ⟨rfl, hb11⟩
          have h1011 : Below w10.heap.size w10 w11 := by first | exact hbA.trans hb11 | exact hb11
          have hx11 := hx10.on h1011
          have k01 := And.intro ((h1011.cell (p := ⟨z, 0, none⟩) hzl).trans z0) ((h1011.cell (p := ⟨z, 1, none⟩) hzl).trans z1)
          have hba11 : Below w11.heap.size w11 (w11.alloc (.cells #[.string k, .string ⟨#[82, 101, 106, 101, 99, 116]⟩] 52)) := (Below.refl _ _).alloc (Nat.le_refl _) _
          have h10b := below_step h1011 hba11
          have k03 := And.intro ((h10b.cell (p := ⟨z, 0, none⟩) hzl).trans z0) ((h10b.cell (p := ⟨z, 1, none⟩) hzl).trans z1)
          go_wp2_with fail
          refine hK.out _ _ k01 (fun hHeld => ?_)
          try simp only [Act.put, List.setIfInBounds_toArray, List.set_cons_zero, List.set_cons_succ]
          refine wpAnyH_ready (rs := [28]) (by kernel_rfl) (by simp) ?_
          refine AllReadyH.cons rfl (fun K hK => ?_) AllReadyH.nil
          go_simp
          go_wp2_with fail
          refine hK.out _ _ k03 (fun hHeld => ?_)
          try simp only [Act.put, List.setIfInBounds_toArray, List.set_cons_zero, List.set_cons_succ]
          refine wpAnyH_ready (rs := [29]) (by kernel_rfl) (by simp) ?_
          refine AllReadyH.cons rfl (fun K hK => ?_) AllReadyH.nil
          go_simp
          go_at_call 33
          refine (pequal_same [(k, ⟨#[82, 101, 106, 101, 99, 116]⟩)] _ _ _ (hx11.on hba11) (SRd.litp (Blk.new w11 _ _) rfl (by rfl) (by show 1 ≤ _; unfold maxLen; omega))).mono ?_
          rintro e w12 ⟨rfl, kq, hw12⟩
          have h1012 : Below w10.heap.size w10 w12 := by rw [hw12]; exact below_dK h10b kq
          clear hw12
          have hN12 := hN10.on h1012
          have k02 := And.intro ((h1012.cell (p := ⟨z, 0, none⟩) hzl).trans z0) ((h1012.cell (p := ⟨z, 1, none⟩) hzl).trans z1)
          go_wp2_with fail
          refine hK.out _ _ k02 (fun hHeld => ?_)
          try simp only [Act.put, List.setIfInBounds_toArray, List.set_cons_zero, List.set_cons_succ]
          refine wpAnyH_take (i := 30) (v := ?_) rfl (by kernel_rfl) (by kernel_rfl) (by kernel_rfl) (fun _ _ _ h => h) (Or.inl ⟨by kernel_rfl, ?_⟩) (by assumption) ?_
          rotate_left
          · intro wq hSq
            (try dsimp only at hSq)
            go_simp
            all_goals with_reducible rfl
          try simp only [Act.put, List.setIfInBounds_toArray, List.set_cons_zero, List.set_cons_succ]
          refine wpAnyH_take (i := 31) (v := ?_) rfl (by kernel_rfl) (by kernel_rfl) (by kernel_rfl) (fun _ _ _ h => h) (Or.inl ⟨by kernel_rfl, ?_⟩) (by assumption) ?_
          rotate_left
          · intro wq hSq
            (try dsimp only at hSq)
            go_simp
            all_goals with_reducible rfl
          try simp only [Act.put, List.setIfInBounds_toArray, List.set_cons_zero, List.set_cons_succ]
          refine wpAnyH_take (i := 32) (v := ?_) rfl (by kernel_rfl) (by kernel_rfl) (by kernel_rfl) (fun _ _ _ h => h) (Or.inl ⟨by kernel_rfl, ?_⟩) (by assumption) ?_
          rotate_left
          · intro wq hSq
            (try dsimp only at hSq)
            go_simp
            all_goals with_reducible rfl
          try simp only [Act.put, List.setIfInBounds_toArray, List.set_cons_zero, List.set_cons_succ]
          refine wpAnyH_ready (rs := [33]) (by kernel_rfl) (by simp) ?_
          refine AllReadyH.cons rfl (fun K hK => ?_) AllReadyH.nil
          go_simp
          go_at_call 31
          refine (nrec_any g S7 own [] _ hN12 (by simp)).mono ?_
          rintro e w13 ⟨v13, rfl, hr13, hb13⟩
          obtain ⟨A13, cap13, rfl, _⟩ := hr13.form
          have h1013 := below_step h1012 hb13
          have k04 := And.intro ((h1013.cell (p := ⟨z, 0, none⟩) hzl).trans z0) ((h1013.cell (p := ⟨z, 1, none⟩) hzl).trans z1)
          clear hr13
          go_wp2_with fail
          refine hK.out _ _ k04 (fun hHeld => ?_)
          try simp only [Act.put, List.setIfInBounds_toArray, List.set_cons_zero, List.set_cons_succ]
          refine wpAnyH_take (i := 34) (v := ?_) rfl (by kernel_rfl) (by kernel_rfl) (by kernel_rfl) (fun _ _ _ h => h) (Or.inl ⟨by kernel_rfl, ?_⟩) (by assumption) ?_
          rotate_left
          · intro wq hSq
            (try dsimp only at hSq)
            go_simp
            all_goals with_reducible rfl
          try simp only [Act.put, List.setIfInBounds_toArray, List.set_cons_zero, List.set_cons_succ]
          refine wpAnyH_take (i := 35) (v := ?_) rfl (by kernel_rfl) (by kernel_rfl) (by kernel_rfl) (fun _ _ _ h => h) (Or.inl ⟨by kernel_rfl, ?_⟩) (by assumption) ?_
          rotate_left
          · intro wq hSq
            (try dsimp only at hSq)
            go_simp
            all_goals with_reducible rfl
          try simp only [Act.put, List.setIfInBounds_toArray, List.set_cons_zero, List.set_cons_succ]
          refine wpAnyH_take (i := 36) (v := ?_) rfl (by kernel_rfl) (by kernel_rfl) (by kernel_rfl) (fun _ _ _ h => h) (Or.inl ⟨by kernel_rfl, ?_⟩) (by assumption) ?_
          rotate_left
          · intro wq hSq
            (try dsimp only at hSq)
            go_simp
            all_goals with_reducible rfl
          try simp only [Act.put, List.setIfInBounds_toArray, List.set_cons_zero, List.set_cons_succ]
          refine wpAnyH_take (i := 37) (v := ?_) rfl (by kernel_rfl) (by kernel_rfl) (by kernel_rfl) (fun _ _ _ h => h) (Or.inl ⟨by kernel_rfl, ?_⟩) (by assumption) ?_
          rotate_left
          · intro wq hSq
            (try dsimp only at hSq)
            go_simp
            all_goals with_reducible rfl
          try simp only [Act.put, List.setIfInBounds_toArray, List.set_cons_zero, List.set_cons_succ]
          refine wpAnyH_take (i := 38) (v := ?_) rfl (by kernel_rfl) (by kernel_rfl) (by kernel_rfl) (fun _ _ _ h => h) (Or.inl ⟨by kernel_rfl, ?_⟩) (by assumption) ?_
          rotate_left
          · intro wq hSq
            (try dsimp only at hSq)
            go_simp
            all_goals with_reducible rfl
          try simp only [Act.put, List.setIfInBounds_toArray, List.set_cons_zero, List.set_cons_succ]
          refine wpAnyH_take (i := 39) (v := ?_) rfl (by kernel_rfl) (by kernel_rfl) (by kernel_rfl) (fun _ _ _ h => h) (Or.inl ⟨by kernel_rfl, ?_⟩) (by assumption) ?_
          rotate_left
          · intro wq hSq
            (try dsimp only at hSq)
            go_simp
            all_goals with_reducible rfl
          try simp only [Act.put, List.setIfInBounds_toArray, List.set_cons_zero, List.set_cons_succ]
          refine wpAnyH_done (by kernel_rfl) ?_ _
          try simp only [Act.put, List.getElem_toArray, List.getElem_cons_succ, List.getElem_cons_zero, List.setIfInBounds_toArray, List.set_cons_zero, List.set_cons_succ]
          have b12 := below_step b10 h1013
          go_wp2_with fail
          go_ret
          exact ⟨rfl, by first | exact b12 | exact hbz _ b12⟩
    · have ha := alone_res (own := own) (p := (k, v)) hk h67
      have h6 : ¬ K = 6 := fun h => h67 (.inl (by omega))
      have h7 : ¬ K = 7 := fun h => h67 (.inr (by omega))
      have h6b : (K == 6) = false := by simpa using h6
      have h7b : (K == 7) = false := by simpa using h7
      have hOk : ownL own (k, v).1 = O.data.toList := hOl
      rw [hOk] at ha
      rcases hres : resE k.data.toList v.data.toList O.data.toList with c | s
      · have hres2 : resE (kB (k, v)) (vB (k, v)) O.data.toList = .inl c := hres
        rw [hres2] at ha
        simp only at ha
        rw [ha] at hX hR
        simp only at hX hR
        rw [one_some _ rejB_ne] at hX
        rw [one_nil] at hR
        have hX : saidL own true false [(k, v)] = [(k, ⟨#[82, 101, 106, 101, 99, 116]⟩)] := hX
        have HX := Lib.hid hX
        have HR := Lib.hid hR
        have HRES := Lib.hid hres
        clear ha hX hR hk hOl hOk hres hres2 h67
        have hb6w := below_step hb5w hb6
        have hB6 := hB5.below hb6 hB5.lt
        have hN6 := hN5.on hb6
        have y0 := hB6.cell 0
        have y1 := hB6.cell 1
        have h6l := hN6.lt
        have hba6 : Below w6.heap.size w6 (w6.alloc (.cells #[.string k, .string v] 52)) := (Below.refl _ _).alloc (Nat.le_refl _) _
        have hb6a := below_step hb6w hba6
        have hNa := hN6.on hba6
        clear z0 z1 hN5
        go_wp2_with fail
        refine (nanswer_any g S own [] [(k, v)] true false _ _ w hNa (SRd.litp (Blk.new w6 _ _) rfl (by rfl) (by show 1 ≤ _; unfold maxLen; omega)) (fun _ k1 hk1 hm => by have h8 := h6l k1 hm; injection hk1 with hk1; have h9 : w6.heap.size = k1 := hk1; omega) HSM.out (own_ok hnew).1 (by simp) (.inl rfl) V hb6a hS0).mono ?_
        rw [HE.out]
        rintro e w7 ⟨S7, u7, rfl, hu7, hN7, hnf7, hS7, hdu7⟩
        have hb7w := (ans_after hb6a hS0 hnf7 hS7).1
        have hzS : z ∉ S := fun hm => by have h1 := hS z hm; have h2 := hB4z.out; omega
        have hB7 : Blk w7 z 52 #[.string k, .string v] := (hnf7.block z (by simp; exact Nat.lt_succ_of_lt hB6.lt) hzS).trans (hB6.below hba6 hB6.lt)
        rw [HX.out] at hu7
        rw [HR.out] at hN7
        have hx7 := hu7.rd
        obtain ⟨uA7, ucap7, rfl⟩ := hu7.form
        clear hu7 hnf7 hS7 hdu7 hNa y0 y1 h6l hN6 hzS
        have V7 := V.on hb7w
        have z0 := hB7.cell 0
        have z1 := hB7.cell 1
        go_wp2_with fail
        refine (of_some k r K D _ _ _ HK.out HKK.out HD.out rfl rfl V7.T).mono ?_
        rintro e w8 ⟨rfl, hb8⟩
        have hbK : Below w8.heap.size w8 (w8.alloc (.cells #[.string ⟨r.name.toArray⟩, .int .i64 K, .int .i64 r.low, .int .i64 r.high, .string D, .bool r.noth, .bool r.lonly] 58)) := (Below.refl _ _).alloc (Nat.le_refl _) _
        have hBk := Blk.new w8 58 #[.string ⟨r.name.toArray⟩, .int .i64 K, .int .i64 r.low, .int .i64 r.high, .string D, .bool r.noth, .bool r.lonly]
        obtain ⟨y, hy⟩ : ∃ y, w8.heap.size = y := ⟨_, rfl⟩
        rw [hy] at hBk
        have hb79 := below_step hb8 hbK
        have hB9 := hB7.below hb79 hB7.lt
        have b9 := below_step hb7w hb79
        have V9 := V.on b9
        have hzy : z ≠ y := by have := hB7.lt; have := hb8.size; omega
        have hb7x : ∀ {W : World}, Below (w8.alloc (.cells #[.string ⟨r.name.toArray⟩, .int .i64 K, .int .i64 r.low, .int .i64 r.high, .string D, .bool r.noth, .bool r.lonly] 58)).heap.size (w8.alloc (.cells #[.string ⟨r.name.toArray⟩, .int .i64 K, .int .i64 r.low, .int .i64 r.high, .string D, .bool r.noth, .bool r.lonly] 58)) W → Below w7.heap.size w7 W := fun h => below_step hb79 h
        clear z0 z1
        have k1 := hBk.cell 1
        have z0 := hB9.cell 0
        have z1 := hB9.cell 1
        go_wp2_with fail
        refine (result_inl k v O c _ HRES.out (by omega) (by omega) V9).mono ?_
        rintro e w8 ⟨rfl, hb8⟩
        have hb8' := hb8
        have hb7r := hb7x hb8
        have hB10 := hB9.below hb8 hB9.lt
        clear z0 z1 k1 hb7x
        have hb7x : ∀ {W : World}, Below w8.heap.size w8 W → Below w7.heap.size w7 W := fun h => below_step hb7r h
        have z0 := hB10.cell 0
        have z1 := hB10.cell 1
        go_wp2_with fail
        refine (pair_any k ⟨#[82, 101, 106, 101, 99, 116]⟩ _).mono ?_
        rintro e w8 ⟨rfl, hb8⟩
        have hb78 : Below w7.heap.size w7 w8 := by first | exact hb8 | exact hb7x hb8
        have hx8 := hx7.on hb78
        have hN8 := hN7.on hb78
        have b8 := below_step hb7w hb78
        have hba8 : Below w8.heap.size w8 (w8.alloc (.cells #[.string k, .string ⟨#[82, 101, 106, 101, 99, 116]⟩] 52)) := (Below.refl _ _).alloc (Nat.le_refl _) _
        clear hx7 hN7
        go_wp2_with fail
        refine (pequal_same [(k, ⟨#[82, 101, 106, 101, 99, 116]⟩)] _ _ _ (hx8.on hba8) (SRd.litp (Blk.new w8 _ _) rfl (by rfl) (by show 1 ≤ _; unfold maxLen; omega))).mono ?_
        rintro e w10 ⟨rfl, kq, hw10⟩
        have hb810 : Below w8.heap.size w8 w10 := by rw [hw10]; exact below_dK hba8 kq
        have hN10 := hN8.on hb810
        have hx10 := hx8.on hb810
        have b10 := below_step b8 hb810
        clear hw10 hN8 hx8
        go_wp2_with fail
        refine (nrec_any g S7 own [] _ hN10 (by simp)).mono ?_
        rintro e w11 ⟨v11, rfl, hr11, hb11⟩
        obtain ⟨A11, cap11, rfl, _⟩ := hr11.form
        have b11 := below_step b10 hb11
        clear hr11 hN10 hx10
        go_wp2_with fail
        go_ret
        exact ⟨rfl, by first | exact b11 | exact hbz _ b11⟩
      · have hres2 : resE (kB (k, v)) (vB (k, v)) O.data.toList = .inr s := hres
        rw [hres2] at ha
        simp only at ha
        rw [ha] at hX hR
        simp only at hX hR
        have hsn : s ≠ [] := fits_ne (resE_again hres).1
        rw [one_some _ hsn] at hX hR
        obtain ⟨s1, hs1⟩ : ∃ x, ba s = x := ⟨_, rfl⟩
        have hsl : s1.data.toList = s := by rw [← hs1]; rfl
        rw [hs1] at hX hR
        rw [← hsl] at hres
        have HX := Lib.hid hX
        have HR := Lib.hid hR
        have HRES := Lib.hid hres
        clear ha hX hR hk hOl hOk hres hres2 h67 hsn hs1 hsl
        have hb6w := below_step hb5w hb6
        have hB6 := hB5.below hb6 hB5.lt
        have hN6 := hN5.on hb6
        have y0 := hB6.cell 0
        have y1 := hB6.cell 1
        have h6l := hN6.lt
        have hba6 : Below w6.heap.size w6 (w6.alloc (.cells #[.string k, .string v] 52)) := (Below.refl _ _).alloc (Nat.le_refl _) _
        have hb6a := below_step hb6w hba6
        have hNa := hN6.on hba6
        clear z0 z1 hN5
        go_wp2_with fail
        refine (nanswer_any g S own [] [(k, v)] true false _ _ w hNa (SRd.litp (Blk.new w6 _ _) rfl (by rfl) (by show 1 ≤ _; unfold maxLen; omega)) (fun _ k1 hk1 hm => by have h8 := h6l k1 hm; injection hk1 with hk1; have h9 : w6.heap.size = k1 := hk1; omega) HSM.out (own_ok hnew).1 (by simp) (.inl rfl) V hb6a hS0).mono ?_
        rw [HE.out]
        rintro e w7 ⟨S7, u7, rfl, hu7, hN7, hnf7, hS7, hdu7⟩
        have hb7w := (ans_after hb6a hS0 hnf7 hS7).1
        have hzS : z ∉ S := fun hm => by have h1 := hS z hm; have h2 := hB4z.out; omega
        have hB7 : Blk w7 z 52 #[.string k, .string v] := (hnf7.block z (by simp; exact Nat.lt_succ_of_lt hB6.lt) hzS).trans (hB6.below hba6 hB6.lt)
        rw [HX.out] at hu7
        rw [HR.out] at hN7
        have hx7 := hu7.rd
        obtain ⟨uA7, ucap7, rfl⟩ := hu7.form
        clear hu7 hnf7 hS7 hdu7 hNa y0 y1 h6l hN6 hzS
        have V7 := V.on hb7w
        have z0 := hB7.cell 0
        have z1 := hB7.cell 1
        go_wp2_with fail
        refine (of_some k r K D _ _ _ HK.out HKK.out HD.out rfl rfl V7.T).mono ?_
        rintro e w8 ⟨rfl, hb8⟩
        have hbK : Below w8.heap.size w8 (w8.alloc (.cells #[.string ⟨r.name.toArray⟩, .int .i64 K, .int .i64 r.low, .int .i64 r.high, .string D, .bool r.noth, .bool r.lonly] 58)) := (Below.refl _ _).alloc (Nat.le_refl _) _
        have hBk := Blk.new w8 58 #[.string ⟨r.name.toArray⟩, .int .i64 K, .int .i64 r.low, .int .i64 r.high, .string D, .bool r.noth, .bool r.lonly]
        obtain ⟨y, hy⟩ : ∃ y, w8.heap.size = y := ⟨_, rfl⟩
        rw [hy] at hBk
        have hb79 := below_step hb8 hbK
        have hB9 := hB7.below hb79 hB7.lt
        have b9 := below_step hb7w hb79
        have V9 := V.on b9
        have hzy : z ≠ y := by have := hB7.lt; have := hb8.size; omega
        have hb7x : ∀ {W : World}, Below (w8.alloc (.cells #[.string ⟨r.name.toArray⟩, .int .i64 K, .int .i64 r.low, .int .i64 r.high, .string D, .bool r.noth, .bool r.lonly] 58)).heap.size (w8.alloc (.cells #[.string ⟨r.name.toArray⟩, .int .i64 K, .int .i64 r.low, .int .i64 r.high, .string D, .bool r.noth, .bool r.lonly] 58)) W → Below w7.heap.size w7 W := fun h => below_step hb79 h
        clear z0 z1
        have k1 := hBk.cell 1
        have z0 := hB9.cell 0
        have z1 := hB9.cell 1
        go_wp2_with fail
        refine (result_inr k v O s1 _ HRES.out (by omega) (by omega) V9).mono ?_
        rintro e w8 ⟨rfl, hb8⟩
        have hb7r := hb7x hb8
        have hB10 := hB9.below hb8 hB9.lt
        clear z0 z1 k1 hb7x
        have hb7x : ∀ {W : World}, Below w8.heap.size w8 W → Below w7.heap.size w7 W := fun h => below_step hb7r h
        have z0 := hB10.cell 0
        have z1 := hB10.cell 1
        go_wp2_with fail
        refine (pair_any k s1 _).mono ?_
        rintro e w8 ⟨rfl, hb8⟩
        have hb78 : Below w7.heap.size w7 w8 := by first | exact hb8 | exact hb7x hb8
        have hx8 := hx7.on hb78
        have hN8 := hN7.on hb78
        have b8 := below_step hb7w hb78
        have hba8 : Below w8.heap.size w8 (w8.alloc (.cells #[.string k, .string s1] 52)) := (Below.refl _ _).alloc (Nat.le_refl _) _
        clear hx7 hN7
        go_wp2_with fail
        refine (pequal_same [(k, s1)] _ _ _ (hx8.on hba8) (SRd.litp (Blk.new w8 _ _) rfl (by rfl) (by show 1 ≤ _; unfold maxLen; omega))).mono ?_
        rintro e w10 ⟨rfl, kq, hw10⟩
        have hb810 : Below w8.heap.size w8 w10 := by rw [hw10]; exact below_dK hba8 kq
        have hN10 := hN8.on hb810
        have hx10 := hx8.on hb810
        have b10 := below_step b8 hb810
        clear hw10 hN8 hx8
        go_wp2_with fail
        refine (nrec_any g S7 own _ _ hN10 (by simp)).mono ?_
        rintro e w11 ⟨v11, rfl, hr11, hb11⟩
        have hrd11 := SRd.of_m hr11
        obtain ⟨A11, cap11, rfl, _⟩ := hr11.form
        have hx11 := hx10.on hb11
        have b11 := below_step b10 hb11
        clear hr11 hN10 hx10
        go_wp2_with fail
        refine (pequal_same [(k, s1)] _ _ _ hrd11 hx11).mono ?_
        rintro e w12 ⟨rfl, kr, rfl⟩
        go_wp2_with fail
        go_ret
        exact ⟨rfl, by first | exact below_dK b11 kr | exact hbz _ (below_dK b11 kr)⟩
end Go.Proofs.YtadhlnpegigadaaGreatDoor
