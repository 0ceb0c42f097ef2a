/- The walk of NegoMade. -/
import Derived.Test.YtadhlnpegigadaaGreatDoorNegoWk
import Derived.Test.YtadhlnpegigadaaGreatDoorPlace
namespace Go.Proofs.YtadhlnpegigadaaGreatDoor
open Go.ChangeShapes Go.WideShapes Go.ChangeAt Go.RowKit Go.Shelf
set_option linter.unusedVariables false
theorem new_more {own : PairL} {p : ByteArray × ByteArray} (h : nNewR own = none) (hl : own.length ≠ 60) (hp : pRightR [p] = none) : nNewR (own ++ [p]) = if (findB own p.1).isSome = true then some (9, some own.length) else if fitsB p ≠ 0 then some (fitsB p, some own.length) else none := by
  have h1 := (own_ok h).2
  have hg : nNewGo [] own = none := by
    unfold nNewR at h
    rw [(pRightR_iff own).2 h1] at h
    rcases hn : nNewGo [] own with _ | x
    · rfl
    · rw [hn] at h; cases h
  have hr : pRightR (own ++ [p]) = none := (pRightR_iff _).2 ⟨by rw [List.length_append]; show own.length + 1 ≤ 60; omega, fun x hx => by
    rcases List.mem_append.1 hx with hx | hx
    · exact h1.2 x hx
    · exact ((pRightR_iff [p]).1 hp).2 x hx⟩
  unfold nNewR
  rw [hr]
  show (nNewGo [] (own ++ [p])).map _ = _
  rw [nNewGo_snoc p own [] hg]
  simp only [List.nil_append]
  split
  · rfl
  · split <;> rfl
set_option maxRecDepth 20000 in
set_option maxHeartbeats 8000000 in
theorem madeNego (own : PairL) (vo : Value) (p : ByteArray × ByteArray) (w : World) (hv : SRd w vo 2 own.length (pairCells own)) (hd : ∀ p ∈ own, psmall p) (hp1 : p.1.size ≤ 140737488351232) (hp2 : p.2.size ≤ 140737488351232) (V : Env w) :
    Calls Tryz.prog 16 #[vo, .agg #[.string p.1, .string p.2]] w fun e w' => e = .returned (.bool true) ∧ Below w.heap.size w w' := by
  obtain ⟨k, v⟩ := p
  simp only at hp1 hp2
  obtain ⟨z, hz⟩ : ∃ z, w.heap.size = z := ⟨_, rfl⟩
  obtain ⟨W0, hW0⟩ : ∃ W0 : World, w.alloc (.cells #[.string k, .string v] 52) = W0 := ⟨_, rfl⟩
  have hb0 : Below w.heap.size w W0 := by rw [← hW0]; exact (Below.refl _ _).alloc (Nat.le_refl _) _
  have hB0 : Blk W0 z 52 #[.string k, .string v] := by rw [← hW0, ← hz]; exact Blk.new w _ _
  have HZ := Lib.hid hz
  go_enter Tryz.func16, Tryz.ntmps16
  go_wp2_with fail
  clear hW0
  refine (settled_fact _ (V.on hb0)).mono ?_
  rintro e w1 ⟨rfl, hb1⟩
  have hb1w := below_step hb0 hb1
  have V1 := V.on hb1w
  go_wp2_with fail
  refine (keyed_fact _ V1).mono ?_
  rintro e w2 ⟨rfl, hb2⟩
  have hb2w := below_step hb1w hb2
  have V2 := V.on hb2w
  go_wp2_with fail
  refine (paired_fact _ V2.L V2.S).mono ?_
  rintro e w3 ⟨rfl, hb3⟩
  have hb3w := below_step hb2w hb3
  have V3 := V.on hb3w
  have hB3 := ((hB0.below hb1 hB0.lt).below hb2 (hB0.below hb1 hB0.lt).lt).below hb3 ((hB0.below hb1 hB0.lt).below hb2 (hB0.below hb1 hB0.lt).lt).lt
  go_wp2_with fail
  refine (made_any own _ _ (hv.on hb3w) hd V3).mono ?_
  rintro e w4 ⟨hm, hb4⟩
  have hb4w := below_step hb3w hb4
  have V4 := V.on hb4w
  have hB4 := hB3.below hb4 hB3.lt
  clear hB0 hB3
  rcases hm with rfl | ⟨S, g, rfl, hN, hS, hnew⟩
  · go_wp2_with fail
    go_ret
    exact ⟨rfl, by first | exact hb4w | (rw [HZ.out] at hb4w; exact hb4w)⟩
  obtain ⟨A, cap, rfl⟩ : ∃ A cap, vo = .slice A own.length cap := by obtain ⟨_, A, cap, hv, _⟩ := hv; exact ⟨A, cap, hv⟩
  obtain ⟨N, hN'⟩ : ∃ N, own.length = N := ⟨_, rfl⟩
  have hN60 := (own_ok hnew).2.1
  have HV := Lib.hid hv
  have HN := Lib.hid hN'
  rw [hN'] at hN60 ⊢
  have hbz : ∀ W, Below w.heap.size w W → Below z w W := fun W h => by rw [← HZ.out]; exact h
  clear hv hN' hN hS
  by_cases h60 : N = 60
  · subst h60
    go_wp2_with fail
    go_ret
    exact ⟨rfl, by first | exact hb4w | exact hbz _ hb4w⟩
  have h60I : ¬ (N : Int) = 60 := by omega
  have p0 := hB4.cell 0
  have p1 := hB4.cell 1
  have hba : Below w4.heap.size w4 (w4.alloc (.cells #[.string k, .string v] 52)) := (Below.refl _ _).alloc (Nat.le_refl _) _
  have hsm1 : ∀ p ∈ ([(k, v)] : PairL), psmall p := fun p hp => by obtain rfl := List.mem_singleton.1 hp; exact ⟨hp1, hp2⟩
  go_wp2_with fail
  refine (pRight_any [(k, v)] _ _ (SRd.litp (Blk.new w4 _ _) rfl (by rfl) (by show 1 ≤ _; unfold maxLen; omega)) hsm1).mono ?_
  rintro e w5 ⟨er, rfl, he, hb5⟩
  have hb5w := below_step (below_step hb4w hba) hb5
  have hB5 := (hB4.below hba hB4.lt).below hb5 (hB4.below hba hB4.lt).lt
  clear p0 p1
  rcases hpr : pRightR [(k, v)] with _ | E
  rotate_left
  · rw [hpr] at he
    obtain ⟨t, x, rfl⟩ := perr_iface hpr he
    clear he hpr
    go_wp2_with fail
    go_ret
    exact ⟨rfl, by first | exact hb5w | exact hbz _ hb5w⟩
  rw [hpr] at he
  obtain rfl : er = .nilIface := he
  have hnm := new_more hnew (by rw [HN.out]; exact h60) hpr
  have hvz : v.size ≤ 255 := by have := valB_len (((pRightR_iff [(k, v)]).1 hpr).2 (k, v) (by simp)).2; unfold vB at this; rw [len_of] at this; exact this
  rw [HN.out] at hnm
  obtain ⟨b, hb⟩ : ∃ b, (findB own k).isSome = b := ⟨_, rfl⟩
  obtain ⟨x, hx⟩ : ∃ b, getE (findB own k) = b := ⟨_, rfl⟩
  obtain ⟨F, hF⟩ : ∃ F, fitsB (k, v) = F := ⟨_, rfl⟩
  simp only [hb, hF] at hnm
  have HNM := Lib.hid hnm
  have HB := Lib.hid hb
  have HX := Lib.hid hx
  have HF : Hid (fitsE k.data.toList v.data.toList = F) := Lib.hid hF
  have V5 := V.on hb5w
  have hv5 := HV.out.on hb5w
  have z0 := hB5.cell 0
  have z1 := hB5.cell 1
  have hzl := hB5.lt
  clear hpr hnm hb hx hF hB4 hba
  have hbA : Below w5.heap.size w5 w5.drew := (Below.refl _ _).drew
  have hbB : Below w5.heap.size w5 ((w5.drew).alloc (.cells #[.string k, .string v] 52)) := hbA.alloc (Nat.le_refl _) _
  have hbB2 : Below w5.heap.size w5 ((w5.drew).alloc (.cells #[.string k, .string v] 52)).drew := hbB.drew
  have hvA := hv5.on hbA
  have hvB := hv5.on hbB
  have hvB2 := hv5.on hbB2
  have hlB : Blk ((w5.drew).alloc (.cells #[.string k, .string v] 52)) w5.heap.size 52 #[.string k, .string v] := Blk.new w5.drew _ _
  have hlen : own.length * 32 ≤ 140737488351232 := by rw [HN.out]; omega
  have hlen2 : (own.length + 1) * 32 ≤ 140737488355328 := by rw [HN.out]; omega
  have hcl : ∀ W, SRd W (.slice A own.length cap) 2 own.length (pairCells own) → Calls Tryz.prog 42 #[.slice A N cap] W fun e w' => ∃ u, e = .returned u ∧ PRow w' W.heap.size u own ∧ Below W.heap.size W w' := fun W h => by
    have := clone_pair own _ W h hlen
    rwa [HN.out] at this
  have HCL := Lib.hid hcl
  have hdm : ∀ q ∈ own ++ [(k, v)], psmall q := fun q hq => by
    rcases List.mem_append.1 hq with hq | hq
    · exact hd q hq
    · exact hsm1 q hq
  have hnl : (own ++ [(k, v)]).length = N + 1 := by rw [List.length_append, HN.out]; rfl
  have HNL := Lib.hid hnl
  clear hcl hnl hv5
  go_wp2_with fail
  rcases b with _ | _
  · rcases Nat.eq_zero_or_pos F with rfl | hpos
    · go_region_held3 (fun W => W.cell? ⟨z, 0, none⟩ = some (.string k) ∧ W.cell? ⟨z, 1, none⟩ = some (.string v)) (first | go_keep | (with_reducible exact ⟨z0, z1⟩) | (with_reducible exact k01) | (with_reducible exact k02) | (with_reducible exact k03)) (first | (go_at_call 42; refine (HCL.out _ (by first | exact hvA | exact hvB2 | exact hvB)).mono ?_; rintro e w6 ⟨u6, rfl, hr6, hb6⟩; obtain ⟨uA6, ucap6, rfl, _⟩ := hr6.form; have hb56 : Below w5.heap.size w5 w6 := (by first | exact hbA.trans hb6 | exact hbB2.trans (hb6.mono (by simp)) | exact hbB.trans (hb6.mono (by simp))); have hr6b : PRow w6 w5.heap.size _ own := MRow.more hr6 (by simp); have k01 := And.intro ((hb56.cell (p := ⟨z, 0, none⟩) hzl).trans z0) ((hb56.cell (p := ⟨z, 1, none⟩) hzl).trans z1); (first | (have hlY := Blk.below hlB hb6 (by simp)) | skip)) | (refine step_append_pair _ (by rfl) _ _ (by rfl) w5.heap.size _ own (by rfl) (MRow.alloc hr6b _) ⟨w6.heap.size, 0, none⟩ 1 (k, v) (by rfl) ((Blk.new w6 52 #[.string k, .string v]).cell 0) ((Blk.new w6 52 #[.string k, .string v]).cell 1) hlen2 (Nat.le_trans hb56.size (by simp)) (w0 := w5) (hb56.alloc (by exact hb56.size) _) ?_; intro v7 w7 hr7 hb7 hg7; obtain ⟨A7, cap7, hv7, _⟩ := MRow.form hr7; rw [HNL.out] at hv7; subst hv7; have k02 := And.intro ((hb7.cell (p := ⟨z, 0, none⟩) hzl).trans z0) ((hb7.cell (p := ⟨z, 1, none⟩) hzl).trans z1)) | (refine step_append_pair _ (by rfl) _ _ (by rfl) w5.heap.size _ own (by rfl) hr6b ⟨w5.heap.size, 0, none⟩ 1 (k, v) (by rfl) (hlY.cell 0) (hlY.cell 1) hlen2 hb56.size (w0 := w5) hb56 ?_; intro v7 w7 hr7 hb7 hg7; obtain ⟨A7, cap7, hv7, _⟩ := MRow.form hr7; rw [HNL.out] at hv7; subst hv7; have k02 := And.intro ((hb7.cell (p := ⟨z, 0, none⟩) hzl).trans z0) ((hb7.cell (p := ⟨z, 1, none⟩) hzl).trans z1)) | (go_at_call 52; refine (nnew_any (own ++ [(k, v)]) _ w7 (SRd.of_m hr7) hdm (V5.on hb7)).mono ?_; rw [HNM.out, if_neg (by simp), if_neg (by simp)]; rintro e w8 ⟨⟨g8, ov8, rfl, _⟩, hb8⟩; have hb58 := below_step hb7 hb8; have k03 := And.intro ((hb58.cell (p := ⟨z, 0, none⟩) hzl).trans z0) ((hb58.cell (p := ⟨z, 1, none⟩) hzl).trans z1)))
      all_goals
        have b8 := below_step hb5w hb58
        have V8 := V.on b8
        have hv8 := HV.out.on b8
        have hf8 := find_two own _ k x false _ hv8 HX.out HB.out
        rw [HN.out] at hf8
        have HF8 := Lib.hid hf8
        have q0 := k03.1
        clear hf8 hv8
        go_wp2_with fail
        refine HF8.out.mono ?_
        rintro e w9 ⟨rfl, hb9⟩
        have hb59 := below_step hb58 hb9
        have y0 := (hb59.cell (p := ⟨z, 0, none⟩) hzl).trans z0
        have y1 := (hb59.cell (p := ⟨z, 1, none⟩) hzl).trans z1
        have b9 := below_step b8 hb9
        have V9 := V.on b9
        have hft := fits_any k v _ (by omega) V9.T V9.E V9.S
        rw [HF.out] at hft
        have HFT := Lib.hid hft
        clear hft q0
        go_wp2_with fail
        refine HFT.out.mono ?_
        rintro e w10 ⟨rfl, hb10⟩
        have b10 := below_step b9 hb10
        have V10 := V.on b10
        have he0 : errv 0 = .nilIface := rfl
        rw [he0]
        go_wp2_with fail
        go_ret
        exact ⟨rfl, by first | exact b10 | exact hbz _ b10⟩
    · go_region_held3 (fun W => W.cell? ⟨z, 0, none⟩ = some (.string k) ∧ W.cell? ⟨z, 1, none⟩ = some (.string v)) (first | go_keep | (with_reducible exact ⟨z0, z1⟩) | (with_reducible exact k01) | (with_reducible exact k02) | (with_reducible exact k03)) (first | (go_at_call 42; refine (HCL.out _ (by first | exact hvA | exact hvB2 | exact hvB)).mono ?_; rintro e w6 ⟨u6, rfl, hr6, hb6⟩; obtain ⟨uA6, ucap6, rfl, _⟩ := hr6.form; have hb56 : Below w5.heap.size w5 w6 := (by first | exact hbA.trans hb6 | exact hbB2.trans (hb6.mono (by simp)) | exact hbB.trans (hb6.mono (by simp))); have hr6b : PRow w6 w5.heap.size _ own := MRow.more hr6 (by simp); have k01 := And.intro ((hb56.cell (p := ⟨z, 0, none⟩) hzl).trans z0) ((hb56.cell (p := ⟨z, 1, none⟩) hzl).trans z1); (first | (have hlY := Blk.below hlB hb6 (by simp)) | skip)) | (refine step_append_pair _ (by rfl) _ _ (by rfl) w5.heap.size _ own (by rfl) (MRow.alloc hr6b _) ⟨w6.heap.size, 0, none⟩ 1 (k, v) (by rfl) ((Blk.new w6 52 #[.string k, .string v]).cell 0) ((Blk.new w6 52 #[.string k, .string v]).cell 1) hlen2 (Nat.le_trans hb56.size (by simp)) (w0 := w5) (hb56.alloc (by exact hb56.size) _) ?_; intro v7 w7 hr7 hb7 hg7; obtain ⟨A7, cap7, hv7, _⟩ := MRow.form hr7; rw [HNL.out] at hv7; subst hv7; have k02 := And.intro ((hb7.cell (p := ⟨z, 0, none⟩) hzl).trans z0) ((hb7.cell (p := ⟨z, 1, none⟩) hzl).trans z1)) | (refine step_append_pair _ (by rfl) _ _ (by rfl) w5.heap.size _ own (by rfl) hr6b ⟨w5.heap.size, 0, none⟩ 1 (k, v) (by rfl) (hlY.cell 0) (hlY.cell 1) hlen2 hb56.size (w0 := w5) hb56 ?_; intro v7 w7 hr7 hb7 hg7; obtain ⟨A7, cap7, hv7, _⟩ := MRow.form hr7; rw [HNL.out] at hv7; subst hv7; have k02 := And.intro ((hb7.cell (p := ⟨z, 0, none⟩) hzl).trans z0) ((hb7.cell (p := ⟨z, 1, none⟩) hzl).trans z1)) | (go_at_call 52; refine (nnew_any (own ++ [(k, v)]) _ w7 (SRd.of_m hr7) hdm (V5.on hb7)).mono ?_; rw [HNM.out, if_neg (by simp), if_pos (by omega)]; rintro e w8 ⟨⟨er8, rfl, he8⟩, hb8⟩; obtain ⟨g8, hx8, hB8, _⟩ := perr_tell he8; subst hx8; have hb58 := below_step hb7 hb8; have k03 := And.intro ((hb58.cell (p := ⟨z, 0, none⟩) hzl).trans z0) ((hb58.cell (p := ⟨z, 1, none⟩) hzl).trans z1)))
      all_goals
        have b8 := below_step hb5w hb58
        have V8 := V.on b8
        have hv8 := HV.out.on b8
        have hf8 := find_two own _ k x false _ hv8 HX.out HB.out
        rw [HN.out] at hf8
        have HF8 := Lib.hid hf8
        have q0 := k03.1
        clear hf8 hv8
        go_wp2_with fail
        refine HF8.out.mono ?_
        rintro e w9 ⟨rfl, hb9⟩
        have hb59 := below_step hb58 hb9
        have y0 := (hb59.cell (p := ⟨z, 0, none⟩) hzl).trans z0
        have y1 := (hb59.cell (p := ⟨z, 1, none⟩) hzl).trans z1
        have b9 := below_step b8 hb9
        have V9 := V.on b9
        have hft := fits_any k v _ (by omega) V9.T V9.E V9.S
        rw [HF.out] at hft
        have HFT := Lib.hid hft
        clear hft q0
        go_wp2_with fail
        refine HFT.out.mono ?_
        rintro e w10 ⟨rfl, hb10⟩
        have b10 := below_step b9 hb10
        have V10 := V.on b10
        have hFe : ∃ t x, errv F = .iface t x := by unfold errv; rw [if_neg (by omega)]; exact ⟨_, _, rfl⟩
        obtain ⟨t, xx, hFe⟩ := hFe
        have htl := fun W (L : LaidE W) => tell_errv F W L
        rw [hFe] at htl ⊢
        have HTL := Lib.hid htl
        clear htl hFe
        have hBb := (hB8.below hb9 hB8.lt).below hb10 (hB8.below hb9 hB8.lt).lt
        go_wp2_with fail
        refine (place_at g8 _ _ _ V10.L hBb).mono ?_
        rintro e w11 ⟨rfl, hb11⟩
        have b11 := below_step b10 hb11
        have V11 := V.on b11
        go_wp2_with fail
        refine (HTL.out _ V11.L).mono ?_
        rintro e w12 ⟨rfl, hb12⟩
        have b12 := below_step b11 hb12
        go_wp2_with fail
        go_ret
        exact ⟨rfl, by first | exact b12 | exact hbz _ b12⟩
  · go_region_held3 (fun W => W.cell? ⟨z, 0, none⟩ = some (.string k) ∧ W.cell? ⟨z, 1, none⟩ = some (.string v)) (first | go_keep | (with_reducible exact ⟨z0, z1⟩) | (with_reducible exact k01) | (with_reducible exact k02) | (with_reducible exact k03)) (first | (go_at_call 42; refine (HCL.out _ (by first | exact hvA | exact hvB2 | exact hvB)).mono ?_; rintro e w6 ⟨u6, rfl, hr6, hb6⟩; obtain ⟨uA6, ucap6, rfl, _⟩ := hr6.form; have hb56 : Below w5.heap.size w5 w6 := (by first | exact hbA.trans hb6 | exact hbB2.trans (hb6.mono (by simp)) | exact hbB.trans (hb6.mono (by simp))); have hr6b : PRow w6 w5.heap.size _ own := MRow.more hr6 (by simp); have k01 := And.intro ((hb56.cell (p := ⟨z, 0, none⟩) hzl).trans z0) ((hb56.cell (p := ⟨z, 1, none⟩) hzl).trans z1); (first | (have hlY := Blk.below hlB hb6 (by simp)) | skip)) | (refine step_append_pair _ (by rfl) _ _ (by rfl) w5.heap.size _ own (by rfl) (MRow.alloc hr6b _) ⟨w6.heap.size, 0, none⟩ 1 (k, v) (by rfl) ((Blk.new w6 52 #[.string k, .string v]).cell 0) ((Blk.new w6 52 #[.string k, .string v]).cell 1) hlen2 (Nat.le_trans hb56.size (by simp)) (w0 := w5) (hb56.alloc (by exact hb56.size) _) ?_; intro v7 w7 hr7 hb7 hg7; obtain ⟨A7, cap7, hv7, _⟩ := MRow.form hr7; rw [HNL.out] at hv7; subst hv7; have k02 := And.intro ((hb7.cell (p := ⟨z, 0, none⟩) hzl).trans z0) ((hb7.cell (p := ⟨z, 1, none⟩) hzl).trans z1)) | (refine step_append_pair _ (by rfl) _ _ (by rfl) w5.heap.size _ own (by rfl) hr6b ⟨w5.heap.size, 0, none⟩ 1 (k, v) (by rfl) (hlY.cell 0) (hlY.cell 1) hlen2 hb56.size (w0 := w5) hb56 ?_; intro v7 w7 hr7 hb7 hg7; obtain ⟨A7, cap7, hv7, _⟩ := MRow.form hr7; rw [HNL.out] at hv7; subst hv7; have k02 := And.intro ((hb7.cell (p := ⟨z, 0, none⟩) hzl).trans z0) ((hb7.cell (p := ⟨z, 1, none⟩) hzl).trans z1)) | (go_at_call 52; refine (nnew_any (own ++ [(k, v)]) _ w7 (SRd.of_m hr7) hdm (V5.on hb7)).mono ?_; rw [HNM.out, if_pos (by simp)]; rintro e w8 ⟨⟨er8, rfl, he8⟩, hb8⟩; obtain ⟨g8, hx8, hB8, _⟩ := perr_tell he8; subst hx8; have hb58 := below_step hb7 hb8; have k03 := And.intro ((hb58.cell (p := ⟨z, 0, none⟩) hzl).trans z0) ((hb58.cell (p := ⟨z, 1, none⟩) hzl).trans z1)))
    all_goals
      have b8 := below_step hb5w hb58
      have V8 := V.on b8
      have hv8 := HV.out.on b8
      have hf8 := find_two own _ k x true _ hv8 HX.out HB.out
      rw [HN.out] at hf8
      have HF8 := Lib.hid hf8
      have q0 := k03.1
      clear hf8 hv8
      go_wp2_with fail
      refine HF8.out.mono ?_
      rintro e w9 ⟨rfl, hb9⟩
      have hb59 := below_step hb58 hb9
      have y0 := (hb59.cell (p := ⟨z, 0, none⟩) hzl).trans z0
      have y1 := (hb59.cell (p := ⟨z, 1, none⟩) hzl).trans z1
      have b9 := below_step b8 hb9
      have V9 := V.on b9
      have hft := fits_any k v _ (by omega) V9.T V9.E V9.S
      rw [HF.out] at hft
      have HFT := Lib.hid hft
      clear hft q0
      go_wp2_with fail
      refine HFT.out.mono ?_
      rintro e w10 ⟨rfl, hb10⟩
      have b10 := below_step b9 hb10
      have V10 := V.on b10
      obtain ⟨EV, hEV⟩ : ∃ EV, errv F = EV := ⟨_, rfl⟩
      rw [hEV]
      clear hEV
      have hBb := (hB8.below hb9 hB8.lt).below hb10 (hB8.below hb9 hB8.lt).lt
      go_wp2_with fail
      refine (place_at g8 _ _ _ V10.L hBb).mono ?_
      rintro e w11 ⟨rfl, hb11⟩
      have b11 := below_step b10 hb11
      have V11 := V.on b11
      go_wp2_with fail
      go_ret
      exact ⟨rfl, by first | exact b11 | exact hbz _ b11⟩
end Go.Proofs.YtadhlnpegigadaaGreatDoor
