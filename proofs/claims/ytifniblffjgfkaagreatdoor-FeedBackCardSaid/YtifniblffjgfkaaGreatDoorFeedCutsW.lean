/- The walk of the law FeedCuts. -/
import Derived.Test.YtifniblffjgfkaaGreatDoorFeedOneW
import Derived.Lib.AppendZeros
namespace Go.Proofs.YtifniblffjgfkaaGreatDoor
open Go.ChangeShapes Go.WideShapes Go.ChangeAt Go.RowKit Go.Shelf
set_option linter.unusedVariables false
theorem rowC_append : ∀ (L M : List (Pc × Part)), rowC (L ++ M) = rowC L ++ rowC M
  | [], M => rfl
  | x :: L, M => by rw [List.cons_append, rowC, rowC, rowC_append L M, List.append_assoc]
theorem rowC_one : ∀ (L : List (Pc × Part)), ∀ u ∈ rowC L, u.oneCell' = true
  | [], u, h => by cases h
  | x :: L, u, h => by
    rw [rowC] at h
    rcases List.mem_append.1 h with h | h
    · simp only [pcC, List.mem_cons, List.not_mem_nil, or_false] at h
      rcases h with rfl | rfl | rfl | rfl | rfl | rfl | rfl <;> rfl
    · exact rowC_one L u h
theorem wpList_append_pcs (w : World) {ops : Array Oper} {rest : List Oper} {o : Oper} {a : Act} {Q : Exit → Act → World → Prop} (hgd : o.guard = none) (s x : Operand)
    (ho : o.op = .call { callee := .builtin .append, args := #[s, x], argTypes := #[30, 30] })
    (base base2 : Nat) (v vx : Value) (ps qs : List Pc) (hs : a.eval s = v) (hP : PcsAt w base v ps) (hx : a.eval x = vx) (hQ : PcsAt w base2 vx qs) (hbb : base ≤ base2) (hrow : ∀ k, v.ownBlock = some k → k < base2)
    (hlen : ps.length + qs.length ≤ 1000000) (hbase : base ≤ w.heap.size)
    (h : ∀ v' w', PcsAt w' base v' (ps ++ qs) → w.grownBy w' v.ownBlock → wpList Tryz.prog ops Q rest (a.put o.dst v') w') : wpList Tryz.prog ops Q (o :: rest) a w := by
  obtain ⟨i0, hi, hz0, hz1, hz2⟩ := info_parts infoPc
  obtain ⟨L, hL1, hown, hLp⟩ := hP
  obtain ⟨M, hM1, hownM, hMp⟩ := hQ
  have hLl : L.length = ps.length := by rw [← hL1, List.length_map]
  have hMl : M.length = qs.length := by rw [← hM1, List.length_map]
  rcases hownM.2 with ⟨rfl, hm0⟩ | ⟨g, cap, cur, rfl, hg1, hg2, hg3⟩
  · have hM0 : M = [] := List.eq_nil_of_length_eq_zero hm0
    subst hM0
    have hq0 : qs = [] := by rw [← hM1]; rfl
    subst hq0
    have hrun : (Builtin.append_ #[30, 30] o.type #[v, .slice none 0 0]).run Tryz.prog w = .ok v w := by
      rcases hown.2 with ⟨rfl, h0⟩ | ⟨g, cap', cur, rfl, _, _, hnc, _⟩
      · simp [Builtin.append_, run_underlying Tryz.underlying30, sizeOf, typeInfo, hi, Builtin.lenOf, Builtin.firstCells]
      · simp [Builtin.append_, run_underlying Tryz.underlying30, sizeOf, typeInfo, hi, Builtin.lenOf, Builtin.firstCells, hnc, storeCells]
    exact Lib.wpList_append_run w hgd s x _ _ ho v _ hs hx v w hrun (h v w (by rw [List.append_nil]; exact ⟨L, hL1, hown, hLp⟩) ⟨rfl, rfl, rfl, Nat.le_refl _, fun _ _ _ => rfl⟩)
  · refine wpList_append_own_at w hgd s x _ ho base 40 i0 _ 7 104 Tryz.underlying30 hi hz0 hz1 hz2 rfl (by decide) v L.length _ hs hown ⟨g, 0, none⟩ M.length cap (rowC M) hx (rowC_len M) (hownM.cells (g := g) rfl) (rowC_one M) (by unfold maxLen; omega) (by omega) hbase ?_
    intro v' w' hr hgr _ ho'
    have hk : ∀ k, base ≤ k → k < w.heap.size → some k ≠ v.ownBlock → w'.heap[k]? = w.heap[k]? ∧ some k ≠ v'.ownBlock := by
      intro k h1 h2 h3
      refine ⟨hgr.block k h2 h3, ?_⟩
      rcases ho' with ho' | ho'
      · rw [ho']; exact h3
      · rw [ho']
        intro h
        have := Option.some.inj h
        omega
    refine h v' w' ⟨L ++ M, by rw [List.map_append, hL1, hM1], by rw [List.length_append, rowC_append]; exact hr, fun y hy => ?_⟩ hgr
    rcases List.mem_append.1 hy with hy | hy
    · exact (hLp y hy).blocks hgr.size hk
    · obtain ⟨q1, q2, q3, q4⟩ := hMp y hy
      have hoff : ∀ {A : Option Addr} {n : Nat} {r : Option Nat}, OffS w base2 A n r → OffS w base A n v.ownBlock := by
        intro A n r ho hn ad had
        obtain ⟨p1, p2, p3⟩ := ho hn ad had
        exact ⟨Nat.le_trans hbb p1, p2, fun e => by have := hrow _ e.symm; omega⟩
      exact PartAt.blocks (row := v.ownBlock) ⟨q1, q2, hoff q3, hoff q4⟩ hgr.size hk
set_option maxRecDepth 20000 in
set_option maxHeartbeats 8000000 in
theorem cutsFeed (s : ByteArray) (at_ lim mode : Int) (w : World) (hs : s.size ≤ 140737488351232) (ha : -9223372036854775808 ≤ at_ ∧ at_ ≤ 9223372036854775807) (hl : -9223372036854775808 ≤ lim ∧ lim ≤ 9223372036854775807) (hm : -9223372036854775808 ≤ mode ∧ mode ≤ 9223372036854775807) (hL : LaidE w) (T : Tabs w) (hS : w.ShapedOpen Tryz.prog) :
    Calls Tryz.prog 7 #[.string s, .int .i64 at_, .int .i64 lim, .int .i64 mode] w fun e w' => e = .returned (.bool true) ∧ Below w.heap.size w w' := by
  obtain ⟨j, hj, hj2⟩ := pickN at_ (s.size + 1) (by omega)
  obtain ⟨k, hk, hk2⟩ := pickN lim 2000 (by omega)
  obtain ⟨md, hmd, hmd2⟩ := pickN mode 4 (by omega)
  have HJ := Lib.hid hj
  have HK := Lib.hid hk
  have HM := Lib.hid hmd
  clear hk hmd hj
  go_enter Tryz.func7, Tryz.ntmps7
  go_wp2_with fail
  refine (fed_fact w hL T hS).mono ?_
  rintro e w1 ⟨rfl, hb1⟩
  by_cases hsz : 3000 < s.size
  · have hI : (3000 : Int) < s.size := by omega
    go_wp2_with fail
    go_ret
    exact ⟨rfl, hb1⟩
  have hI : (s.size : Int) ≤ 3000 := by omega
  have hs3 : s.size ≤ 3000 := by omega
  have hjI : (j : Int) ≤ s.size := by omega
  go_wp2_with fail
  have hpk := pick_to at_ (s.size + 1) j HJ.out (by omega) (by omega) w1
  rw [show ((s.size + 1 : Nat) : Int) = (s.size : Int) + 1 from by omega] at hpk
  refine hpk.mono ?_
  rintro e w' ⟨rfl, rfl⟩
  clear hpk
  go_wp2_with fail
  refine (pick_to lim 2000 k HK.out (by omega) (by omega) _).mono ?_
  rintro e w' ⟨rfl, rfl⟩
  go_wp2_with fail
  refine (pick_to mode 4 md HM.out (by omega) (by omega) _).mono ?_
  rintro e w' ⟨rfl, rfl⟩
  go_wp2_with fail
  refine (fnew_ok k _ (by omega)).mono ?_
  rintro e w2 ⟨rfl, hF2, hb2⟩
  obtain ⟨G, hG⟩ : ∃ G, w1.heap.size = G := ⟨_, rfl⟩
  have hwG : w.heap.size ≤ G := by rw [← hG]; exact hb1.size
  have hb2w := below_step hb1 hb2
  rw [hG] at hF2 ⊢
  clear hG
  go_wp2_with fail
  refine (fnew_ok k _ (by omega)).mono ?_
  rintro e w3 ⟨rfl, hH3, hb3⟩
  obtain ⟨H, hH⟩ : ∃ H, w2.heap.size = H := ⟨_, rfl⟩
  have hwH : w.heap.size ≤ H := by rw [← hH]; exact hb2w.size
  have hGH : G ≠ H := by have := hF2.lt; omega
  have hF3 := Blk.below hF2 hb3 hF2.lt
  have hb3w := below_step hb2w hb3
  rw [hH] at hH3 ⊢
  clear hH
  go_wp2_with fail
  refine (fmode_ok G ⟨#[]⟩ k 0 md _ hF3 hmd2).mono ?_
  rintro e w4 ⟨rfl, hF4, hs4⟩
  have hH4 := Blk.step hH3 hs4 hGH.symm
  have hb4w := below_stepG hb3w hs4 hwG
  go_wp2_with fail
  refine (fmode_ok H ⟨#[]⟩ k 0 md _ hH4 hmd2).mono ?_
  rintro e w5 ⟨rfl, hH5, hs5⟩
  have hF5 := Blk.step hF4 hs5 hGH
  have hb5w := below_stepG hb4w hs5 hwH
  go_wp2_with fail
  refine (fput_ok G ⟨#[]⟩ s k md _ hF5 (by show 0 + s.size ≤ _; omega)).mono ?_
  rintro e w6 ⟨rfl, hF6, hs6⟩
  rw [nil_cat] at hF6
  have hH6 := Blk.step hH5 hs6 hGH.symm
  have hb6w := below_stepG hb5w hs6 hwG
  have hz1 : (s.extract 0 j).size ≤ 3000 := Nat.le_trans (size_ext _ _ _) hs3
  have hz2 : (s.extract j s.size).size ≤ 3000 := Nat.le_trans (size_ext _ _ _) hs3
  have hS1 : (s.extract 0 j).data.toList = s.data.toList.take j := take_ext s j
  have hS2 : (s.extract j s.size).data.toList = s.data.toList.drop j := by rw [ext_of, List.take_of_length_le (by rw [List.length_drop, len_of]; omega)]
  obtain ⟨S1, hS1e⟩ : ∃ S1 : ByteArray, s.extract 0 j = S1 := ⟨_, rfl⟩
  obtain ⟨S2, hS2e⟩ : ∃ S2 : ByteArray, s.extract j s.size = S2 := ⟨_, rfl⟩
  rw [hS1e] at hS1 hz1
  rw [hS2e] at hS2 hz2
  have hs12 : S1.data.toList ++ S2.data.toList = s.data.toList := by rw [hS1, hS2, List.take_append_drop]
  have HS1E := Lib.hid hS1e
  have HS2E := Lib.hid hS2e
  clear hS1e hS2e hS1 hS2
  go_wp2_with fail
  rw [HS1E.out]
  refine (fput_ok H ⟨#[]⟩ S1 k md _ hH6 (by show 0 + S1.size ≤ _; omega)).mono ?_
  rintro e w7 ⟨rfl, hH7, hs7⟩
  rw [nil_cat] at hH7
  have hF7 := Blk.step hF6 hs7 hGH
  have hb7w := below_stepG hb6w hs7 hwH
  have hlf := allF_left k (hdM md) (ddM md) s.data.toList.length s.data.toList (Nat.le_refl _)
  have hlf1 := allF_left k (hdM md) (ddM md) S1.data.toList.length S1.data.toList (Nat.le_refl _)
  obtain ⟨hc1, hc2⟩ := allF_cut k (hdM md) (ddM md) S1.data.toList.length S1.data.toList S2.data.toList (Nat.le_refl _)
  rw [hs12] at hc1 hc2
  obtain ⟨F, hF⟩ : ∃ F, allF k (hdM md) (ddM md) s.data.toList = F := ⟨_, rfl⟩
  obtain ⟨F1, hF1⟩ : ∃ F, allF k (hdM md) (ddM md) S1.data.toList = F := ⟨_, rfl⟩
  rw [hF] at hlf hc1 hc2
  rw [hF1] at hlf1 hc1 hc2
  obtain ⟨ps, c, rest⟩ := F
  obtain ⟨qs, c1, r1⟩ := F1
  simp only [len_of] at hlf hlf1 hc1 hc2
  have HF := Lib.hid hF
  have HF1 := Lib.hid hF1
  clear hF hF1 hs12
  go_wp2_with fail
  refine (fall_any G s k md _ w hF7 hmd2 (by omega) hb7w hwG hL T hS).mono ?_
  rw [HF.out]
  rintro e w8 ⟨v, R, rfl, hP8, hR8, hF8, hs8⟩
  simp only at hP8 hR8 hF8
  have hH8 := Blk.step hH7 hs8 hGH.symm
  have hb8w := below_stepG hb7w hs8 hwG
  have hHl : H < w7.heap.size := hH7.lt
  simp only
  go_wp2_with fail
  refine (fall_any H S1 k md _ w hH8 hmd2 (by omega) hb8w hwH hL T hS).mono ?_
  rw [HF1.out]
  rintro e w9 ⟨v1, R1, rfl, hP9, hR9, hH9, hs9⟩
  simp only at hP9 hR9 hH9
  have hF9 := Blk.step hF8 hs9 hGH
  have hb9w := below_stepG hb8w hs9 hwH
  have hH8l : H < w8.heap.size := hH8.lt
  have hRz : R.size = rest.length := by rw [← len_of, hR8]
  have hR1z : R1.size = r1.length := by rw [← len_of, hR9]
  simp only
  by_cases hcc : c1 = 0
  · subst hcc
    have hc3 := hc1 rfl (next_nz _ _ _)
    rw [← hR9] at hc3
    clear hc1 hc2
    rw [errv0] at hH9
    simp only [errv0]
    rw [← cat_l] at hc3
    have hz3 : (R1 ++ S2).size ≤ 6000 := by rw [ByteArray.size_append]; omega
    obtain ⟨F2, hF2e⟩ : ∃ F, allF k (hdM md) (ddM md) (R1 ++ S2).data.toList = F := ⟨_, rfl⟩
    rw [hF2e] at hc3
    obtain ⟨us, c2, r2⟩ := F2
    injection hc3 with e1 e23
    injection e23 with e2 e3
    subst e1
    subst e2
    subst e3
    have HF2 := Lib.hid hF2e
    have hlu : qs.length + us.length ≤ 1000000 := by
      have h48 : 48 * (qs ++ us).length ≤ s.size := hlf.2
      rw [List.length_append] at h48
      omega
    have HR8 := Lib.hid hR8
    clear hF2e hlf hlf1 hR8 hR9 hRz hR1z
    go_wp2_with fail
    rw [HS2E.out]
    refine (fput_ok H R1 S2 k md _ hH9 (by rw [← ByteArray.size_append]; omega)).mono ?_
    rintro e w10 ⟨rfl, hH10, hs10⟩
    have hF10 := Blk.step hF9 hs10 hGH
    have hb10w := below_stepG hb9w hs10 hwH
    go_wp2_with fail
    refine (fall_any H (R1 ++ S2) k md _ w hH10 hmd2 (by omega) hb10w hwH hL T hS).mono ?_
    rw [HF2.out]
    rintro e w11 ⟨v2, R2, rfl, hP11, hR11, hH11, hs11⟩
    simp only at hP11 hR11 hH11
    have hF11 := Blk.step hF10 hs11 hGH
    have hb11w := below_stepG hb10w hs11 hwH
    have hP9' := (hP9.step hs10 hH8l).step hs11 hH8l
    have hrow : ∀ q, v1.ownBlock = some q → w8.heap.size ≤ q ∧ q < w10.heap.size := by
      obtain ⟨L, _, ho, _⟩ := hP9
      intro q hq
      have := ownsRow_lt ho q hq
      exact ⟨this.1, Nat.lt_of_lt_of_le this.2 hs10.size⟩
    have hwle : w8.heap.size ≤ w10.heap.size := Nat.le_trans hs9.size hs10.size
    have hst811 : Step H w8 w11 := (hs9.trans hs10).trans hs11
    have hRR : ((R.size : Int) == R2.size) = true := by
      have : R.size = R2.size := by rw [← len_of R, HR8.out, ← len_of R2, hR11]
      rw [this]; simp
    clear hR11
    simp only
    go_wp2_with (at_builtin; refine wpList_append_pcs _ rfl _ _ rfl w8.heap.size w10.heap.size v1 v2 qs us rfl hP9' rfl hP11 hwle (fun q hq => (hrow q hq).2) hlu (Nat.le_trans hwle hs11.size) ?_)
    intro v3 w12 hP12 hg12
    have hst12 : Step H w8 w12 := Step.grown hst811 hg12 (fun q hq => (hrow q hq).1)
    have hPa := hP8.step hst12 hHl
    have hF12 := Blk.grown hF11 hg12 (by intro h; have := (hrow G h.symm).1; have := hF8.lt; omega)
    have hH12 := Blk.grown hH11 hg12 (by intro h; have := (hrow H h.symm).1; omega)
    have hb12w := below_stepG hb8w hst12 hwH
    go_wp2_with fail
    refine (tell_errv c _ (hL.on hb12w)).mono ?_
    rintro e w13 ⟨rfl, hb13⟩
    have hb13w := below_step hb12w hb13
    go_wp2_with fail
    refine (tell_errv c _ (hL.on hb13w)).mono ?_
    rintro e w14 ⟨rfl, hb14⟩
    have hb14w := below_step hb13w hb14
    have hF14 := Blk.below (Blk.below hF12 hb13 hF12.lt) hb14 (Nat.lt_of_lt_of_le hF12.lt hb13.size)
    have hH14 := Blk.below (Blk.below hH12 hb13 hH12.lt) hb14 (Nat.lt_of_lt_of_le hH12.lt hb13.size)
    go_wp2_with fail
    refine (fkept G R k md _ _ hF14).mono ?_
    rintro e w' ⟨rfl, rfl⟩
    go_wp2_with fail
    refine (fkept H R2 k md _ _ hH14).mono ?_
    rintro e w' ⟨rfl, rfl⟩
    go_wp2_with fail
    refine (eqf_pieces (qs ++ us) _ _ _ ((hPa.rd.on hb13).on hb14) ((hP12.rd.on hb13).on hb14) (by rw [List.length_append]; exact hlu)).mono ?_
    rintro e w15 ⟨rfl, hb15⟩
    go_wp2_with fail
    go_ret
    exact ⟨rfl, below_step hb14w hb15⟩
  · have hc3 := hc2 hcc
    injection hc3 with e1 e23
    injection e23 with e2 e3
    subst e1
    subst e2
    subst e3
    rw [errv_pos hcc] at hH9 hF9
    simp only [errv_pos hcc]
    have hRR : ((R.size : Int) == R1.size) = true := by rw [hRz, hR1z]; simp
    have hPa := hP8.step hs9 hHl
    clear hc1 hc2 hR8 hR9 hRz hR1z
    go_wp2_with fail
    refine (tell_errno c _ (hL.on hb9w)).mono ?_
    rintro e w13 ⟨rfl, hb13⟩
    have hb13w := below_step hb9w hb13
    go_wp2_with fail
    refine (tell_errno c _ (hL.on hb13w)).mono ?_
    rintro e w14 ⟨rfl, hb14⟩
    have hb14w := below_step hb13w hb14
    have hF14 := Blk.below (Blk.below hF9 hb13 hF9.lt) hb14 (Nat.lt_of_lt_of_le hF9.lt hb13.size)
    have hH14 := Blk.below (Blk.below hH9 hb13 hH9.lt) hb14 (Nat.lt_of_lt_of_le hH9.lt hb13.size)
    go_wp2_with fail
    refine (fkept G R k md _ _ hF14).mono ?_
    rintro e w' ⟨rfl, rfl⟩
    go_wp2_with fail
    refine (fkept H R1 k md _ _ hH14).mono ?_
    rintro e w' ⟨rfl, rfl⟩
    go_wp2_with fail
    refine (eqf_pieces ps _ _ _ ((hPa.rd.on hb13).on hb14) ((hP9.rd.on hb13).on hb14) (by omega)).mono ?_
    rintro e w15 ⟨rfl, hb15⟩
    go_wp2_with fail
    go_ret
    exact ⟨rfl, below_step hb14w hb15⟩
end Go.Proofs.YtifniblffjgfkaaGreatDoor
