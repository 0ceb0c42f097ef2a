/- The walk of the law FeedOne. -/
import Derived.Test.YtifniblffjgfkaaGreatDoorFeedStopsW
namespace Go.Proofs.YtifniblffjgfkaaGreatDoor
open Go.ChangeShapes Go.WideShapes Go.ChangeAt Go.RowKit Go.Shelf
set_option linter.unusedVariables false
theorem next_of_all {limit : Nat} {hd dd : Bool} {X : List UInt8} {p : Pc} {q : List Pc} {c : Nat} {rest : List UInt8} (h : allF limit hd dd X = (p :: q, c, rest)) : ∃ n, nextP limit hd dd X = .pc p n ∧ allF limit hd dd (X.drop n) = (q, c, rest) := by
  rcases hn : nextP limit hd dd X with _ | c' | ⟨p', n⟩
  · rw [allF_no hn] at h
    injection h with h1 h2
    cases h1
  · rw [allF_bad hn] at h
    injection h with h1 h2
    cases h1
  · rw [allF_pc hn] at h
    injection h with h1 h2
    injection h1 with h3 h4
    injection h2 with h5 h6
    exact ⟨n, by rw [h3], Prod.ext h4 (Prod.ext h5 h6)⟩
theorem next_of_end {limit : Nat} {hd dd : Bool} {X : List UInt8} {c : Nat} {rest : List UInt8} (h : allF limit hd dd X = ([], c, rest)) : (nextP limit hd dd X = .no ∧ c = 0 ∧ rest = X) ∨ (nextP limit hd dd X = .bad c ∧ c ≠ 0 ∧ rest = []) := by
  rcases hn : nextP limit hd dd X with _ | c' | ⟨p', n⟩
  · rw [allF_no hn] at h
    injection h with h1 h2
    injection h2 with h5 h6
    exact .inl ⟨rfl, h5.symm, h6.symm⟩
  · rw [allF_bad hn] at h
    injection h with h1 h2
    injection h2 with h5 h6
    subst h5
    exact .inr ⟨rfl, next_nz _ _ _ _ _ hn, h6.symm⟩
  · rw [allF_pc hn] at h
    injection h with h1 h2
    cases h1
set_option maxRecDepth 20000 in
set_option maxHeartbeats 4000000 in
theorem oneFeed (s : ByteArray) (lim mode : Int) (w : World) (hs : s.size ≤ 140737488351232) (hl : -9223372036854775808 ≤ lim ∧ lim ≤ 9223372036854775807) (hm : -9223372036854775808 ≤ mode ∧ mode ≤ 9223372036854775807) (hL : LaidE w) (T : Tabs w) (hS : w.ShapedOpen Tryz.prog) :
    Calls Tryz.prog 5 #[.string s, .int .i64 lim, .int .i64 mode] w fun e w' => e = .returned (.bool true) ∧ Below w.heap.size w w' := by
  obtain ⟨k, hk, hk2⟩ := pickN lim 2000 (by omega)
  obtain ⟨md, hmd, hmd2⟩ := pickN mode 4 (by omega)
  have HK := Lib.hid hk
  have HM := Lib.hid hmd
  clear hk hmd
  go_enter Tryz.func5, Tryz.ntmps5
  go_wp2_with fail
  refine (fed_fact w hL T hS).mono ?_
  rintro e w1 ⟨rfl, hb1⟩
  by_cases hsz : 3000 < s.size
  · have hI : (3000 : Int) < s.size := by omega
    go_wp2_with fail
    go_ret
    exact ⟨rfl, hb1⟩
  have hI : (s.size : Int) ≤ 3000 := by omega
  have hs3 : s.size ≤ 3000 := by omega
  go_wp2_with fail
  refine (pick_to lim 2000 k HK.out (by omega) (by omega) _).mono ?_
  rintro e w' ⟨rfl, rfl⟩
  go_wp2_with fail
  refine (fnew_ok k _ (by omega)).mono ?_
  rintro e w2 ⟨rfl, hF2, hb2⟩
  obtain ⟨G, hG⟩ : ∃ G, w1.heap.size = G := ⟨_, rfl⟩
  have hwG : w.heap.size ≤ G := by rw [← hG]; exact hb1.size
  have hb2w := below_step hb1 hb2
  rw [hG] at hF2 ⊢
  clear hG
  go_wp2_with fail
  refine (pick_to lim 2000 k HK.out (by omega) (by omega) _).mono ?_
  rintro e w' ⟨rfl, rfl⟩
  go_wp2_with fail
  refine (fnew_ok k _ (by omega)).mono ?_
  rintro e w3 ⟨rfl, hH3, hb3⟩
  obtain ⟨H, hH⟩ : ∃ H, w2.heap.size = H := ⟨_, rfl⟩
  have hwH : w.heap.size ≤ H := by rw [← hH]; exact hb2w.size
  have hGH : G ≠ H := by have := hF2.lt; omega
  have hF3 := Blk.below hF2 hb3 hF2.lt
  have hb3w := below_step hb2w hb3
  rw [hH] at hH3 ⊢
  clear hH
  go_wp2_with fail
  refine (pick_to mode 4 md HM.out (by omega) (by omega) _).mono ?_
  rintro e w' ⟨rfl, rfl⟩
  go_wp2_with fail
  refine (fmode_ok G ⟨#[]⟩ k 0 md _ hF3 hmd2).mono ?_
  rintro e w4 ⟨rfl, hF4, hs4⟩
  have hH4 := Blk.step hH3 hs4 hGH.symm
  have hb4w := below_stepG hb3w hs4 hwG
  go_wp2_with fail
  refine (fmode_ok H ⟨#[]⟩ k 0 md _ hH4 hmd2).mono ?_
  rintro e w5 ⟨rfl, hH5, hs5⟩
  have hF5 := Blk.step hF4 hs5 hGH
  have hb5w := below_stepG hb4w hs5 hwH
  go_wp2_with fail
  refine (fput_ok G ⟨#[]⟩ s k md _ hF5 (by show 0 + s.size ≤ _; omega)).mono ?_
  rintro e w6 ⟨rfl, hF6, hs6⟩
  rw [nil_cat] at hF6
  have hH6 := Blk.step hH5 hs6 hGH.symm
  have hb6w := below_stepG hb5w hs6 hwG
  go_wp2_with fail
  refine (fput_ok H ⟨#[]⟩ s k md _ hH6 (by show 0 + s.size ≤ _; omega)).mono ?_
  rintro e w7 ⟨rfl, hH7, hs7⟩
  rw [nil_cat] at hH7
  have hF7 := Blk.step hF6 hs7 hGH
  have hb7w := below_stepG hb6w hs7 hwH
  have hlf := allF_left k (hdM md) (ddM md) s.data.toList.length s.data.toList (Nat.le_refl _)
  obtain ⟨F, hF⟩ : ∃ F, allF k (hdM md) (ddM md) s.data.toList = F := ⟨_, rfl⟩
  rw [hF] at hlf
  obtain ⟨ps, c, rest⟩ := F
  simp only [len_of] at hlf
  have HF := Lib.hid hF
  clear hF
  go_wp2_with fail
  refine (fall_any G s k md _ w hF7 hmd2 (by omega) hb7w hwG hL T hS).mono ?_
  rw [HF.out]
  rintro e w8 ⟨v, R, rfl, hP8, hR8, hF8, hs8⟩
  simp only at hP8 hR8 hF8
  have hH8 := Blk.step hH7 hs8 hGH.symm
  have hb8w := below_stepG hb7w hs8 hwG
  have hHl : H < w7.heap.size := hH7.lt
  obtain ⟨N, hN⟩ : ∃ N, ps.length = N := ⟨_, rfl⟩
  obtain ⟨A, cap, rfl⟩ : ∃ A cap, v = .slice A N cap := by
    obtain ⟨L, hL1, hL2, _⟩ := hP8.rd
    obtain ⟨_, A, cap, hv, _⟩ := hL2
    exact ⟨A, cap, by rw [hv, ← hN, ← hL1, List.length_map]⟩
  have hN4 : N ≤ 3000 := by omega
  have HP8 := Lib.hid hP8
  have HR8 := Lib.hid hR8
  have HN := Lib.hid hN
  clear hR8 hP8 hN hlf
  simp only
  go_wp2_with fail
  go_loopw [85] (fun i wr => ∃ (j : Nat) (X : ByteArray), j ≤ N ∧ i = .int .i64 j ∧ FBlk wr H X k md .nilIface ∧ X.size ≤ 3000 ∧ allF k (hdM md) (ddM md) X.data.toList = (ps.drop j, c, rest) ∧ Step H w8 wr) (fun i _ => N - (intOf i).toNat)
  case atStart => exact ⟨0, s, Nat.zero_le _, rfl, hH8, hs3, HF.out, Step.refl _ _⟩
  case round =>
    obtain ⟨j, X, hj, rfl, hHr, hXz, hA, hst⟩ := hrel
    have hbrw := below_stepG hb8w hst hwH
    have hF8r := Blk.step hF8 hst hGH
    have hrl := hHr.lt
    by_cases hlt : j < N
    · obtain ⟨L, hL1, hown, hLp⟩ := HP8.out.step hst hHl
      have hL2 := SRd.of_m (MRow.of_own hown)
      have hLN : L.length = N := by rw [← HN.out, ← hL1, List.length_map]
      obtain ⟨x, hx⟩ : ∃ x, L[j]? = some x := ⟨_, List.getElem?_eq_getElem (by rw [hLN]; exact hlt)⟩
      have hpx : ps[j]? = some x.1 := by rw [← hL1, List.getElem?_map, hx]; rfl
      have hdr : ps.drop j = x.1 :: ps.drop (j + 1) := by
        obtain ⟨h1, h2⟩ := List.getElem?_eq_some_iff.1 hpx
        rw [List.drop_eq_getElem_cons h1, h2]
      rw [hdr] at hA
      obtain ⟨n, hnx, hA2⟩ := next_of_all hA
      obtain ⟨hn1, hn2, _⟩ := nextP_pc hnx
      rw [len_of] at hn2
      obtain ⟨b, o, cp, hv, hbl, c0, c1, c2, c3, c4, c5, c6⟩ := hL2.piece hx
      have hQ := hLp x (List.mem_of_getElem? hx)
      injection hv with e1 e2 e3
      clear e2
      subst e1
      subst e3
      obtain ⟨p, P⟩ := x
      obtain ⟨op, now, fl, vals, al, data, sp⟩ := p
      obtain ⟨PA, pcap, PB, pbcap⟩ := P
      simp only at c0 c1 c2 c3 c4 c5 c6 hnx
      obtain ⟨DX, hDX⟩ : ∃ X : ByteArray, (⟨data.toArray⟩ : ByteArray) = X := ⟨_, rfl⟩
      obtain ⟨SX, hSX⟩ : ∃ X : ByteArray, (⟨sp.toArray⟩ : ByteArray) = X := ⟨_, rfl⟩
      rw [hDX] at c5
      rw [hSX] at c6
      have hXe : (X.extract n X.size).data.toList = X.data.toList.drop n := by rw [ext_of, List.take_of_length_le (by rw [List.length_drop, len_of]; omega)]
      rw [← hXe] at hA2
      have hXs : (X.extract n X.size).size ≤ 3000 := Nat.le_trans (size_ext _ _ _) hXz
      have HA2 := Lib.hid hA2
      have HNX := Lib.hid hnx
      have HXE := Lib.hid hXs
      have HDX := Lib.hid hDX
      have HSX := Lib.hid hSX
      have hb1 : Below wr.heap.size wr (wr.alloc (.cells #[.int .i64 op, .bool now, .int .i64 fl, .slice PA vals.length pcap, .slice PB al.length pbcap, .string DX, .string SX] 40)) := (Below.refl _ _).alloc (Nat.le_refl _) _
      have hZ1 := Blk.new wr 40 #[.int .i64 op, .bool now, .int .i64 fl, .slice PA vals.length pcap, .slice PB al.length pbcap, .string DX, .string SX]
      have hb1w := below_step hbrw hb1
      clear hA hA2 hnx hXe hXs hDX hSX hdr hpx hx hL1 hL2 hown hLp hLN
      go_wp2_with fail
      refine (fnext_pc H X k md n _ _ (Blk.below hHr hb1 hrl) (by omega) hmd2 HNX.out (hL.on hb1w) (T.on hb1w) (shaped_ons hS hb1w)).mono ?_
      rintro e w10 ⟨A', B', cap', bcap', rfl, hP10, hH10, hs10⟩
      unfold pcC
      simp only
      rw [HDX.out, HSX.out]
      have hQH : wr.heap.size ≠ H := by omega
      have hZ10 := Blk.step hZ1 hs10 hQH
      have hb11 : Below w10.heap.size w10 (w10.alloc (.cells #[.int .i64 op, .bool now, .int .i64 fl, .slice A' vals.length cap', .slice B' al.length bcap', .string DX, .string SX] 40)) := (Below.refl _ _).alloc (Nat.le_refl _) _
      have hZ11 := Blk.below hZ10 hb11 hZ10.lt
      have hst11 : Step H wr (w10.alloc (.cells #[.int .i64 op, .bool now, .int .i64 fl, .slice A' vals.length cap', .slice B' al.length bcap', .string DX, .string SX] 40)) := ((Step.of_below hb1).trans hs10).trans (Step.of_below hb11)
      have hQ11 := hQ.blocks (row' := _) hst11.size (fun k h1 h2 h3 => ⟨hst11.block k (by omega) h2, h3⟩)
      have hP11 := hP10.on hb11
      have z0 := hZ11.cell 0
      have z1 := hZ11.cell 1
      have z2 := hZ11.cell 2
      have z3 := hZ11.cell 3
      have z4 := hZ11.cell 4
      have z5 := hZ11.cell 5
      have z6 := hZ11.cell 6
      have x0 := hZ10.cell 0
      have x1 := hZ10.cell 1
      have x2 := hZ10.cell 2
      have x3 := hZ10.cell 3
      have x4 := hZ10.cell 4
      have x5 := hZ10.cell 5
      have x6 := hZ10.cell 6
      have hss : (SX.toList == SX.toList) = true := by simp
      have hsn : (SX.toList != SX.toList) = false := by simp
      clear c0 c1 c2 c3 c4 c5 c6
      go_wp2_with fail
      refine (samePdu_yes op now fl vals al _ _ _ _ DX _ hQ11.1 hP11.1 hQ11.2.1 hP11.2.1).mono ?_
      rintro e w12 ⟨rfl, hb12⟩
      have hst12 := (hst.trans hst11).trans (Step.of_below hb12)
      have hH12 := Blk.below (Blk.below hH10 hb11 hH10.lt) hb12 (by have := hb11.size; have := hH10.lt; omega)
      clear z0 z1 z2 z3 z4 z5 z6 x0 x1 x2 x3 x4 x5 x6
      go_wp2_with fail
      go_roundw
      case rel => exact ⟨j + 1, _, by omega, by go_num, hH12, HXE.out, HA2.out, hst12⟩
      case measure => simp [intOf]; omega
    · obtain rfl : j = N := by omega
      rw [List.drop_of_length_le (by rw [HN.out]; exact Nat.le_refl _)] at hA
      rcases next_of_end hA with ⟨hnx, rfl, rfl⟩ | ⟨hnx, hc, rfl⟩
      · have hRX : ((R.size : Int) == X.size) = true := by
          have : R.size = X.size := by rw [← len_of, HR8.out, len_of]
          rw [this]; simp
        have HNX := Lib.hid hnx
        rw [errv0] at hF8r
        simp only [errv0]
        clear hA hnx
        go_wp2_with fail
        refine (fnext_no H X k md _ hHr (by omega) hmd2 HNX.out).mono ?_
        rintro e w10 ⟨rfl, hb10⟩
        unfold zeroPcC
        have hb11 : Below w10.heap.size w10 (w10.alloc (.cells #[.int .i64 0, .bool false, .int .i64 0, .slice none 0 0, .slice none 0 0, .string ⟨#[]⟩, .string ⟨#[]⟩] 40)) := (Below.refl _ _).alloc (Nat.le_refl _) _
        have hb11r := below_step hb10 hb11
        have hH11 := Blk.below hHr hb11r hrl
        have hF11 := Blk.below hF8r hb11r hF8r.lt
        go_wp2_with fail
        refine (tell_nil _).mono ?_
        rintro e w' ⟨rfl, rfl⟩
        go_wp2_with fail
        refine (tell_nil _).mono ?_
        rintro e w' ⟨rfl, rfl⟩
        go_wp2_with fail
        refine (fkept G R k md _ _ hF11).mono ?_
        rintro e w' ⟨rfl, rfl⟩
        go_wp2_with fail
        refine (fkept H X k md _ _ hH11).mono ?_
        rintro e w' ⟨rfl, rfl⟩
        go_wp2_with fail
        go_ret
        exact ⟨rfl, below_step hbrw hb11r⟩
      · have hR0 : ((R.size : Int) == 0) = true := by
          have : R.size = 0 := by rw [← len_of, HR8.out]; rfl
          rw [this]; rfl
        have HNX := Lib.hid hnx
        rw [errv_pos hc] at hF8r
        simp only [errv_pos hc]
        clear hA hnx
        go_wp2_with fail
        refine (fnext_err H X k md c _ hHr (by omega) hmd2 HNX.out (hL.on hbrw) (T.on hbrw) (shaped_ons hS hbrw)).mono ?_
        rintro e w10 ⟨rfl, hH10, hs10⟩
        unfold zeroPcC
        have hF10 := Blk.step hF8r hs10 hGH
        have hb10w := below_stepG hbrw hs10 hwH
        have hb11 : Below w10.heap.size w10 (w10.alloc (.cells #[.int .i64 0, .bool false, .int .i64 0, .slice none 0 0, .slice none 0 0, .string ⟨#[]⟩, .string ⟨#[]⟩] 40)) := (Below.refl _ _).alloc (Nat.le_refl _) _
        have hH11 := Blk.below hH10 hb11 hH10.lt
        have hF11 := Blk.below hF10 hb11 hF10.lt
        have hb11w := below_step hb10w hb11
        go_wp2_with fail
        refine (tell_errno c _ (hL.on hb11w)).mono ?_
        rintro e w12 ⟨rfl, hb12⟩
        have hH12 := Blk.below hH11 hb12 hH11.lt
        have hF12 := Blk.below hF11 hb12 hF11.lt
        have hb12w := below_step hb11w hb12
        go_wp2_with fail
        refine (tell_errno c _ (hL.on hb12w)).mono ?_
        rintro e w13 ⟨rfl, hb13⟩
        have hH13 := Blk.below hH12 hb13 hH12.lt
        have hF13 := Blk.below hF12 hb13 hF12.lt
        have hb13w := below_step hb12w hb13
        go_wp2_with fail
        refine (fkept G R k md _ _ hF13).mono ?_
        rintro e w' ⟨rfl, rfl⟩
        go_wp2_with fail
        refine (fkept H _ k md _ _ hH13).mono ?_
        rintro e w' ⟨rfl, rfl⟩
        go_wp2_with fail
        go_ret
        exact ⟨rfl, hb13w⟩
end Go.Proofs.YtifniblffjgfkaaGreatDoor
