/- The walk of the law KeysDefaults. -/
import Derived.Test.YtecembemhjjdhaaGreatDoorKeysNumK
import Derived.Test.YtecembemhjjdhaaGreatDoorKeysNames
import Derived.Test.YtecembemhjjdhaaGreatDoorPairsFind
namespace Go.Proofs.YtecembemhjjdhaaGreatDoor
open Go.ChangeShapes Go.WideShapes Go.ChangeAt Go.RowKit Go.Shelf
set_option linter.unusedVariables false
set_option linter.unusedSimpArgs false
theorem names_rows : ∀ n ∈ namesK, (keyRow n).isSome = true ∧ namesK.count n = 1 ∧ keyB n = true ∧ n.length ≤ 30 := by decide +kernel
theorem dflt_rows : ∀ r ∈ keyT, (dfl r = [] → r.kind = 6) ∧ (dfl r ≠ [] → fitsR r (dfl r) = 0) := by decide +kernel
theorem names_row (k : Nat) (n : List UInt8) (h : namesK[k]? = some n) : ∃ r, keyRow n = some r ∧ r.name = n ∧ namesK.count n = 1 ∧ keyB n = true ∧ n.length ≤ 30 := by
  obtain ⟨h1, h2, h3, h4⟩ := names_rows n (List.mem_of_getElem? h)
  rcases hr : keyRow n with _ | r
  · rw [hr] at h1; cases h1
  · exact ⟨r, rfl, keyRow_name hr, h2, h3, h4⟩
theorem keyK (s : ByteArray) (w : World) (hs : s.size ≤ 1000) (h : keyB s.data.toList = true) : Calls Tryz.prog 37 #[.string s] w fun e w' => e = .returned (.bool true) ∧ w = w' := by
  rw [← h]
  exact key_any s w (by omega)
set_option maxRecDepth 20000 in
set_option maxHeartbeats 8000000 in
theorem defaultsKeys (x : Int) (w : World) (hx : -9223372036854775808 ≤ x ∧ x ≤ 9223372036854775807) (V : Env w) :
    Calls Tryz.prog 10 #[.int .i64 x] w fun e w' => e = .returned (.bool true) ∧ Below w.heap.size w w' := by
  obtain ⟨k, hk, hk18⟩ := pickE x 18 (by omega)
  have hlenN : namesK.length = 18 := by decide +kernel
  obtain ⟨n, hn⟩ : ∃ n, namesK[k]? = some n := ⟨_, List.getElem?_eq_getElem (by omega)⟩
  obtain ⟨r, hr, hname, hcount, hkey, hnl⟩ := names_row k n hn
  have hm := keyRow_mem hr
  have hlen := keyT_len r hm
  obtain ⟨hd1, hd2⟩ := dflt_rows r hm
  obtain ⟨N, hN⟩ : ∃ N : ByteArray, (⟨n.toArray⟩ : ByteArray) = N := ⟨_, rfl⟩
  have hNl : N.data.toList = n := by rw [← hN]
  have hNz : N.size ≤ 30 := by rw [← len_of, hNl]; exact hnl
  obtain ⟨D, hD⟩ : ∃ N : ByteArray, (⟨(dfl r).toArray⟩ : ByteArray) = N := ⟨_, rfl⟩
  have hDl : D.data.toList = dfl r := by rw [← hD]
  have hDz : D.size ≤ 10 := by
    rw [← len_of, hDl]
    unfold dfl
    split
    · simp
    · omega
  obtain ⟨K, hK⟩ : ∃ K : Int, (r.kind : Int) = K := ⟨_, rfl⟩
  obtain ⟨LO, hLO⟩ : ∃ n : Nat, r.low = n := ⟨_, rfl⟩
  obtain ⟨HI, hHI⟩ : ∃ n : Nat, r.high = n := ⟨_, rfl⟩
  have hlohi : (LO : Int) ≤ HI := by omega
  have hkI : (k : Int) < 18 := by omega
  have hkJ : (0 : Int) ≤ k := by omega
  have hofs : Hid (∀ w, Tabs w → Calls Tryz.prog 23 #[.string N] w fun e w' => e = .returned (.tuple #[.agg #[.string N, .int .i64 K, .int .i64 LO, .int .i64 HI, .string D, .bool r.noth, .bool r.lonly], .nilIface]) ∧ Below w.heap.size w w') := Lib.hid (fun w T => by
    have h := of_kind N r K w (by rw [hNl]; exact hr) hK T
    rw [hname, hN, hD, hLO, hHI] at h
    exact h)
  have hfit : Hid (dfl r ≠ [] → fitsE N.data.toList D.data.toList = 0) := Lib.hid (fun h => by rw [hNl, row_fits hr, hDl]; exact hd2 h)
  have hkey' : Hid (keyB N.data.toList = true) := Lib.hid (by rw [hNl]; exact hkey)
  have HK := Lib.hid hk
  have HN := Lib.hid hn
  have HNL := Lib.hid hNl
  have HN2 := Lib.hid hN
  have HDL := Lib.hid hDl
  have HKK := Lib.hid hK
  have HD1 := Lib.hid hd1
  have HCNT := Lib.hid hcount
  have HLN := Lib.hid hlenN
  clear hk hn hr hname hcount hkey hnl hm hlen hd1 hd2 hN hNl hD hDl hK hLO hHI
  go_enter Tryz.func10, Tryz.ntmps10
  go_wp2_with fail
  refine (keyed_fact _ V).mono ?_
  rintro e w1 ⟨rfl, hb1⟩
  have V1 := V.on hb1
  go_wp2_with fail
  refine (paired_fact _ V1.L V1.S).mono ?_
  rintro e w2 ⟨rfl, hb2⟩
  have hbw2 := below_step hb1 hb2
  go_wp2_with fail
  refine (names_any _ (V.on hbw2).S).mono ?_
  rintro e w3 ⟨v, rfl, hv, hb3⟩
  have hbw3 := below_step hbw2 hb3
  obtain ⟨A, cap, rfl, _⟩ := hv.form
  rw [HLN.out] at hv ⊢
  have HV := Lib.hid hv
  obtain ⟨b0, o0, rfl, hb0, hc⟩ := hv.at HN.out
  rw [HN2.out] at hc
  clear hv hlenN hb1 hb2 hb3 hbw2 V1
  go_wp2_with fail
  refine (pickK x 18 k HK.out (by omega) (by omega) _).mono ?_
  rintro e w' ⟨rfl, rfl⟩
  go_wp2_with fail
  refine (hofs.out _ (V.on hbw3).T).mono ?_
  rintro e w4 ⟨rfl, hb4⟩
  have hbw4 := below_step hbw3 hb4
  go_wp2_with fail
  obtain ⟨w5, hw5⟩ : ∃ w5 : World, w4.alloc (.cells #[.string N, .int .i64 K, .int .i64 LO, .int .i64 HI, .string D, .bool r.noth, .bool r.lonly] 24) = w5 := ⟨_, rfl⟩
  obtain ⟨g, hg⟩ : ∃ g, w4.heap.size = g := ⟨_, rfl⟩
  have hB5 : Blk w5 g 24 #[.string N, .int .i64 K, .int .i64 LO, .int .i64 HI, .string D, .bool r.noth, .bool r.lonly] := by rw [← hw5, ← hg]; exact Blk.new w4 _ _
  have hb45 : Below w4.heap.size w4 w5 := by rw [← hw5]; exact (Below.refl _ _).alloc (Nat.le_refl _) _
  have hbw5 := below_step hbw4 hb45
  have HV5 := Lib.hid ((HV.out.on hb4).on hb45)
  rw [hw5]
  try rw [hg]
  clear hw5 hg hb45 hbw4 hbw3 hb4 hc HV
  go_loop [7, 34] (fun m i => ∃ j : Nat, j ≤ 18 ∧ i = .int .i64 j ∧ m = .int .i64 ((namesK.take j).count n : Nat)) (fun _ i => 18 - (intOf i).toNat)
  case atStart => exact ⟨0, Nat.zero_le _, rfl, rfl⟩
  case round =>
    obtain ⟨j, hj, rfl, rfl⟩ := hrel
    obtain ⟨C, hC⟩ : ∃ C : Nat, (namesK.take j).count n = C := ⟨_, rfl⟩
    have hCle : C ≤ 18 := by rw [← hC]; exact Nat.le_trans List.count_le_length (by rw [List.length_take]; omega)
    have hCI : (C : Int) ≤ 18 := by omega
    have HC := Lib.hid hC
    rw [hC]
    clear hC
    by_cases hlt : j < 18
    · obtain ⟨y, hy⟩ : ∃ y, namesK[j]? = some y := ⟨_, List.getElem?_eq_getElem (by rw [HLN.out]; exact hlt)⟩
      obtain ⟨b1, o1, hA1, hb1, hc⟩ := HV5.out.at hy
      obtain ⟨rfl, rfl⟩ : b1 = b0 ∧ o1 = o0 := by injection hA1 with hA1; injection hA1 with h1 h2; exact ⟨h1.symm, h2.symm⟩
      obtain ⟨Y, hY⟩ : ∃ Y : ByteArray, (⟨y.toArray⟩ : ByteArray) = Y := ⟨_, rfl⟩
      have hYl : Y.data.toList = y := by rw [← hY]
      rw [hY] at hc
      have hstep : (namesK.take (j + 1)).count n = C + if y = n then 1 else 0 := by
        rw [List.take_add_one, hy, List.count_append, HC.out]
        simp [List.count_cons]
      by_cases hyn : y = n
      · have f1 : (Y.toList == N.toList) = true := by rw [toList_of, toList_of, hYl, HNL.out, hyn]; simp
        rw [if_pos hyn] at hstep
        have HST := Lib.hid hstep
        have hYN : Y = N := by rw [str_of Y, str_of N, hYl, HNL.out, hyn]
        subst hYN
        clear hY hYl hyn hstep hy hA1
        go_wp2_with fail
        all_goals
          go_round
          case rel => exact ⟨j + 1, by omega, by go_num, by rw [HST.out]; go_num⟩
          case measure => simp [intOf]; omega
      · have f1 : (Y.toList == N.toList) = false := by rw [toList_of, toList_of, hYl, HNL.out]; simpa using hyn
        rw [if_neg hyn] at hstep
        have HST := Lib.hid hstep
        have hYN : ¬ Y = N := fun h => hyn (by rw [← hYl, h, HNL.out])
        clear hY hYl hyn hstep hy hA1
        go_wp2_with fail
        go_round
        case rel => exact ⟨j + 1, by omega, by go_num, by rw [HST.out, Nat.add_zero]⟩
        case measure => simp [intOf]; omega
    · have hj18 : j = 18 := by omega
      have hC1 : C = 1 := by
        rw [← HC.out, hj18, show namesK.take 18 = namesK from rfl]
        exact HCNT.out
      subst hC1
      have k0 := hB5.cell 0
      have k1 := hB5.cell 1
      have k2 := hB5.cell 2
      have k3 := hB5.cell 3
      have k4 := hB5.cell 4
      by_cases hd : dfl r = []
      · have f1 : D.toList = [] := by rw [toList_of, HDL.out, hd]
        have f2 : D.toList.isEmpty = true := by rw [f1]; rfl
        have hK6 : K = 6 := by rw [← HKK.out, HD1.out hd]; rfl
        subst hK6
        clear hd
        go_wp2_with fail
        refine (keyK N _ (by omega) hkey'.out).mono ?_
        rintro e w' ⟨rfl, rfl⟩
        go_wp2_with fail
        go_ret
        exact ⟨by simp, hbw5⟩
      · have f1 : ¬ D.toList = [] := by rw [toList_of, HDL.out]; exact hd
        have f2 : D.toList.isEmpty = false := by
          rcases hl : D.toList with _ | ⟨y, l⟩
          · exact absurd hl f1
          · rfl
        have V5 := V.on hbw5
        have hf := hfit.out hd
        have HF := Lib.hid hf
        clear hd hf
        go_wp2_with fail
        refine (keyK N _ (by omega) hkey'.out).mono ?_
        rintro e w' ⟨rfl, rfl⟩
        go_wp2_with fail
        refine (fits_good N D _ HF.out (by omega) V5.T V5.E V5.S).mono ?_
        rintro e w6 ⟨rfl, hb6⟩
        have hB6 := hB5.below hb6 hB5.lt
        have m1 := hB6.cell 1
        have m2 := hB6.cell 2
        have m3 := hB6.cell 3
        have m4 := hB6.cell 4
        go_wp2_with fail
        go_ret
        exact ⟨by simp, below_step hbw5 hb6⟩
end Go.Proofs.YtecembemhjjdhaaGreatDoor
