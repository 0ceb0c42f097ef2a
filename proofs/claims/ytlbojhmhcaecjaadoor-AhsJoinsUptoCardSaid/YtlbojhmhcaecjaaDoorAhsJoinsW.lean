/- The walk of the law AhsJoins, its second form: lists that are not too long to be laid one behind the other. -/
import Derived.Test.YtlbojhmhcaecjaaDoorConcatAhs
import Derived.Test.YtlbojhmhcaecjaaDoorTellAt
namespace Go.Proofs.YtlbojhmhcaecjaaDoor
open Go.ChangeShapes Go.WideShapes Go.ChangeAt Go.RowKit
set_option linter.unusedVariables false
theorem arow_form {w : World} {base : Nat} {v : Value} {l : AhsL} (h : ARow w base v l) : ∃ A cap, v = .slice A l.length cap := by
  obtain ⟨A, cap, hv, _⟩ := MRow.form h
  exact ⟨A, cap, hv⟩
theorem srd_form {w : World} {v : Value} {size n : Nat} {xs : List Value} (h : SRd w v size n xs) : ∃ A cap, v = .slice A n cap := by
  obtain ⟨_, A, cap, hv, _⟩ := h
  exact ⟨A, cap, hv⟩
theorem right_append_bad (a b : AhsL) (h : rightGo (a ++ b) 0 0 = none) : rightGo a 0 0 = none ∧ rightGo b 0 0 = none := by
  obtain ⟨h1, h2⟩ := right_none _ 0 0 (by omega) h
  rw [sumLen_append] at h2
  exact ⟨right_some_iff a 0 0 (by omega) (fun p hp => by have := h1 p (by simp [hp]); omega) (by omega), right_some_iff b 0 0 (by omega) (fun p hp => by have := h1 p (by simp [hp]); omega) (by omega)⟩
set_option maxRecDepth 20000 in
set_option maxHeartbeats 16000000 in
theorem joinAhs (a : AhsL) (va : Value) (b : AhsL) (vb : Value) (w : World)
    (hva : SRd w va 2 a.length (ahsCells a)) (hba : ∀ q ∈ a, -9223372036854775808 ≤ q.1 ∧ q.1 ≤ 9223372036854775807) (hda : ∀ p ∈ a, p.2.size ≤ 140737488351232)
    (hvb : SRd w vb 2 b.length (ahsCells b)) (hbb : ∀ q ∈ b, -9223372036854775808 ≤ q.1 ∧ q.1 ≤ 9223372036854775807) (hdb : ∀ p ∈ b, p.2.size ≤ 140737488351232)
    (hna : a.length ≤ 1048576) (hnb : b.length ≤ 1048576) (hL : LaidE w) (hS : w.ShapedOpen Tryd.prog) :
    Calls Tryd.prog 3 #[va, vb] w fun e w' => e = .returned (.bool true) ∧ Below w.heap.size w w' := by
  clear hS hba hbb
  go_enter Tryd.func3, Tryd.ntmps3
  go_wp2_with fail
  refine (more_fact _ hL).mono ?_
  rintro e w1 ⟨rfl, hb1⟩
  have hL1 := hL.on hb1
  have hva1 := hva.on hb1
  have hvb1 := hvb.on hb1
  clear hva hvb
  go_wp2_with fail
  refine (wide_any a va _ hva1 hda).mono ?_
  rintro e w2 ⟨ba, rfl, hb2'⟩
  have hb2 := below_step hb1 hb2'
  have hva2 := hva1.on hb2'
  have hvb2 := hvb1.on hb2'
  have hL2 := hL1.on hb2'
  clear hva1 hvb1 hb2'
  cases ba
  case true =>
    go_wp2_with fail
    go_ret
    exact ⟨rfl, hb2⟩
  case false =>
    go_wp2_with fail
    refine (wide_any b vb _ hvb2 hdb).mono ?_
    rintro e w3 ⟨bb, rfl, hb3'⟩
    have hb3 := below_step hb2 hb3'
    have hva3 := hva2.on hb3'
    have hvb3 := hvb2.on hb3'
    have hL3 := hL2.on hb3'
    clear hva2 hvb2 hb3'
    cases bb
    case true =>
      go_wp2_with fail
      go_ret
      exact ⟨rfl, hb3⟩
    case false =>
      have hs0 : ∀ p ∈ a ++ b, p.2.size ≤ 140737488351232 := by
        intro p hp
        rcases List.mem_append.1 hp with hp | hp
        · exact hda p hp
        · exact hdb p hp
      obtain ⟨A1, cap1, rfl⟩ := srd_form hva3
      obtain ⟨A2, cap2, rfl⟩ := srd_form hvb3
      rcases hra : rightGo a 0 0 with _ | ra
      · rcases hrb : rightGo b 0 0 with _ | rb
        · have HA := Lib.hid hra
          have HB := Lib.hid hrb
          clear hra hrb
          go_wp2_with fail
          refine (ahsWrite_ok a _ _ hva3 hda HA.out).mono ?_
          rintro e w4 ⟨rfl, hb4'⟩
          have hb4 := below_step hb3 hb4'
          have hva4 := hva3.on hb4'
          have hvb4 := hvb3.on hb4'
          clear hva3 hvb3 hb4'
          obtain ⟨S, hSe⟩ : ∃ S : ByteArray, S = ⟨(ahsB a).toArray⟩ := ⟨_, rfl⟩
          rw [← hSe]
          have HSE := Lib.hid hSe
          clear hSe
          go_wp2_with fail
          refine (ahsWrite_ok b _ _ hvb4 hdb HB.out).mono ?_
          rintro e w5 ⟨rfl, hb5'⟩
          have hb5 := below_step hb4 hb5'
          have hva5 := hva4.on hb5'
          have hvb5 := hvb4.on hb5'
          clear hva4 hvb4 hb5'
          obtain ⟨T, hTe⟩ : ∃ T : ByteArray, T = ⟨(ahsB b).toArray⟩ := ⟨_, rfl⟩
          rw [← hTe]
          have HTE := Lib.hid hTe
          clear hTe
          have hs4 : w5.heap.size < (w5.alloc (.cells #[.slice A1 a.length cap1, .slice A2 b.length cap2] 22)).heap.size := by simp
          have hba5 : Below w5.heap.size w5 (w5.alloc (.cells #[.slice A1 a.length cap1, .slice A2 b.length cap2] 22)) := (Below.refl _ _).alloc (Nat.le_refl _) _
          have HC0 := Lib.hid ((Blk.new w5 22 #[.slice A1 a.length cap1, .slice A2 b.length cap2]).cell 0)
          have HC1 := Lib.hid ((Blk.new w5 22 #[.slice A1 a.length cap1, .slice A2 b.length cap2]).cell 1)
          have HX := Lib.hid (hva5.on hba5)
          have HY := Lib.hid (hvb5.on hba5)
          have HS0 := Lib.hid hs0
          clear hva5 hvb5 hs0
          go_wp2_with fail
          refine (concat_any _ _ a b w5.heap.size _ HX.out HY.out hna hnb HC0.out HC1.out hs4).mono ?_
          rintro e w6 ⟨v6, rfl, hv6, hb6'⟩
          have hb6 := below_step (below_step hb5 hba5) hb6'
          have hL6 := hL.on hb6
          have hr6 := SRd.of_m hv6
          clear hv6 hb6' HX HY HC0 HC1 hba5 hs4
          have hsa := (right_none a 0 0 (by omega) HA.out).2
          have hsb := (right_none b 0 0 (by omega) HB.out).2
          have hSz : S.size = sumLen a := by rw [HSE.out, size_mkl, ahsB_len]
          have hTz : T.size = sumLen b := by rw [HTE.out, size_mkl, ahsB_len]
          have happ := right_append a b 0 0 (by omega) HA.out
          rw [Nat.zero_add, Nat.zero_add] at happ
          by_cases hroom : sumLen a + sumLen b ≤ 1020
          · have hn : rightGo (a ++ b) 0 0 = none := by
              rw [happ]
              exact right_room b 0 (sumLen a) 0 a.length (by omega) (by omega) HB.out hroom
            have hcat : (⟨(ahsB (a ++ b)).toArray⟩ : ByteArray) = S ++ T := by rw [cat_of, HSE.out, HTE.out, ahsB_append]
            have hle : S.size + T.size ≤ 1020 := by omega
            have HN := Lib.hid hn
            have HCAT := Lib.hid hcat
            clear hn hcat happ hSz hTz
            go_wp2_with fail
            refine (ahsWrite_ok (a ++ b) _ _ hr6 HS0.out HN.out).mono ?_
            rintro e w7 ⟨rfl, hb7⟩
            rw [HCAT.out]
            go_wp2_with fail
            go_ret
            exact ⟨by first | rfl | simp, below_step hb6 hb7⟩
          · obtain ⟨q, hq⟩ := right_full b 0 (sumLen a) 0 a.length (by omega) (by omega) HB.out (by omega)
            have hn : rightGo (a ++ b) 0 0 = some (4, q) := by rw [happ]; exact hq
            have hgt : 1020 < S.size + T.size := by omega
            have hSb : S.size ≤ 1020 := by omega
            have hTb : T.size ≤ 1020 := by omega
            have HN := Lib.hid hn
            clear hn hq happ hSz hTz
            go_wp2_with fail
            refine (ahsWrite_bad (a ++ b) _ _ hr6 HS0.out _ HN.out).mono ?_
            rintro e w7 ⟨er7, rfl, he7, hb7⟩
            obtain ⟨g7, _, rfl, hB7⟩ := errAt_some he7
            have hL7 := hL6.on hb7
            have hb7' := below_step hb6 hb7
            clear he7
            go_wp2_with fail
            refine (tell_at g7 _ _ _ hL7 hB7).mono ?_
            rintro e w8 ⟨rfl, hb8⟩
            go_wp2_with fail
            go_ret
            exact ⟨rfl, below_step hb7' hb8⟩
        · have HA := Lib.hid hra
          have HB := Lib.hid hrb
          clear hra hrb
          go_wp2_with fail
          refine (ahsWrite_ok a _ _ hva3 hda HA.out).mono ?_
          rintro e w4 ⟨rfl, hb4'⟩
          have hb4 := below_step hb3 hb4'
          have hva4 := hva3.on hb4'
          have hvb4 := hvb3.on hb4'
          clear hva3 hvb3 hb4'
          obtain ⟨S, hSe⟩ : ∃ S : ByteArray, S = ⟨(ahsB a).toArray⟩ := ⟨_, rfl⟩
          rw [← hSe]
          have HSE := Lib.hid hSe
          clear hSe
          go_wp2_with fail
          refine (ahsWrite_bad b _ _ hvb4 hdb _ HB.out).mono ?_
          rintro e w5 ⟨er5, rfl, he5, hb5'⟩
          obtain ⟨g5, _, rfl, _⟩ := errAt_some he5
          clear he5
          have hb5 := below_step hb4 hb5'
          have hva5 := hva4.on hb5'
          have hvb5 := hvb4.on hb5'
          clear hva4 hvb4 hb5'
          have hs4 : w5.heap.size < (w5.alloc (.cells #[.slice A1 a.length cap1, .slice A2 b.length cap2] 22)).heap.size := by simp
          have hba5 : Below w5.heap.size w5 (w5.alloc (.cells #[.slice A1 a.length cap1, .slice A2 b.length cap2] 22)) := (Below.refl _ _).alloc (Nat.le_refl _) _
          have HC0 := Lib.hid ((Blk.new w5 22 #[.slice A1 a.length cap1, .slice A2 b.length cap2]).cell 0)
          have HC1 := Lib.hid ((Blk.new w5 22 #[.slice A1 a.length cap1, .slice A2 b.length cap2]).cell 1)
          have HX := Lib.hid (hva5.on hba5)
          have HY := Lib.hid (hvb5.on hba5)
          have HS0 := Lib.hid hs0
          clear hva5 hvb5 hs0
          go_wp2_with fail
          refine (concat_any _ _ a b w5.heap.size _ HX.out HY.out hna hnb HC0.out HC1.out hs4).mono ?_
          rintro e w6 ⟨v6, rfl, hv6, hb6'⟩
          have hb6 := below_step (below_step hb5 hba5) hb6'
          have hL6 := hL.on hb6
          have hr6 := SRd.of_m hv6
          clear hv6 hb6' HX HY HC0 HC1 hba5 hs4
          obtain ⟨r, hn⟩ : ∃ r, rightGo (a ++ b) 0 0 = some r := by
            rcases h : rightGo (a ++ b) 0 0 with _ | r
            · obtain ⟨h1, h2⟩ := right_append_bad a b h
              exact absurd (HB.out.symm.trans h2) (by simp)
            · exact ⟨r, rfl⟩
          have HN := Lib.hid hn
          clear hn
          go_wp2_with fail
          refine (ahsWrite_bad (a ++ b) _ _ hr6 HS0.out _ HN.out).mono ?_
          rintro e w7 ⟨er7, rfl, he7, hb7⟩
          obtain ⟨g7, _, rfl, hB7⟩ := errAt_some he7
          clear he7
          go_wp2_with fail
          go_ret
          exact ⟨rfl, below_step hb6 hb7⟩
      · rcases hrb : rightGo b 0 0 with _ | rb
        · have HA := Lib.hid hra
          have HB := Lib.hid hrb
          clear hra hrb
          go_wp2_with fail
          refine (ahsWrite_bad a _ _ hva3 hda _ HA.out).mono ?_
          rintro e w4 ⟨er4, rfl, he4, hb4'⟩
          obtain ⟨g4, _, rfl, _⟩ := errAt_some he4
          clear he4
          have hb4 := below_step hb3 hb4'
          have hva4 := hva3.on hb4'
          have hvb4 := hvb3.on hb4'
          clear hva3 hvb3 hb4'
          go_wp2_with fail
          refine (ahsWrite_ok b _ _ hvb4 hdb HB.out).mono ?_
          rintro e w5 ⟨rfl, hb5'⟩
          have hb5 := below_step hb4 hb5'
          have hva5 := hva4.on hb5'
          have hvb5 := hvb4.on hb5'
          clear hva4 hvb4 hb5'
          obtain ⟨T, hTe⟩ : ∃ T : ByteArray, T = ⟨(ahsB b).toArray⟩ := ⟨_, rfl⟩
          rw [← hTe]
          have HTE := Lib.hid hTe
          clear hTe
          have hs4 : w5.heap.size < (w5.alloc (.cells #[.slice A1 a.length cap1, .slice A2 b.length cap2] 22)).heap.size := by simp
          have hba5 : Below w5.heap.size w5 (w5.alloc (.cells #[.slice A1 a.length cap1, .slice A2 b.length cap2] 22)) := (Below.refl _ _).alloc (Nat.le_refl _) _
          have HC0 := Lib.hid ((Blk.new w5 22 #[.slice A1 a.length cap1, .slice A2 b.length cap2]).cell 0)
          have HC1 := Lib.hid ((Blk.new w5 22 #[.slice A1 a.length cap1, .slice A2 b.length cap2]).cell 1)
          have HX := Lib.hid (hva5.on hba5)
          have HY := Lib.hid (hvb5.on hba5)
          have HS0 := Lib.hid hs0
          clear hva5 hvb5 hs0
          go_wp2_with fail
          refine (concat_any _ _ a b w5.heap.size _ HX.out HY.out hna hnb HC0.out HC1.out hs4).mono ?_
          rintro e w6 ⟨v6, rfl, hv6, hb6'⟩
          have hb6 := below_step (below_step hb5 hba5) hb6'
          have hL6 := hL.on hb6
          have hr6 := SRd.of_m hv6
          clear hv6 hb6' HX HY HC0 HC1 hba5 hs4
          obtain ⟨r, hn⟩ : ∃ r, rightGo (a ++ b) 0 0 = some r := by
            rcases h : rightGo (a ++ b) 0 0 with _ | r
            · obtain ⟨h1, h2⟩ := right_append_bad a b h
              exact absurd (HA.out.symm.trans h1) (by simp)
            · exact ⟨r, rfl⟩
          have HN := Lib.hid hn
          clear hn
          go_wp2_with fail
          refine (ahsWrite_bad (a ++ b) _ _ hr6 HS0.out _ HN.out).mono ?_
          rintro e w7 ⟨er7, rfl, he7, hb7⟩
          obtain ⟨g7, _, rfl, hB7⟩ := errAt_some he7
          clear he7
          go_wp2_with fail
          go_ret
          exact ⟨rfl, below_step hb6 hb7⟩
        · have HA := Lib.hid hra
          have HB := Lib.hid hrb
          clear hra hrb
          go_wp2_with fail
          refine (ahsWrite_bad a _ _ hva3 hda _ HA.out).mono ?_
          rintro e w4 ⟨er4, rfl, he4, hb4'⟩
          obtain ⟨g4, _, rfl, _⟩ := errAt_some he4
          clear he4
          have hb4 := below_step hb3 hb4'
          have hva4 := hva3.on hb4'
          have hvb4 := hvb3.on hb4'
          clear hva3 hvb3 hb4'
          go_wp2_with fail
          refine (ahsWrite_bad b _ _ hvb4 hdb _ HB.out).mono ?_
          rintro e w5 ⟨er5, rfl, he5, hb5'⟩
          obtain ⟨g5, _, rfl, _⟩ := errAt_some he5
          clear he5
          have hb5 := below_step hb4 hb5'
          have hva5 := hva4.on hb5'
          have hvb5 := hvb4.on hb5'
          clear hva4 hvb4 hb5'
          have hs4 : w5.heap.size < (w5.alloc (.cells #[.slice A1 a.length cap1, .slice A2 b.length cap2] 22)).heap.size := by simp
          have hba5 : Below w5.heap.size w5 (w5.alloc (.cells #[.slice A1 a.length cap1, .slice A2 b.length cap2] 22)) := (Below.refl _ _).alloc (Nat.le_refl _) _
          have HC0 := Lib.hid ((Blk.new w5 22 #[.slice A1 a.length cap1, .slice A2 b.length cap2]).cell 0)
          have HC1 := Lib.hid ((Blk.new w5 22 #[.slice A1 a.length cap1, .slice A2 b.length cap2]).cell 1)
          have HX := Lib.hid (hva5.on hba5)
          have HY := Lib.hid (hvb5.on hba5)
          have HS0 := Lib.hid hs0
          clear hva5 hvb5 hs0
          go_wp2_with fail
          refine (concat_any _ _ a b w5.heap.size _ HX.out HY.out hna hnb HC0.out HC1.out hs4).mono ?_
          rintro e w6 ⟨v6, rfl, hv6, hb6'⟩
          have hb6 := below_step (below_step hb5 hba5) hb6'
          have hL6 := hL.on hb6
          have hr6 := SRd.of_m hv6
          clear hv6 hb6' HX HY HC0 HC1 hba5 hs4
          obtain ⟨r, hn⟩ : ∃ r, rightGo (a ++ b) 0 0 = some r := by
            rcases h : rightGo (a ++ b) 0 0 with _ | r
            · obtain ⟨h1, h2⟩ := right_append_bad a b h
              exact absurd (HA.out.symm.trans h1) (by simp)
            · exact ⟨r, rfl⟩
          have HN := Lib.hid hn
          clear hn
          go_wp2_with fail
          refine (ahsWrite_bad (a ++ b) _ _ hr6 HS0.out _ HN.out).mono ?_
          rintro e w7 ⟨er7, rfl, he7, hb7⟩
          obtain ⟨g7, _, rfl, hB7⟩ := errAt_some he7
          clear he7
          go_wp2_with fail
          go_ret
          exact ⟨rfl, below_step hb6 hb7⟩
end Go.Proofs.YtlbojhmhcaecjaaDoor
