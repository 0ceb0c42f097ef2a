/- The walk of the law ChapLong. -/
import Derived.Test.YtlbojhmhcaecjaaDoorChapFact
namespace Go.Proofs.YtlbojhmhcaecjaaDoor
open Go.ChangeShapes Go.WideShapes Go.ChangeAt Go.RowKit
set_option linter.unusedVariables false
theorem resp_lim2 (id : Int) (S D S' D' : ByteArray) (hS : S' = S) (hD : D' = D) (w : World) (h0 : 0 ≤ id) (h1 : id ≤ 255) (hs : S.size ≤ 1000000) (hs2 : D.size ≤ 1000000) (h : 100 < S.size ∨ 100 < D.size) :
    Calls Tryd.prog 22 #[.int .i64 id, .string S', .string D'] w fun e w' => e = .returned (.tuple #[.string ⟨#[]⟩, .iface 32 (.int .i64 4)]) ∧ w = w' := by
  subst hS hD
  exact resp_limit id S' D' w h0 h1 hs hs2 (h.elim .inl fun h => .inr (.inr h))
theorem resp_ok2 (id : Int) (S D S' D' R : ByteArray) (hS : S' = S) (hD : D' = D) (hR : respL id S D = R.data.toList) (w : World) (h0 : 0 ≤ id) (h1 : id ≤ 255) (hs : S.size ≤ 100) (hs2 : D.size ≤ 100) (h : 0 < D.size) :
    Calls Tryd.prog 22 #[.int .i64 id, .string S', .string D'] w fun e w' => e = .returned (.tuple #[.string R, .nilIface]) ∧ Below w.heap.size w w' := by
  subst hS hD
  refine (resp_ok id S' D' w h0 h1 hs hs2 h).mono ?_
  rintro e w' ⟨rfl, hb⟩
  rw [hR]
  exact ⟨rfl, hb⟩
theorem cut_at (A : ByteArray) (k : Nat) : (A.extract 0 k).data.toList ++ (A.extract k A.size).data.toList = A.data.toList := by
  rw [ext_of, ext_of]
  show List.take (k - 0) (List.drop 0 A.data.toList) ++ List.take (A.size - k) (List.drop k A.data.toList) = _
  rw [List.drop_zero, Nat.sub_zero, List.take_of_length_le (l := A.data.toList.drop k) (by rw [List.length_drop, len_of]; exact Nat.le_refl _), List.take_append_drop]
set_option maxRecDepth 20000 in
set_option maxHeartbeats 4000000 in
theorem longChap (id : Int) (s c : ByteArray) (z : Int) (w : World) (hz0 : -9223372036854775808 ≤ id ∧ id ≤ 9223372036854775807) (hs : s.size ≤ 140737488351232) (hc : c.size ≤ 140737488351232) (hz : -9223372036854775808 ≤ z ∧ z ≤ 9223372036854775807) (hL : LaidE w) (hS : w.ShapedOpen Tryd.prog) :
    Calls Tryd.prog 5 #[.int .i64 id, .string s, .string c, .int .i64 z] w fun e w' => e = .returned (.bool true) ∧ Below w.heap.size w w' := by
  clear hS
  go_enter Tryd.func5, Tryd.ntmps5
  go_wp2_with fail
  refine (proved_fact _ hL).mono ?_
  rintro e w1 ⟨rfl, hb1⟩
  by_cases h3 : 300 < s.size + c.size
  · go_wp2_with fail
    go_ret
    exact ⟨rfl, hb1⟩
  have hE : c.toList.isEmpty = decide (c.size = 0) := by
    rw [toList_of, ← len_of c]
    cases c.data.toList <;> simp
  by_cases hi : id < 0 ∨ 255 < id
  · go_wp2_with fail
    refine (resp_range id s c _ hi).mono ?_
    rintro e w2 ⟨rfl, rfl⟩
    rw [show errv 2 = .iface 32 (.int .i64 2) from rfl]
    have HE := Lib.hid hE
    clear hE
    go_wp2_with fail
    all_goals go_ret
    all_goals refine ⟨?_, hb1⟩
    all_goals first | rfl | (rw [HE.out]; refine congrArg (fun b => Ending.returned (.bool b)) ?_; simp only [Bool.or_eq_true, decide_eq_true_eq]; omega)
  by_cases hm : 100 < s.size ∨ c.size = 0 ∨ 100 < c.size
  · go_wp2_with fail
    refine (resp_limit id s c _ (by omega) (by omega) (by omega) (by omega) hm).mono ?_
    rintro e w2 ⟨rfl, rfl⟩
    rw [show errv 4 = .iface 32 (.int .i64 4) from rfl]
    have HE := Lib.hid hE
    clear hE
    go_wp2_with fail
    all_goals go_ret
    all_goals refine ⟨?_, hb1⟩
    all_goals first | rfl | (rw [HE.out]; refine congrArg (fun b => Ending.returned (.bool b)) ?_; simp only [Bool.or_eq_true, decide_eq_true_eq]; omega)
  have hm1 : s.size ≤ 100 := by omega
  have hm2 : c.size ≤ 100 := by omega
  have hm3 : 0 < c.size := by
    rcases Nat.eq_zero_or_pos c.size with h | h
    · exact absurd (.inr (.inl h)) hm
    · exact h
  clear hm
  have hRl := respL_len id s c
  obtain ⟨R, hR⟩ : ∃ R : ByteArray, (⟨(respL id s c).toArray⟩ : ByteArray) = R := ⟨_, rfl⟩
  have hRz : R.size = 16 := by rw [← hR, size_mkl, hRl]
  go_wp2_with fail
  refine (resp_ok id s c _ (by omega) (by omega) (by omega) (by omega) (by omega)).mono ?_
  rintro e w2 ⟨rfl, hb2⟩
  rw [hR]
  have hbw2 := below_step hb1 hb2
  have hpk := pick_rng z (s.size + c.size) (by omega)
  obtain ⟨m, hm2⟩ : ∃ m, pickI z ((s.size : Int) + (c.size : Int)) = m := ⟨_, rfl⟩
  rw [hm2] at hpk
  obtain ⟨k, rfl⟩ := Int.eq_ofNat_of_zero_le hpk.1
  have HM := Lib.hid hm2
  clear hm2
  have hEl := Lib.hid hE
  have hRd : R.data.toList = respL id s c := by rw [← hR]
  have HRd := Lib.hid hRd
  obtain ⟨A, hA⟩ : ∃ A : ByteArray, s ++ c = A := ⟨_, rfl⟩
  have hAz : A.size = s.size + c.size := by rw [← hA]; exact ByteArray.size_append ..
  obtain ⟨S, hS⟩ : ∃ S : ByteArray, A.extract 0 k = S := ⟨_, rfl⟩
  obtain ⟨D, hD⟩ : ∃ D : ByteArray, A.extract k (s.size + c.size) = D := ⟨_, rfl⟩
  have hSz : S.size = k := by rw [← hS, ByteArray.size_extract]; omega
  have hDz : D.size = s.size + c.size - k := by rw [← hD, ByteArray.size_extract]; omega
  have hcat : respL id S D = respL id s c := by
    have e : S.data.toList ++ D.data.toList = s.data.toList ++ c.data.toList := by
      rw [← hS, ← hD, ← hAz, cut_at, ← hA, cat_of]
    rw [respL, respL, List.append_assoc, List.append_assoc, e]
  have hRS : respL id S D = R.data.toList := by rw [hcat, hRd]
  have HRS := Lib.hid hRS
  have HA := Lib.hid hA
  have HS := Lib.hid hS
  have HD := Lib.hid hD
  have hkA : (k : Int) ≤ (A.size : Int) := by omega
  clear hcat hRS hA hS hD hE hRd hR hRl hm1 hm2 hm3
  go_wp2_with fail
  refine (pick_any _ _ _ (by omega) (by omega)).mono ?_
  rintro e w' ⟨rfl, rfl⟩
  rw [HM.out, HA.out]
  have f1 : ((R.size : Int) == 16) = true := by rw [hRz]; rfl
  by_cases hq : 100 < S.size ∨ 100 < D.size
  · go_wp2_with fail
    refine wp_region_quietB (by kernel_rfl) (by kernel_rfl) ?_
    repeat (first | go_big_quiet_skip | (go_big_quiet_want; go_big_quiet_op; first | go_big_quiet_on | (apply Exists.intro; refine ⟨fun _ => ?_, ?_⟩; ((go_at_call 22; with_reducible exact calls_bw_same (resp_lim2 id S D _ _ HS.out HD.out _ (by omega) (by omega) (by omega) (by omega) hq))); go_big_quiet_on)))
    refine wpQuiet_nil ?_
    rintro _ ⟨iq, rfl⟩
    go_wp2_with fail
    go_ret
    exact ⟨rfl, below_step hbw2 iq.h⟩
  · go_wp2_with fail
    refine wp_region_quietB (by kernel_rfl) (by kernel_rfl) ?_
    repeat (first | go_big_quiet_skip | (go_big_quiet_want; go_big_quiet_op; first | go_big_quiet_on | (apply Exists.intro; refine ⟨fun _ => ?_, ?_⟩; ((go_at_call 22; with_reducible exact calls_bw (resp_ok2 id S D _ _ R HS.out HD.out HRS.out _ (by omega) (by omega) (by omega) (by omega) (by omega)))); go_big_quiet_on)))
    refine wpQuiet_nil ?_
    rintro _ ⟨iq, rfl⟩
    go_wp2_with fail
    go_ret
    exact ⟨by simp, below_step hbw2 iq.h⟩
end Go.Proofs.YtlbojhmhcaecjaaDoor
