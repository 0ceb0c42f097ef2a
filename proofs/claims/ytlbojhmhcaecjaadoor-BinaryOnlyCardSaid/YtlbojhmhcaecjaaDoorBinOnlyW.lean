/- The walk of the law BinaryOnly. -/
import Derived.Test.YtlbojhmhcaecjaaDoorBinCasesW
import Derived.Test.YtlbojhmhcaecjaaDoorBinOnlyP
namespace Go.Proofs.YtlbojhmhcaecjaaDoor
open Go.ChangeShapes Go.WideShapes Go.ChangeAt Go.RowKit
set_option linter.unusedVariables false
theorem equalFold_len : ∀ (s t : List UInt8), Lib.equalFold s t = true → s.length = t.length
  | [], [], _ => rfl
  | x :: s, y :: t, h => by
    rw [Lib.equalFold, Bool.and_eq_true] at h
    rw [List.length_cons, List.length_cons, equalFold_len s t h.2]
  | [], _ :: _, h => by simp [Lib.equalFold] at h
  | _ :: _, [], h => by simp [Lib.equalFold] at h
theorem readB_len (s t : List UInt8) (h : readB s = .inr t) : t.length ≤ s.length := by
  obtain ⟨h2, _, h | ⟨_, h⟩⟩ := readB_inv s t h
  · have := equalFold_len _ _ h
    rw [hexL_len] at this
    omega
  · have := congrArg List.length h
    rw [List.length_drop, b64B_len _ _ (Nat.le_refl _)] at this
    omega
theorem fold_at (s X : ByteArray) (f : Bool) (hs : s.size ≤ 1000) (hA : ∀ (j : Nat) b, s.data.toList[j]? = some b → b.toNat < 128) (hB : ∀ (j : Nat) b, X.data.toList[j]? = some b → b.toNat < 128)
    (hf : Lib.equalFold s.data.toList X.data.toList = f) (w : World) : Calls Tryd.prog 41 #[.string s, .string X] w fun e w' => e = .returned (.bool f) ∧ w = w' := by
  refine (Tryd.strings_EqualFold s X w (by omega) hA hB).mono ?_
  rintro e w' ⟨rfl, rfl⟩
  rw [hf]
  exact ⟨rfl, rfl⟩
theorem hex_at2 (s X : ByteArray) (h : X = ⟨(hexL s.data.toList).toArray⟩) (w : World) (hs : s.size ≤ 1000) : Calls Tryd.prog 28 #[.string s] w fun e w' => e = .returned (.string X) ∧ Below w.heap.size w w' := by
  refine (hex_any s w (by omega)).mono ?_
  rintro e w' ⟨rfl, hb⟩
  rw [← h]
  exact ⟨rfl, hb⟩
theorem b64_at2 (s X : ByteArray) (h : X = ⟨(b64L s.data.toList).toArray⟩) (w : World) (hs : s.size ≤ 1000) : Calls Tryd.prog 29 #[.string s] w fun e w' => e = .returned (.string X) ∧ Below w.heap.size w w' := by
  refine (base64_any s w (by omega)).mono ?_
  rintro e w' ⟨rfl, hb⟩
  rw [← h]
  exact ⟨rfl, hb⟩
theorem readB_none (s : List UInt8) (k : Nat) (h : readB s = .inl (k, none)) : k = 3 ∨ k = 7 := by
  unfold readB at h
  split at h
  · injection h with h; injection h with h; exact .inl h.symm
  · split at h
    · unfold unhexR at h
      split at h
      · injection h with h; injection h with h; exact .inr h.symm
      · unfold binAt at h
        split at h
        · injection h with h; injection h with _ h; cases h
        · cases h
    · split at h
      · unfold unbaseR at h
        split at h
        · injection h with h; injection h with h; exact .inr h.symm
        · unfold binAt at h
          split at h
          · injection h with h; injection h with _ h; cases h
          · cases h
      · injection h with h; injection h with h; exact .inl h.symm
set_option maxRecDepth 20000 in
set_option maxHeartbeats 4000000 in
theorem onlyBin (s : ByteArray) (w : World) (hs : s.size ≤ 140737488351232) (hL : LaidE w) (hS : w.ShapedOpen Tryd.prog) :
    Calls Tryd.prog 11 #[.string s] w fun e w' => e = .returned (.bool true) ∧ Below w.heap.size w w' := by
  clear hS
  go_enter Tryd.func11, Tryd.ntmps11
  go_wp2_with fail
  refine (valued_fact _ hL).mono ?_
  rintro e w1 ⟨rfl, hb1⟩
  by_cases h3 : 300 < s.size
  · go_wp2_with fail
    go_ret
    exact ⟨rfl, hb1⟩
  go_wp2_with fail
  refine (read_any s _ (by omega)).mono ?_
  rintro e w2 ⟨r, er, rfl, ho, hb2⟩
  have hbw := below_step hb1 hb2
  rcases hr : readB s.data.toList with ⟨k, o⟩ | t
  · rw [hr] at ho
    obtain ⟨rfl, he⟩ := ho
    obtain ⟨ty, x, rfl⟩ : ∃ ty x, er = .iface ty x := by
      rcases o with _ | q
      · have he : er = errv k := he
        rw [he]
        have := readB_none _ _ hr
        exact ⟨_, _, by rw [errv, if_neg (by omega)]⟩
      · obtain ⟨g, _, hv, _⟩ := he
        exact ⟨_, _, hv⟩
    clear hr he
    go_wp2_with fail
    go_ret
    exact ⟨rfl, hbw⟩
  · rw [hr] at ho
    obtain ⟨rfl, rfl⟩ := ho
    obtain ⟨h2, hasc, hor⟩ := readB_inv _ _ hr
    rw [len_of] at h2
    have hA : ∀ (j : Nat) b, s.data.toList[j]? = some b → b.toNat < 128 := fun j b hb => hasc b (List.mem_of_getElem? hb)
    have hB : ∀ (j : Nat) b, (⟨(hexL t).toArray⟩ : ByteArray).data.toList[j]? = some b → b.toNat < 128 := fun j b hb => hexL_ascii _ b (List.mem_of_getElem? hb)
    have htl : t.length ≤ 1000 := by
      have := readB_len _ _ hr
      rw [len_of] at this
      omega
    obtain ⟨T, hT⟩ : ∃ T : ByteArray, T = ⟨t.toArray⟩ := ⟨_, rfl⟩
    obtain ⟨X, hX⟩ : ∃ X : ByteArray, X = ⟨(hexL t).toArray⟩ := ⟨_, rfl⟩
    have hTd : T.data.toList = t := by rw [hT]
    have hTz : T.size ≤ 1000 := by rw [hT, size_mkl]; exact htl
    have hXz : X.size ≤ 3000 := by rw [hX, size_mkl, hexL_len]; omega
    obtain ⟨Y, hY⟩ : ∃ Y : ByteArray, Y = ⟨(b64L t).toArray⟩ := ⟨_, rfl⟩
    have hYz : Y.size ≤ 3000 := by rw [hY, size_mkl, b64L_len]; omega
    have hY2 : 2 ≤ Y.size := by rw [hY, size_mkl, b64L_len]; omega
    have htail : Y.extract 2 Y.size = ⟨(b64B t).toArray⟩ := ext_tail 48 98 _ Y (by rw [hY]; rfl)
    have hs1 : s.data.toList.getD 1 0 = s[1] := getD_at s 1 (by omega)
    have hstail : s.extract 2 s.size = ⟨(s.data.toList.drop 2).toArray⟩ := by
      rw [ext_of, List.take_of_length_le (by rw [List.length_drop, len_of]; omega)]
    rw [← hX] at hB
    rw [← hT]
    rw [← hTd] at hX hY
    obtain ⟨f, hf⟩ : ∃ f, Lib.equalFold s.data.toList X.data.toList = f := ⟨_, rfl⟩
    have i1 : (1 : Int) < s.size := by omega
    have i2 : (2 : Int) ≤ s.size := by omega
    have i3 : (2 : Int) ≤ Y.size := by omega
    have HA := Lib.hid hA
    have HB := Lib.hid hB
    have HX := Lib.hid hX
    have HY := Lib.hid hY
    have HF := Lib.hid hf
    cases f
    · have hor2 : (s.data.toList.getD 1 0 = 98 ∨ s.data.toList.getD 1 0 = 66) ∧ s.data.toList.drop 2 = b64B t := by
        rcases hor with h | h
        · rw [hX, hTd] at hf
          exact absurd (hf.symm.trans h) (by simp)
        · exact h
      rw [hs1] at hor2
      have fe : ((s.extract 2 s.size).toList == (Y.extract 2 Y.size).toList) = true := by rw [hstail, htail, hor2.2]; simp
      rcases hor2.1 with hc | hc
      · have k1 : ((s[1].toNat : Int) == 98) = true := u8_eq_t 98 98 rfl (by decide) hc
        clear hr hasc hor hor2 hA hB hT hX hTd htl hY htail hs1 hstail hf hc
        go_wp2_with fail
        refine wp_region_quietB (by kernel_rfl) (by kernel_rfl) ?_
        repeat (first | go_big_quiet_skip | (go_big_quiet_want; go_big_quiet_op; first | go_big_quiet_on | (apply Exists.intro; refine ⟨fun _ => ?_, ?_⟩; ((first | (go_at_call 28; with_reducible exact calls_bw (hex_at2 T X HX.out _ (by omega))) | (go_at_call 41; with_reducible exact calls_bw_same (fold_at s X _ (by omega) HA.out HB.out HF.out _)) | (go_at_call 29; with_reducible exact calls_bw (b64_at2 T Y HY.out _ (by omega))))); go_big_quiet_on)))
        refine wpQuiet_nil ?_
        rintro _ ⟨iq, rfl⟩
        go_wp2_with fail
        go_ret
        exact ⟨by simp, below_step hbw iq.h⟩
      · have k1 : ((s[1].toNat : Int) == 98) = false := u8_eq_f 98 98 rfl (by decide) (by rw [hc]; decide)
        have k2 : ((s[1].toNat : Int) == 66) = true := u8_eq_t 66 66 rfl (by decide) hc
        clear hr hasc hor hor2 hA hB hT hX hTd htl hY htail hs1 hstail hf hc
        go_wp2_with fail
        refine wp_region_quietB (by kernel_rfl) (by kernel_rfl) ?_
        repeat (first | go_big_quiet_skip | (go_big_quiet_want; go_big_quiet_op; first | go_big_quiet_on | (apply Exists.intro; refine ⟨fun _ => ?_, ?_⟩; ((first | (go_at_call 28; with_reducible exact calls_bw (hex_at2 T X HX.out _ (by omega))) | (go_at_call 41; with_reducible exact calls_bw_same (fold_at s X _ (by omega) HA.out HB.out HF.out _)) | (go_at_call 29; with_reducible exact calls_bw (b64_at2 T Y HY.out _ (by omega))))); go_big_quiet_on)))
        refine wpQuiet_nil ?_
        rintro _ ⟨iq, rfl⟩
        go_wp2_with fail
        go_ret
        exact ⟨by simp, below_step hbw iq.h⟩
    · clear hr hasc hor hA hB hT hX hTd htl hY htail hs1 hstail hf
      go_wp2_with fail
      refine wp_region_quietB (by kernel_rfl) (by kernel_rfl) ?_
      repeat (first | go_big_quiet_skip | (go_big_quiet_want; go_big_quiet_op; first | go_big_quiet_on | (apply Exists.intro; refine ⟨fun _ => ?_, ?_⟩; ((first | (go_at_call 28; with_reducible exact calls_bw (hex_at2 T X HX.out _ (by omega))) | (go_at_call 41; with_reducible exact calls_bw_same (fold_at s X _ (by omega) HA.out HB.out HF.out _)))); go_big_quiet_on)))
      refine wpQuiet_nil ?_
      rintro _ ⟨iq, rfl⟩
      go_wp2_with fail
      go_ret
      exact ⟨by simp, below_step hbw iq.h⟩
end Go.Proofs.YtlbojhmhcaecjaaDoor
