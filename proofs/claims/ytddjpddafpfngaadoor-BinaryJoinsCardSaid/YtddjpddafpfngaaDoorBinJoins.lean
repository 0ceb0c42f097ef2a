/- The walk of the law BinaryJoins. -/
import Derived.Test.YtddjpddafpfngaaDoorBinRead
namespace Go.Proofs.YtddjpddafpfngaaDoor
open Go.ChangeShapes Go.WideShapes Go.ChangeAt Go.RowKit
set_option linter.unusedVariables false
theorem hex_to (s R : ByteArray) (h : R = ⟨(hexL s.data.toList).toArray⟩) (w : World) (hs : s.size ≤ 35184372088832) : Calls Tryd.prog 20 #[.string s] w fun e w' => e = .returned (.string R) ∧ Below w.heap.size w w' := by
  rw [h]; exact hex_any s w hs
theorem b64_to (s R : ByteArray) (h : R = ⟨(b64L s.data.toList).toArray⟩) (w : World) (hs : s.size ≤ 35184372088832) : Calls Tryd.prog 21 #[.string s] w fun e w' => e = .returned (.string R) ∧ Below w.heap.size w w' := by
  rw [h]; exact base64_any s w hs
theorem some_bytes (l : List UInt8) (n : Nat) (h : l.length ≤ n) : ∃ R : ByteArray, R = ⟨l.toArray⟩ ∧ R.size ≤ n := ⟨_, rfl, h⟩
set_option maxRecDepth 20000 in
set_option maxHeartbeats 2000000 in
theorem joinBin (a b : ByteArray) (w : World) (ha : a.size ≤ 140737488351232) (hb : b.size ≤ 140737488351232) (hL : LaidE w) (hS : w.ShapedOpen Tryd.prog) :
    Calls Tryd.prog 5 #[.string a, .string b] w fun e w' => e = .returned (.bool true) ∧ Below w.heap.size w w' := by
  clear hS
  go_enter Tryd.func5, Tryd.ntmps5
  go_wp2_with fail
  refine (valued_fact _ hL).mono ?_
  rintro e w1 ⟨rfl, hb1⟩
  by_cases h3 : 300 < a.size + b.size
  · go_wp2_with fail
    go_ret
    exact ⟨rfl, hb1⟩
  have hl := len_of b
  obtain ⟨X, hX⟩ : ∃ X : ByteArray, X = ⟨(hexL b.data.toList).toArray⟩ := ⟨_, rfl⟩
  obtain ⟨Y, hY⟩ : ∃ Y : ByteArray, Y = ⟨(b64L b.data.toList).toArray⟩ := ⟨_, rfl⟩
  have hXz : X.size = 2 + 2 * b.size := by rw [hX, size_mkl, hexL_len, hl]
  have hYz : Y.size = 2 + (b.size + 2) / 3 * 4 := by rw [hY, size_mkl, b64L_len, hl]
  have hXb : X.size ≤ 1000 := by omega
  have hYb : Y.size ≤ 1000 := by omega
  have hXc : 2 ≤ X.size := by omega
  have hYc : 2 ≤ Y.size := by omega
  have hla := len_of a
  have hAB : (hexL (a ++ b).data.toList).length ≤ 1000 := by rw [hexL_len, len_of, ByteArray.size_append]; omega
  have hA : (hexL a.data.toList).length ≤ 1000 := by rw [hexL_len]; omega
  have hcz : (a.extract 0 (a.size / 3 * 3)).size = a.size / 3 * 3 := by rw [ByteArray.size_extract]; omega
  have hCB : (b64L (a.extract 0 (a.size / 3 * 3) ++ b).data.toList).length ≤ 1000 := by rw [b64L_len, len_of, ByteArray.size_append]; omega
  have hC : (b64L (a.extract 0 (a.size / 3 * 3)).data.toList).length ≤ 1000 := by rw [b64L_len, len_of]; omega
  obtain ⟨AB, hAB, zAB⟩ := some_bytes _ _ hAB
  obtain ⟨A, hA, zA⟩ := some_bytes _ _ hA
  obtain ⟨CB, hCB, zCB⟩ := some_bytes _ _ hCB
  obtain ⟨C, hC, zC⟩ := some_bytes _ _ hC
  have g1 : AB = A ++ X.extract 2 X.size := by
    have e : (a ++ b).data.toList = a.data.toList ++ b.data.toList := by rw [cat_of]
    rw [ext_tail 48 120 (hexB b.data.toList) X (by rw [hX, hexL_cons]), cat_of, hAB, hA, e, hexL, hexL, hexB_append, ← List.append_assoc]
  have g2 : CB = C ++ Y.extract 2 Y.size := by
    have e : (a.extract 0 (a.size / 3 * 3) ++ b).data.toList = (a.extract 0 (a.size / 3 * 3)).data.toList ++ b.data.toList := by rw [cat_of]
    rw [ext_tail 48 98 (b64B b.data.toList) Y (by rw [hY, b64L_cons]), cat_of, hCB, hC, e, b64L, b64L, b64B_append _ _ _ (Nat.le_refl _) (by rw [len_of, hcz]; omega), ← List.append_assoc]
  have f1 : (AB.toList == (A ++ X.extract 2 X.size).toList) = true := by rw [← g1]; simp
  have f2 : (CB.toList == (C ++ Y.extract 2 Y.size).toList) = true := by rw [← g2]; simp
  have G1 := Lib.hid g1
  have G2 := Lib.hid g2
  have HAB := Lib.hid hAB
  have HA := Lib.hid hA
  have HCB := Lib.hid hCB
  have HC := Lib.hid hC
  have hcz2 : (a.extract 0 (a.size / 3 * 3)).size ≤ 300 := by omega
  clear g1 g2 hAB hA hCB hC hla hcz
  have HX := Lib.hid hX
  have HY := Lib.hid hY
  clear hX hY hXz hYz hl
  go_wp2_with fail
  refine (hex_any b _ (by omega)).mono ?_
  rintro e w2 ⟨rfl, hb2⟩
  rw [← HX.out]
  have hbw2 := below_step hb1 hb2
  go_wp2_with fail
  refine (base64_any b _ (by omega)).mono ?_
  rintro e w3 ⟨rfl, hb3⟩
  rw [← HY.out]
  have hbw3 := below_step hbw2 hb3
  go_wp2_with fail
  refine wp_region_quietB (by kernel_rfl) (by kernel_rfl) ?_
  repeat (first | go_big_quiet_skip | (go_big_quiet_want; go_big_quiet_op; first | go_big_quiet_on | (apply Exists.intro; refine ⟨fun _ => ?_, ?_⟩; ((first | (go_at_call 20; with_reducible exact calls_bw (hex_to (a ++ b) AB HAB.out _ (by rw [ByteArray.size_append]; omega))) | (go_at_call 20; with_reducible exact calls_bw (hex_to a A HA.out _ (by omega))) | (go_at_call 21; with_reducible exact calls_bw (b64_to _ CB HCB.out _ (by rw [ByteArray.size_append]; omega))) | (go_at_call 21; with_reducible exact calls_bw (b64_to _ C HC.out _ (by omega))))); go_big_quiet_on)))
  refine wpQuiet_nil ?_
  rintro _ ⟨iq, rfl⟩
  go_wp2_with fail
  go_ret
  exact ⟨by simp, below_step hbw3 iq.h⟩
end Go.Proofs.YtddjpddafpfngaaDoor
