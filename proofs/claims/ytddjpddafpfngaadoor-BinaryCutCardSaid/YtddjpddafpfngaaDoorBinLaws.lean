/- The walks of the laws BinaryBack and BinaryCut. -/
import Derived.Test.YtddjpddafpfngaaDoorBinRead
namespace Go.Proofs.YtddjpddafpfngaaDoor
open Go.ChangeShapes Go.WideShapes Go.ChangeAt Go.RowKit
set_option linter.unusedVariables false
set_option maxRecDepth 20000 in
set_option maxHeartbeats 2000000 in
theorem backBin (s : ByteArray) (w : World) (hs : s.size ≤ 140737488351232) (hL : LaidE w) (hS : w.ShapedOpen Tryd.prog) :
    Calls Tryd.prog 4 #[.string s] w fun e w' => e = .returned (.bool true) ∧ Below w.heap.size w w' := by
  clear hS
  go_enter Tryd.func4, Tryd.ntmps4
  go_wp2_with fail
  refine (valued_fact _ hL).mono ?_
  rintro e w1 ⟨rfl, hb1⟩
  by_cases h3 : 300 < s.size
  · go_wp2_with fail
    go_ret
    exact ⟨rfl, hb1⟩
  have hl := len_of s
  obtain ⟨X, hX⟩ : ∃ X : ByteArray, X = ⟨(hexL s.data.toList).toArray⟩ := ⟨_, rfl⟩
  obtain ⟨Y, hY⟩ : ∃ Y : ByteArray, Y = ⟨(b64L s.data.toList).toArray⟩ := ⟨_, rfl⟩
  have hXz : X.size = 2 + 2 * s.size := by rw [hX, size_mkl, hexL_len, hl]
  have hYz : Y.size = 2 + (s.size + 2) / 3 * 4 := by rw [hY, size_mkl, b64L_len, hl]
  have hXr : readB X.data.toList = .inr s.data.toList := by rw [hX]; exact readB_hexL _
  have hYr : readB Y.data.toList = .inr s.data.toList := by rw [hY]; exact readB_b64L _
  have hXb : X.size ≤ 1000 := by omega
  have hYb : Y.size ≤ 1000 := by omega
  have f1 : ((X.size : Int) == 2 + 2 * (s.size : Int)) = true := beq_iff_eq.2 (by omega)
  have f2 : ((Y.size : Int) == 2 + ((s.size : Int) + 2) / 3 * 4) = true := beq_iff_eq.2 (by omega)
  have HX := Lib.hid hX
  have HY := Lib.hid hY
  have HXr := Lib.hid hXr
  have HYr := Lib.hid hYr
  clear hX hY hXr hYr hXz hYz hl
  go_wp2_with fail
  refine (hex_any s _ (by omega)).mono ?_
  rintro e w2 ⟨rfl, hb2⟩
  rw [← HX.out]
  have hbw2 := below_step hb1 hb2
  go_wp2_with fail
  refine (base64_any s _ (by omega)).mono ?_
  rintro e w3 ⟨rfl, hb3⟩
  rw [← HY.out]
  have hbw3 := below_step hbw2 hb3
  go_wp2_with fail
  refine (read_ok X s.data.toList _ (by omega) HXr.out).mono ?_
  rintro e w4 ⟨rfl, hb4⟩
  rw [← str_of s]
  have hbw4 := below_step hbw3 hb4
  go_wp2_with fail
  refine (read_ok Y s.data.toList _ (by omega) HYr.out).mono ?_
  rintro e w5 ⟨rfl, hb5⟩
  rw [← str_of s]
  have hbw5 := below_step hbw4 hb5
  go_wp2_with fail
  go_ret
  exact ⟨rfl, hbw5⟩
theorem readB_x (r : List UInt8) : readB (48 :: 120 :: r) = unhexR (48 :: 120 :: r) := by
  unfold readB
  rw [if_neg (by intro h; rcases h with h | h; · simp at h; omega
                 · exact h rfl), if_pos (.inl rfl)]
theorem readB_b (r : List UInt8) : readB (48 :: 98 :: r) = unbaseR (48 :: 98 :: r) := by
  unfold readB
  rw [if_neg (by intro h; rcases h with h | h; · simp at h; omega
                 · exact h rfl), if_neg (by intro h; rcases h with h | h <;> (have h : (98 : UInt8) = _ := h; exact absurd h (by decide))), if_pos (.inl rfl)]
theorem readB_cutX (l : List UInt8) (h : l ≠ []) : readB ((hexL l).take ((hexL l).length - 1)) = .inl (7, none) := by
  have hl : 0 < l.length := List.length_pos_iff.2 h
  have e := hexL_cons l
  have hz : ((hexL l).take ((hexL l).length - 1)).length = 1 + 2 * l.length := by
    rw [List.length_take, hexL_len]; omega
  have e2 : (hexL l).take ((hexL l).length - 1) = 48 :: 120 :: (hexB l).take (2 * l.length - 1) := by
    rw [hexL_len, e, show 2 + 2 * l.length - 1 = (2 * l.length - 1) + 1 + 1 from by omega]
    rfl
  rw [e2, readB_x, unhexR, ← e2, hz, if_pos (by omega)]
theorem readB_cutY (l : List UInt8) (h : l ≠ []) : readB ((b64L l).take ((b64L l).length - 1)) = .inl (7, none) := by
  have hl : 0 < l.length := List.length_pos_iff.2 h
  have e := b64L_cons l
  have hz : ((b64L l).take ((b64L l).length - 1)).length = 1 + (l.length + 2) / 3 * 4 := by
    rw [List.length_take, b64L_len]; omega
  have e2 : (b64L l).take ((b64L l).length - 1) = 48 :: 98 :: (b64B l).take ((l.length + 2) / 3 * 4 - 1) := by
    rw [b64L_len, e, show 2 + (l.length + 2) / 3 * 4 - 1 = ((l.length + 2) / 3 * 4 - 1) + 1 + 1 from by omega]
    rfl
  rw [e2, readB_b, unbaseR, ← e2, hz, if_pos (by omega)]
set_option maxRecDepth 20000 in
set_option maxHeartbeats 2000000 in
theorem cutBin (s : ByteArray) (w : World) (hs : s.size ≤ 140737488351232) (hL : LaidE w) (hS : w.ShapedOpen Tryd.prog) :
    Calls Tryd.prog 6 #[.string s] w fun e w' => e = .returned (.bool true) ∧ Below w.heap.size w w' := by
  clear hS
  have hl := len_of s
  by_cases h0 : s.data.toList = []
  · have hs0 : s = ⟨#[]⟩ := by rw [str_of s, h0]
    subst hs0
    clear h0 hl
    go_enter Tryd.func6, Tryd.ntmps6
    go_wp2_with fail
    refine (valued_fact _ hL).mono ?_
    rintro e w1 ⟨rfl, hb1⟩
    go_wp2_with fail
    go_ret
    exact ⟨rfl, hb1⟩
  have g1 : s.toList = s.data.toList := toList_of s
  have g2 : (s.toList == []) = false := by rw [g1]; simpa using h0
  have g3 : s.toList.isEmpty = false := by rw [g1]; simpa using h0
  have HG1 := Lib.hid g1
  have HH0 := Lib.hid h0
  clear g1 h0
  go_enter Tryd.func6, Tryd.ntmps6
  go_wp2_with fail
  refine (valued_fact _ hL).mono ?_
  rintro e w1 ⟨rfl, hb1⟩
  have hL1 := hL.on hb1
  by_cases h3 : 300 < s.size
  · go_wp2_with fail
    go_ret
    exact ⟨rfl, hb1⟩
  obtain ⟨X, hX⟩ : ∃ X : ByteArray, X = ⟨(hexL s.data.toList).toArray⟩ := ⟨_, rfl⟩
  obtain ⟨Y, hY⟩ : ∃ Y : ByteArray, Y = ⟨(b64L s.data.toList).toArray⟩ := ⟨_, rfl⟩
  have hXz : X.size = 2 + 2 * s.size := by rw [hX, size_mkl, hexL_len, hl]
  have hYz : Y.size = 2 + (s.size + 2) / 3 * 4 := by rw [hY, size_mkl, b64L_len, hl]
  have hXr : readB (X.extract 0 (X.size - 1)).data.toList = .inl (7, none) := by
    rw [ext_init _ X hX]; exact readB_cutX _ HH0.out
  have hYr : readB (Y.extract 0 (Y.size - 1)).data.toList = .inl (7, none) := by
    rw [ext_init _ Y hY]; exact readB_cutY _ HH0.out
  have hXb : X.size ≤ 1000 := by omega
  have hYb : Y.size ≤ 1000 := by omega
  have hXc : 2 ≤ X.size := by omega
  have hYc : 2 ≤ Y.size := by omega
  have HX := Lib.hid hX
  have HY := Lib.hid hY
  have HXr := Lib.hid hXr
  have HYr := Lib.hid hYr
  clear hX hY hXr hYr hXz hYz hl
  go_wp2_with fail
  refine (hex_any s _ (by omega)).mono ?_
  rintro e w2 ⟨rfl, hb2⟩
  rw [← HX.out]
  have hbw2 := below_step hb1 hb2
  go_wp2_with fail
  refine (base64_any s _ (by omega)).mono ?_
  rintro e w3 ⟨rfl, hb3⟩
  rw [← HY.out]
  have hbw3 := below_step hbw2 hb3
  go_wp2_with fail
  refine (read_no _ 7 _ (by rw [ByteArray.size_extract]; omega) HXr.out).mono ?_
  rintro e w4 ⟨rfl, hb4⟩
  have hbw4 := below_step hbw3 hb4
  rw [show errv 7 = .iface 35 (.int .i64 7) from rfl]
  go_wp2_with fail
  refine (read_no _ 7 _ (by rw [ByteArray.size_extract]; omega) HYr.out).mono ?_
  rintro e w5 ⟨rfl, hb5⟩
  have hbw5 := below_step hbw4 hb5
  have hL5 := hL.on hbw5
  rw [show errv 7 = .iface 35 (.int .i64 7) from rfl]
  go_wp2_with fail
  refine (tell_errno 7 _ hL5).mono ?_
  rintro e w6 ⟨rfl, hb6⟩
  have hbw6 := below_step hbw5 hb6
  have hL6 := hL5.on hb6
  go_wp2_with fail
  refine (tell_errno 7 _ hL6).mono ?_
  rintro e w7 ⟨rfl, hb7⟩
  have hbw7 := below_step hbw6 hb7
  go_wp2_with fail
  go_ret
  exact ⟨rfl, hbw7⟩
end Go.Proofs.YtddjpddafpfngaaDoor
