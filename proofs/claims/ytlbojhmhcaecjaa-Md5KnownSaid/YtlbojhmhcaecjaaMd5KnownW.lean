/- The walk of the law Md5Known. -/
import Derived.Test.YtlbojhmhcaecjaaMd5Sum
import Derived.Test.YtlbojhmhcaecjaaHex
namespace Go.Proofs.Ytlbojhmhcaecjaa
open Go.ChangeShapes Go.WideShapes Go.ChangeAt Go.RowKit
set_option linter.unusedVariables false
theorem sum_at (s R : ByteArray) (hs : s.size ≤ 1000000) (hR : R = ⟨(md5L s.data.toList).toArray⟩) (w : World) : Calls Try.prog 7 #[.string s] w fun e w' => e = .returned (.string R) ∧ Below w.heap.size w w' := by
  rw [hR]; exact sum_any s w hs
theorem hex_at2 (s X : ByteArray) (h : X = ⟨(hexL s.data.toList).toArray⟩) (w : World) (hs : s.size ≤ 1000) : Calls Try.prog 6 #[.string s] w fun e w' => e = .returned (.string X) ∧ Below w.heap.size w w' := by
  rw [h]; exact hex_any s w (by omega)
set_option maxRecDepth 100000 in
theorem known0 : hexL (md5L []) = [48, 120, 100, 52, 49, 100, 56, 99, 100, 57, 56, 102, 48, 48, 98, 50, 48, 52, 101, 57, 56, 48, 48, 57, 57, 56, 101, 99, 102, 56, 52, 50, 55, 101] := by decide +kernel
set_option maxRecDepth 100000 in
theorem known1 : hexL (md5L [97]) = [48, 120, 48, 99, 99, 49, 55, 53, 98, 57, 99, 48, 102, 49, 98, 54, 97, 56, 51, 49, 99, 51, 57, 57, 101, 50, 54, 57, 55, 55, 50, 54, 54, 49] := by decide +kernel
set_option maxRecDepth 100000 in
theorem known2 : hexL (md5L [97, 98, 99]) = [48, 120, 57, 48, 48, 49, 53, 48, 57, 56, 51, 99, 100, 50, 52, 102, 98, 48, 100, 54, 57, 54, 51, 102, 55, 100, 50, 56, 101, 49, 55, 102, 55, 50] := by decide +kernel
set_option maxRecDepth 100000 in
theorem known3 : hexL (md5L [109, 101, 115, 115, 97, 103, 101, 32, 100, 105, 103, 101, 115, 116]) = [48, 120, 102, 57, 54, 98, 54, 57, 55, 100, 55, 99, 98, 55, 57, 51, 56, 100, 53, 50, 53, 97, 50, 102, 51, 49, 97, 97, 102, 49, 54, 49, 100, 48] := by decide +kernel
set_option maxRecDepth 100000 in
theorem known4 : hexL (md5L [97, 98, 99, 100, 101, 102, 103, 104, 105, 106, 107, 108, 109, 110, 111, 112, 113, 114, 115, 116, 117, 118, 119, 120, 121, 122]) = [48, 120, 99, 51, 102, 99, 100, 51, 100, 55, 54, 49, 57, 50, 101, 52, 48, 48, 55, 100, 102, 98, 52, 57, 54, 99, 99, 97, 54, 55, 101, 49, 51, 98] := by decide +kernel
set_option maxRecDepth 100000 in
theorem known5 : hexL (md5L [65, 66, 67, 68, 69, 70, 71, 72, 73, 74, 75, 76, 77, 78, 79, 80, 81, 82, 83, 84, 85, 86, 87, 88, 89, 90, 97, 98, 99, 100, 101, 102, 103, 104, 105, 106, 107, 108, 109, 110, 111, 112, 113, 114, 115, 116, 117, 118, 119, 120, 121, 122, 48, 49, 50, 51, 52, 53, 54, 55, 56, 57]) = [48, 120, 100, 49, 55, 52, 97, 98, 57, 56, 100, 50, 55, 55, 100, 57, 102, 53, 97, 53, 54, 49, 49, 99, 50, 99, 57, 102, 52, 49, 57, 100, 57, 102] := by decide +kernel
set_option maxRecDepth 100000 in
theorem known6 : hexL (md5L [49, 50, 51, 52, 53, 54, 55, 56, 57, 48, 49, 50, 51, 52, 53, 54, 55, 56, 57, 48, 49, 50, 51, 52, 53, 54, 55, 56, 57, 48, 49, 50, 51, 52, 53, 54, 55, 56, 57, 48, 49, 50, 51, 52, 53, 54, 55, 56, 57, 48, 49, 50, 51, 52, 53, 54, 55, 56, 57, 48, 49, 50, 51, 52, 53, 54, 55, 56, 57, 48, 49, 50, 51, 52, 53, 54, 55, 56, 57, 48]) = [48, 120, 53, 55, 101, 100, 102, 52, 97, 50, 50, 98, 101, 51, 99, 57, 53, 53, 97, 99, 52, 57, 100, 97, 50, 101, 50, 49, 48, 55, 98, 54, 55, 97] := by decide +kernel
theorem code_named {c : Code} {Q : Exit → Act → World → Prop} {a : Act} {w : World} {X : Array Value} {t t2 : TypeId} {T H : ByteArray}
    (h : ∀ (W : World) (T' H' : ByteArray), Hid (T' = T) → Hid (H' = H) → Below w.heap.size w W → W.cell? ⟨w.heap.size + 1, 0, none⟩ = some (.string T') → W.cell? ⟨w.heap.size + 1, 1, none⟩ = some (.string H') → w.heap.size + 1 < W.heap.size → Code.wp Try.prog c Q a W) :
    Code.wp Try.prog c Q a ((w.alloc (.cells X t)).alloc (.cells #[.string T, .string H] t2)) := by
  have hB := Blk.new (w.alloc (.cells X t)) t2 #[.string T, .string H]
  rw [World.size_alloc] at hB
  exact h _ T H (Lib.hid rfl) (Lib.hid rfl) (((Below.refl _ _).alloc (Nat.le_refl _) _).alloc (by simp) _) (hB.cell 0) (hB.cell 1) (by simp)
theorem known_f (T' H' R X : ByteArray) (t h : List UInt8) (hT : T' = ⟨t.toArray⟩) (hH : H' = ⟨h.toArray⟩) (hR : R = ⟨(md5L T'.data.toList).toArray⟩) (hX : X = ⟨(hexL R.data.toList).toArray⟩) (hk : hexL (md5L t) = 48 :: 120 :: h) :
    (X.toList == ((⟨#[48, 120]⟩ : ByteArray) ++ H').toList) = true ∧ R.size = 16 ∧ X.size = 34 := by
  subst hT hH hR hX
  refine ⟨?_, md5L_len _, ?_⟩
  · rw [toList_of, toList_of, cat_of]
    show (hexL (md5L t) == [48, 120] ++ h) = true
    rw [hk]; simp
  · show (hexL (md5L t)).length = 34
    rw [hexL_len, md5L_len]
set_option maxRecDepth 20000 in
set_option maxHeartbeats 8000000 in
theorem knownMd5 (z : Int) (s : ByteArray) (w : World) (hz : -9223372036854775808 ≤ z ∧ z ≤ 9223372036854775807) (hs : s.size ≤ 140737488351232) :
    Calls Try.prog 3 #[.int .i64 z, .string s] w fun e w' => e = .returned (.bool true) ∧ Below w.heap.size w w' := by
  clear hz
  have pz := pick_rng z 7 (by omega)
  go_enter Try.func3, Try.ntmps3
  go_wp2_with fail
  refine (pick_any _ _ _ (by omega) (by omega)).mono ?_
  rintro e w' ⟨rfl, rfl⟩
  rcases (show pickI z 7 = 0 ∨ pickI z 7 = 1 ∨ pickI z 7 = 2 ∨ pickI z 7 = 3 ∨ pickI z 7 = 4 ∨ pickI z 7 = 5 ∨ pickI z 7 = 6 by omega) with h | h | h | h | h | h | h
  · rw [h]
    go_wp2_with fail
    refine code_named ?_
    intro W T' H' hT hH hbW d0 d1 hlt
    obtain ⟨R, hR⟩ : ∃ R : ByteArray, R = ⟨(md5L T'.data.toList).toArray⟩ := ⟨_, rfl⟩
    obtain ⟨X, hX⟩ : ∃ X : ByteArray, X = ⟨(hexL R.data.toList).toArray⟩ := ⟨_, rfl⟩
    obtain ⟨M, hM⟩ : ∃ M : ByteArray, M = ⟨(md5L s.data.toList).toArray⟩ := ⟨_, rfl⟩
    have hMz : M.size = 16 := by rw [hM]; exact md5L_len _
    have hTz : T'.size = 0 := by rw [hT.out]; rfl
    have fM : ((M.size : Int) == 16) = true := by rw [hMz]; rfl
    obtain ⟨f1, f2, f3⟩ := known_f T' H' R X [] [100, 52, 49, 100, 56, 99, 100, 57, 56, 102, 48, 48, 98, 50, 48, 52, 101, 57, 56, 48, 48, 57, 57, 56, 101, 99, 102, 56, 52, 50, 55, 101] hT.out hH.out hR hX known0
    have e0 : ∀ i : BW W, i.v.cell? ⟨w.heap.size + 1, 0, none⟩ = some (.string T') := fun i => (i.h.cell (p := ⟨w.heap.size + 1, 0, none⟩) hlt).trans d0
    have e1 : ∀ i : BW W, i.v.cell? ⟨w.heap.size + 1, 1, none⟩ = some (.string H') := fun i => (i.h.cell (p := ⟨w.heap.size + 1, 1, none⟩) hlt).trans d1
    have hTb : T'.size ≤ 100 := by omega
    have hHb : H'.size ≤ 100 := by rw [hH.out]; decide
    have hRb : R.size ≤ 100 := by omega
    have hXb : X.size ≤ 100 := by omega
    have HR := Lib.hid hR
    have HX := Lib.hid hX
    have HM := Lib.hid hM
    clear hR hX hM hMz hTz f2 f3 d0 d1 h hT hH
    by_cases h5 : 500 < s.size
    · have g5 : decide ((500 : Int) < (s.size : Int)) = true := decide_eq_true (by omega)
      refine wp_region_quietB (by kernel_rfl) (by kernel_rfl) ?_
      repeat (first | go_big_quiet_skip | (go_big_quiet_want; go_big_quiet_op; first | go_big_quiet_on | (apply Exists.intro; refine ⟨fun _ => ?_, ?_⟩; ((first | (go_at_call 7; with_reducible exact calls_bw (sum_at T' R (by omega) HR.out _)) | (go_at_call 6; with_reducible exact calls_bw (hex_at2 R X HX.out _ (by omega))))); go_big_quiet_on)))
      refine wpQuiet_nil ?_
      rintro _ ⟨iq, rfl⟩
      go_wp2_with fail
      go_ret
      exact ⟨by simp, hbW.trans (iq.h.mono hbW.size)⟩
    · have g5 : decide ((500 : Int) < (s.size : Int)) = false := decide_eq_false (by omega)
      refine wp_region_quietB (by kernel_rfl) (by kernel_rfl) ?_
      repeat (first | go_big_quiet_skip | (go_big_quiet_want; go_big_quiet_op; first | go_big_quiet_on | (apply Exists.intro; refine ⟨fun _ => ?_, ?_⟩; ((first | (go_at_call 7; with_reducible exact calls_bw (sum_at T' R (by omega) HR.out _)) | (go_at_call 7; with_reducible exact calls_bw (sum_at s M (by omega) HM.out _)) | (go_at_call 6; with_reducible exact calls_bw (hex_at2 R X HX.out _ (by omega))))); go_big_quiet_on)))
      refine wpQuiet_nil ?_
      rintro _ ⟨iq, rfl⟩
      go_wp2_with fail
      go_ret
      exact ⟨by simp, hbW.trans (iq.h.mono hbW.size)⟩
  · rw [h]
    go_wp2_with fail
    refine code_named ?_
    intro W T' H' hT hH hbW d0 d1 hlt
    obtain ⟨R, hR⟩ : ∃ R : ByteArray, R = ⟨(md5L T'.data.toList).toArray⟩ := ⟨_, rfl⟩
    obtain ⟨X, hX⟩ : ∃ X : ByteArray, X = ⟨(hexL R.data.toList).toArray⟩ := ⟨_, rfl⟩
    obtain ⟨M, hM⟩ : ∃ M : ByteArray, M = ⟨(md5L s.data.toList).toArray⟩ := ⟨_, rfl⟩
    have hMz : M.size = 16 := by rw [hM]; exact md5L_len _
    have hTz : T'.size = 1 := by rw [hT.out]; rfl
    have fM : ((M.size : Int) == 16) = true := by rw [hMz]; rfl
    obtain ⟨f1, f2, f3⟩ := known_f T' H' R X [97] [48, 99, 99, 49, 55, 53, 98, 57, 99, 48, 102, 49, 98, 54, 97, 56, 51, 49, 99, 51, 57, 57, 101, 50, 54, 57, 55, 55, 50, 54, 54, 49] hT.out hH.out hR hX known1
    have e0 : ∀ i : BW W, i.v.cell? ⟨w.heap.size + 1, 0, none⟩ = some (.string T') := fun i => (i.h.cell (p := ⟨w.heap.size + 1, 0, none⟩) hlt).trans d0
    have e1 : ∀ i : BW W, i.v.cell? ⟨w.heap.size + 1, 1, none⟩ = some (.string H') := fun i => (i.h.cell (p := ⟨w.heap.size + 1, 1, none⟩) hlt).trans d1
    have hTb : T'.size ≤ 100 := by omega
    have hHb : H'.size ≤ 100 := by rw [hH.out]; decide
    have hRb : R.size ≤ 100 := by omega
    have hXb : X.size ≤ 100 := by omega
    have HR := Lib.hid hR
    have HX := Lib.hid hX
    have HM := Lib.hid hM
    clear hR hX hM hMz hTz f2 f3 d0 d1 h hT hH
    by_cases h5 : 500 < s.size
    · have g5 : decide ((500 : Int) < (s.size : Int)) = true := decide_eq_true (by omega)
      refine wp_region_quietB (by kernel_rfl) (by kernel_rfl) ?_
      repeat (first | go_big_quiet_skip | (go_big_quiet_want; go_big_quiet_op; first | go_big_quiet_on | (apply Exists.intro; refine ⟨fun _ => ?_, ?_⟩; ((first | (go_at_call 7; with_reducible exact calls_bw (sum_at T' R (by omega) HR.out _)) | (go_at_call 6; with_reducible exact calls_bw (hex_at2 R X HX.out _ (by omega))))); go_big_quiet_on)))
      refine wpQuiet_nil ?_
      rintro _ ⟨iq, rfl⟩
      go_wp2_with fail
      go_ret
      exact ⟨by simp, hbW.trans (iq.h.mono hbW.size)⟩
    · have g5 : decide ((500 : Int) < (s.size : Int)) = false := decide_eq_false (by omega)
      refine wp_region_quietB (by kernel_rfl) (by kernel_rfl) ?_
      repeat (first | go_big_quiet_skip | (go_big_quiet_want; go_big_quiet_op; first | go_big_quiet_on | (apply Exists.intro; refine ⟨fun _ => ?_, ?_⟩; ((first | (go_at_call 7; with_reducible exact calls_bw (sum_at T' R (by omega) HR.out _)) | (go_at_call 7; with_reducible exact calls_bw (sum_at s M (by omega) HM.out _)) | (go_at_call 6; with_reducible exact calls_bw (hex_at2 R X HX.out _ (by omega))))); go_big_quiet_on)))
      refine wpQuiet_nil ?_
      rintro _ ⟨iq, rfl⟩
      go_wp2_with fail
      go_ret
      exact ⟨by simp, hbW.trans (iq.h.mono hbW.size)⟩
  · rw [h]
    go_wp2_with fail
    refine code_named ?_
    intro W T' H' hT hH hbW d0 d1 hlt
    obtain ⟨R, hR⟩ : ∃ R : ByteArray, R = ⟨(md5L T'.data.toList).toArray⟩ := ⟨_, rfl⟩
    obtain ⟨X, hX⟩ : ∃ X : ByteArray, X = ⟨(hexL R.data.toList).toArray⟩ := ⟨_, rfl⟩
    obtain ⟨M, hM⟩ : ∃ M : ByteArray, M = ⟨(md5L s.data.toList).toArray⟩ := ⟨_, rfl⟩
    have hMz : M.size = 16 := by rw [hM]; exact md5L_len _
    have hTz : T'.size = 3 := by rw [hT.out]; rfl
    have fM : ((M.size : Int) == 16) = true := by rw [hMz]; rfl
    obtain ⟨f1, f2, f3⟩ := known_f T' H' R X [97, 98, 99] [57, 48, 48, 49, 53, 48, 57, 56, 51, 99, 100, 50, 52, 102, 98, 48, 100, 54, 57, 54, 51, 102, 55, 100, 50, 56, 101, 49, 55, 102, 55, 50] hT.out hH.out hR hX known2
    have e0 : ∀ i : BW W, i.v.cell? ⟨w.heap.size + 1, 0, none⟩ = some (.string T') := fun i => (i.h.cell (p := ⟨w.heap.size + 1, 0, none⟩) hlt).trans d0
    have e1 : ∀ i : BW W, i.v.cell? ⟨w.heap.size + 1, 1, none⟩ = some (.string H') := fun i => (i.h.cell (p := ⟨w.heap.size + 1, 1, none⟩) hlt).trans d1
    have hTb : T'.size ≤ 100 := by omega
    have hHb : H'.size ≤ 100 := by rw [hH.out]; decide
    have hRb : R.size ≤ 100 := by omega
    have hXb : X.size ≤ 100 := by omega
    have HR := Lib.hid hR
    have HX := Lib.hid hX
    have HM := Lib.hid hM
    clear hR hX hM hMz hTz f2 f3 d0 d1 h hT hH
    by_cases h5 : 500 < s.size
    · have g5 : decide ((500 : Int) < (s.size : Int)) = true := decide_eq_true (by omega)
      refine wp_region_quietB (by kernel_rfl) (by kernel_rfl) ?_
      repeat (first | go_big_quiet_skip | (go_big_quiet_want; go_big_quiet_op; first | go_big_quiet_on | (apply Exists.intro; refine ⟨fun _ => ?_, ?_⟩; ((first | (go_at_call 7; with_reducible exact calls_bw (sum_at T' R (by omega) HR.out _)) | (go_at_call 6; with_reducible exact calls_bw (hex_at2 R X HX.out _ (by omega))))); go_big_quiet_on)))
      refine wpQuiet_nil ?_
      rintro _ ⟨iq, rfl⟩
      go_wp2_with fail
      go_ret
      exact ⟨by simp, hbW.trans (iq.h.mono hbW.size)⟩
    · have g5 : decide ((500 : Int) < (s.size : Int)) = false := decide_eq_false (by omega)
      refine wp_region_quietB (by kernel_rfl) (by kernel_rfl) ?_
      repeat (first | go_big_quiet_skip | (go_big_quiet_want; go_big_quiet_op; first | go_big_quiet_on | (apply Exists.intro; refine ⟨fun _ => ?_, ?_⟩; ((first | (go_at_call 7; with_reducible exact calls_bw (sum_at T' R (by omega) HR.out _)) | (go_at_call 7; with_reducible exact calls_bw (sum_at s M (by omega) HM.out _)) | (go_at_call 6; with_reducible exact calls_bw (hex_at2 R X HX.out _ (by omega))))); go_big_quiet_on)))
      refine wpQuiet_nil ?_
      rintro _ ⟨iq, rfl⟩
      go_wp2_with fail
      go_ret
      exact ⟨by simp, hbW.trans (iq.h.mono hbW.size)⟩
  · rw [h]
    go_wp2_with fail
    refine code_named ?_
    intro W T' H' hT hH hbW d0 d1 hlt
    obtain ⟨R, hR⟩ : ∃ R : ByteArray, R = ⟨(md5L T'.data.toList).toArray⟩ := ⟨_, rfl⟩
    obtain ⟨X, hX⟩ : ∃ X : ByteArray, X = ⟨(hexL R.data.toList).toArray⟩ := ⟨_, rfl⟩
    obtain ⟨M, hM⟩ : ∃ M : ByteArray, M = ⟨(md5L s.data.toList).toArray⟩ := ⟨_, rfl⟩
    have hMz : M.size = 16 := by rw [hM]; exact md5L_len _
    have hTz : T'.size = 14 := by rw [hT.out]; rfl
    have fM : ((M.size : Int) == 16) = true := by rw [hMz]; rfl
    obtain ⟨f1, f2, f3⟩ := known_f T' H' R X [109, 101, 115, 115, 97, 103, 101, 32, 100, 105, 103, 101, 115, 116] [102, 57, 54, 98, 54, 57, 55, 100, 55, 99, 98, 55, 57, 51, 56, 100, 53, 50, 53, 97, 50, 102, 51, 49, 97, 97, 102, 49, 54, 49, 100, 48] hT.out hH.out hR hX known3
    have e0 : ∀ i : BW W, i.v.cell? ⟨w.heap.size + 1, 0, none⟩ = some (.string T') := fun i => (i.h.cell (p := ⟨w.heap.size + 1, 0, none⟩) hlt).trans d0
    have e1 : ∀ i : BW W, i.v.cell? ⟨w.heap.size + 1, 1, none⟩ = some (.string H') := fun i => (i.h.cell (p := ⟨w.heap.size + 1, 1, none⟩) hlt).trans d1
    have hTb : T'.size ≤ 100 := by omega
    have hHb : H'.size ≤ 100 := by rw [hH.out]; decide
    have hRb : R.size ≤ 100 := by omega
    have hXb : X.size ≤ 100 := by omega
    have HR := Lib.hid hR
    have HX := Lib.hid hX
    have HM := Lib.hid hM
    clear hR hX hM hMz hTz f2 f3 d0 d1 h hT hH
    by_cases h5 : 500 < s.size
    · have g5 : decide ((500 : Int) < (s.size : Int)) = true := decide_eq_true (by omega)
      refine wp_region_quietB (by kernel_rfl) (by kernel_rfl) ?_
      repeat (first | go_big_quiet_skip | (go_big_quiet_want; go_big_quiet_op; first | go_big_quiet_on | (apply Exists.intro; refine ⟨fun _ => ?_, ?_⟩; ((first | (go_at_call 7; with_reducible exact calls_bw (sum_at T' R (by omega) HR.out _)) | (go_at_call 6; with_reducible exact calls_bw (hex_at2 R X HX.out _ (by omega))))); go_big_quiet_on)))
      refine wpQuiet_nil ?_
      rintro _ ⟨iq, rfl⟩
      go_wp2_with fail
      go_ret
      exact ⟨by simp, hbW.trans (iq.h.mono hbW.size)⟩
    · have g5 : decide ((500 : Int) < (s.size : Int)) = false := decide_eq_false (by omega)
      refine wp_region_quietB (by kernel_rfl) (by kernel_rfl) ?_
      repeat (first | go_big_quiet_skip | (go_big_quiet_want; go_big_quiet_op; first | go_big_quiet_on | (apply Exists.intro; refine ⟨fun _ => ?_, ?_⟩; ((first | (go_at_call 7; with_reducible exact calls_bw (sum_at T' R (by omega) HR.out _)) | (go_at_call 7; with_reducible exact calls_bw (sum_at s M (by omega) HM.out _)) | (go_at_call 6; with_reducible exact calls_bw (hex_at2 R X HX.out _ (by omega))))); go_big_quiet_on)))
      refine wpQuiet_nil ?_
      rintro _ ⟨iq, rfl⟩
      go_wp2_with fail
      go_ret
      exact ⟨by simp, hbW.trans (iq.h.mono hbW.size)⟩
  · rw [h]
    go_wp2_with fail
    refine code_named ?_
    intro W T' H' hT hH hbW d0 d1 hlt
    obtain ⟨R, hR⟩ : ∃ R : ByteArray, R = ⟨(md5L T'.data.toList).toArray⟩ := ⟨_, rfl⟩
    obtain ⟨X, hX⟩ : ∃ X : ByteArray, X = ⟨(hexL R.data.toList).toArray⟩ := ⟨_, rfl⟩
    obtain ⟨M, hM⟩ : ∃ M : ByteArray, M = ⟨(md5L s.data.toList).toArray⟩ := ⟨_, rfl⟩
    have hMz : M.size = 16 := by rw [hM]; exact md5L_len _
    have hTz : T'.size = 26 := by rw [hT.out]; rfl
    have fM : ((M.size : Int) == 16) = true := by rw [hMz]; rfl
    obtain ⟨f1, f2, f3⟩ := known_f T' H' R X [97, 98, 99, 100, 101, 102, 103, 104, 105, 106, 107, 108, 109, 110, 111, 112, 113, 114, 115, 116, 117, 118, 119, 120, 121, 122] [99, 51, 102, 99, 100, 51, 100, 55, 54, 49, 57, 50, 101, 52, 48, 48, 55, 100, 102, 98, 52, 57, 54, 99, 99, 97, 54, 55, 101, 49, 51, 98] hT.out hH.out hR hX known4
    have e0 : ∀ i : BW W, i.v.cell? ⟨w.heap.size + 1, 0, none⟩ = some (.string T') := fun i => (i.h.cell (p := ⟨w.heap.size + 1, 0, none⟩) hlt).trans d0
    have e1 : ∀ i : BW W, i.v.cell? ⟨w.heap.size + 1, 1, none⟩ = some (.string H') := fun i => (i.h.cell (p := ⟨w.heap.size + 1, 1, none⟩) hlt).trans d1
    have hTb : T'.size ≤ 100 := by omega
    have hHb : H'.size ≤ 100 := by rw [hH.out]; decide
    have hRb : R.size ≤ 100 := by omega
    have hXb : X.size ≤ 100 := by omega
    have HR := Lib.hid hR
    have HX := Lib.hid hX
    have HM := Lib.hid hM
    clear hR hX hM hMz hTz f2 f3 d0 d1 h hT hH
    by_cases h5 : 500 < s.size
    · have g5 : decide ((500 : Int) < (s.size : Int)) = true := decide_eq_true (by omega)
      refine wp_region_quietB (by kernel_rfl) (by kernel_rfl) ?_
      repeat (first | go_big_quiet_skip | (go_big_quiet_want; go_big_quiet_op; first | go_big_quiet_on | (apply Exists.intro; refine ⟨fun _ => ?_, ?_⟩; ((first | (go_at_call 7; with_reducible exact calls_bw (sum_at T' R (by omega) HR.out _)) | (go_at_call 6; with_reducible exact calls_bw (hex_at2 R X HX.out _ (by omega))))); go_big_quiet_on)))
      refine wpQuiet_nil ?_
      rintro _ ⟨iq, rfl⟩
      go_wp2_with fail
      go_ret
      exact ⟨by simp, hbW.trans (iq.h.mono hbW.size)⟩
    · have g5 : decide ((500 : Int) < (s.size : Int)) = false := decide_eq_false (by omega)
      refine wp_region_quietB (by kernel_rfl) (by kernel_rfl) ?_
      repeat (first | go_big_quiet_skip | (go_big_quiet_want; go_big_quiet_op; first | go_big_quiet_on | (apply Exists.intro; refine ⟨fun _ => ?_, ?_⟩; ((first | (go_at_call 7; with_reducible exact calls_bw (sum_at T' R (by omega) HR.out _)) | (go_at_call 7; with_reducible exact calls_bw (sum_at s M (by omega) HM.out _)) | (go_at_call 6; with_reducible exact calls_bw (hex_at2 R X HX.out _ (by omega))))); go_big_quiet_on)))
      refine wpQuiet_nil ?_
      rintro _ ⟨iq, rfl⟩
      go_wp2_with fail
      go_ret
      exact ⟨by simp, hbW.trans (iq.h.mono hbW.size)⟩
  · rw [h]
    go_wp2_with fail
    refine code_named ?_
    intro W T' H' hT hH hbW d0 d1 hlt
    obtain ⟨R, hR⟩ : ∃ R : ByteArray, R = ⟨(md5L T'.data.toList).toArray⟩ := ⟨_, rfl⟩
    obtain ⟨X, hX⟩ : ∃ X : ByteArray, X = ⟨(hexL R.data.toList).toArray⟩ := ⟨_, rfl⟩
    obtain ⟨M, hM⟩ : ∃ M : ByteArray, M = ⟨(md5L s.data.toList).toArray⟩ := ⟨_, rfl⟩
    have hMz : M.size = 16 := by rw [hM]; exact md5L_len _
    have hTz : T'.size = 62 := by rw [hT.out]; rfl
    have fM : ((M.size : Int) == 16) = true := by rw [hMz]; rfl
    obtain ⟨f1, f2, f3⟩ := known_f T' H' R X [65, 66, 67, 68, 69, 70, 71, 72, 73, 74, 75, 76, 77, 78, 79, 80, 81, 82, 83, 84, 85, 86, 87, 88, 89, 90, 97, 98, 99, 100, 101, 102, 103, 104, 105, 106, 107, 108, 109, 110, 111, 112, 113, 114, 115, 116, 117, 118, 119, 120, 121, 122, 48, 49, 50, 51, 52, 53, 54, 55, 56, 57] [100, 49, 55, 52, 97, 98, 57, 56, 100, 50, 55, 55, 100, 57, 102, 53, 97, 53, 54, 49, 49, 99, 50, 99, 57, 102, 52, 49, 57, 100, 57, 102] hT.out hH.out hR hX known5
    have e0 : ∀ i : BW W, i.v.cell? ⟨w.heap.size + 1, 0, none⟩ = some (.string T') := fun i => (i.h.cell (p := ⟨w.heap.size + 1, 0, none⟩) hlt).trans d0
    have e1 : ∀ i : BW W, i.v.cell? ⟨w.heap.size + 1, 1, none⟩ = some (.string H') := fun i => (i.h.cell (p := ⟨w.heap.size + 1, 1, none⟩) hlt).trans d1
    have hTb : T'.size ≤ 100 := by omega
    have hHb : H'.size ≤ 100 := by rw [hH.out]; decide
    have hRb : R.size ≤ 100 := by omega
    have hXb : X.size ≤ 100 := by omega
    have HR := Lib.hid hR
    have HX := Lib.hid hX
    have HM := Lib.hid hM
    clear hR hX hM hMz hTz f2 f3 d0 d1 h hT hH
    by_cases h5 : 500 < s.size
    · have g5 : decide ((500 : Int) < (s.size : Int)) = true := decide_eq_true (by omega)
      refine wp_region_quietB (by kernel_rfl) (by kernel_rfl) ?_
      repeat (first | go_big_quiet_skip | (go_big_quiet_want; go_big_quiet_op; first | go_big_quiet_on | (apply Exists.intro; refine ⟨fun _ => ?_, ?_⟩; ((first | (go_at_call 7; with_reducible exact calls_bw (sum_at T' R (by omega) HR.out _)) | (go_at_call 6; with_reducible exact calls_bw (hex_at2 R X HX.out _ (by omega))))); go_big_quiet_on)))
      refine wpQuiet_nil ?_
      rintro _ ⟨iq, rfl⟩
      go_wp2_with fail
      go_ret
      exact ⟨by simp, hbW.trans (iq.h.mono hbW.size)⟩
    · have g5 : decide ((500 : Int) < (s.size : Int)) = false := decide_eq_false (by omega)
      refine wp_region_quietB (by kernel_rfl) (by kernel_rfl) ?_
      repeat (first | go_big_quiet_skip | (go_big_quiet_want; go_big_quiet_op; first | go_big_quiet_on | (apply Exists.intro; refine ⟨fun _ => ?_, ?_⟩; ((first | (go_at_call 7; with_reducible exact calls_bw (sum_at T' R (by omega) HR.out _)) | (go_at_call 7; with_reducible exact calls_bw (sum_at s M (by omega) HM.out _)) | (go_at_call 6; with_reducible exact calls_bw (hex_at2 R X HX.out _ (by omega))))); go_big_quiet_on)))
      refine wpQuiet_nil ?_
      rintro _ ⟨iq, rfl⟩
      go_wp2_with fail
      go_ret
      exact ⟨by simp, hbW.trans (iq.h.mono hbW.size)⟩
  · rw [h]
    go_wp2_with fail
    refine code_named ?_
    intro W T' H' hT hH hbW d0 d1 hlt
    obtain ⟨R, hR⟩ : ∃ R : ByteArray, R = ⟨(md5L T'.data.toList).toArray⟩ := ⟨_, rfl⟩
    obtain ⟨X, hX⟩ : ∃ X : ByteArray, X = ⟨(hexL R.data.toList).toArray⟩ := ⟨_, rfl⟩
    obtain ⟨M, hM⟩ : ∃ M : ByteArray, M = ⟨(md5L s.data.toList).toArray⟩ := ⟨_, rfl⟩
    have hMz : M.size = 16 := by rw [hM]; exact md5L_len _
    have hTz : T'.size = 80 := by rw [hT.out]; rfl
    have fM : ((M.size : Int) == 16) = true := by rw [hMz]; rfl
    obtain ⟨f1, f2, f3⟩ := known_f T' H' R X [49, 50, 51, 52, 53, 54, 55, 56, 57, 48, 49, 50, 51, 52, 53, 54, 55, 56, 57, 48, 49, 50, 51, 52, 53, 54, 55, 56, 57, 48, 49, 50, 51, 52, 53, 54, 55, 56, 57, 48, 49, 50, 51, 52, 53, 54, 55, 56, 57, 48, 49, 50, 51, 52, 53, 54, 55, 56, 57, 48, 49, 50, 51, 52, 53, 54, 55, 56, 57, 48, 49, 50, 51, 52, 53, 54, 55, 56, 57, 48] [53, 55, 101, 100, 102, 52, 97, 50, 50, 98, 101, 51, 99, 57, 53, 53, 97, 99, 52, 57, 100, 97, 50, 101, 50, 49, 48, 55, 98, 54, 55, 97] hT.out hH.out hR hX known6
    have e0 : ∀ i : BW W, i.v.cell? ⟨w.heap.size + 1, 0, none⟩ = some (.string T') := fun i => (i.h.cell (p := ⟨w.heap.size + 1, 0, none⟩) hlt).trans d0
    have e1 : ∀ i : BW W, i.v.cell? ⟨w.heap.size + 1, 1, none⟩ = some (.string H') := fun i => (i.h.cell (p := ⟨w.heap.size + 1, 1, none⟩) hlt).trans d1
    have hTb : T'.size ≤ 100 := by omega
    have hHb : H'.size ≤ 100 := by rw [hH.out]; decide
    have hRb : R.size ≤ 100 := by omega
    have hXb : X.size ≤ 100 := by omega
    have HR := Lib.hid hR
    have HX := Lib.hid hX
    have HM := Lib.hid hM
    clear hR hX hM hMz hTz f2 f3 d0 d1 h hT hH
    by_cases h5 : 500 < s.size
    · have g5 : decide ((500 : Int) < (s.size : Int)) = true := decide_eq_true (by omega)
      refine wp_region_quietB (by kernel_rfl) (by kernel_rfl) ?_
      repeat (first | go_big_quiet_skip | (go_big_quiet_want; go_big_quiet_op; first | go_big_quiet_on | (apply Exists.intro; refine ⟨fun _ => ?_, ?_⟩; ((first | (go_at_call 7; with_reducible exact calls_bw (sum_at T' R (by omega) HR.out _)) | (go_at_call 6; with_reducible exact calls_bw (hex_at2 R X HX.out _ (by omega))))); go_big_quiet_on)))
      refine wpQuiet_nil ?_
      rintro _ ⟨iq, rfl⟩
      go_wp2_with fail
      go_ret
      exact ⟨by simp, hbW.trans (iq.h.mono hbW.size)⟩
    · have g5 : decide ((500 : Int) < (s.size : Int)) = false := decide_eq_false (by omega)
      refine wp_region_quietB (by kernel_rfl) (by kernel_rfl) ?_
      repeat (first | go_big_quiet_skip | (go_big_quiet_want; go_big_quiet_op; first | go_big_quiet_on | (apply Exists.intro; refine ⟨fun _ => ?_, ?_⟩; ((first | (go_at_call 7; with_reducible exact calls_bw (sum_at T' R (by omega) HR.out _)) | (go_at_call 7; with_reducible exact calls_bw (sum_at s M (by omega) HM.out _)) | (go_at_call 6; with_reducible exact calls_bw (hex_at2 R X HX.out _ (by omega))))); go_big_quiet_on)))
      refine wpQuiet_nil ?_
      rintro _ ⟨iq, rfl⟩
      go_wp2_with fail
      go_ret
      exact ⟨by simp, hbW.trans (iq.h.mono hbW.size)⟩
end Go.Proofs.Ytlbojhmhcaecjaa
