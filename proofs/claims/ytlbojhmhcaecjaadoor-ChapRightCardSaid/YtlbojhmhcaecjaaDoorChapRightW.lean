/- The walk of the law ChapRight. -/
import Derived.Test.YtlbojhmhcaecjaaDoorChapFact
import Derived.Test.YtlbojhmhcaecjaaDoorTurn
namespace Go.Proofs.YtlbojhmhcaecjaaDoor
open Go.ChangeShapes Go.WideShapes Go.ChangeAt Go.RowKit
set_option linter.unusedVariables false
def twoL (name secret NX SX : ByteArray) : PairL := [(NX, SX), (name, secret)]
theorem two_find (name secret NX SX : ByteArray) (h : NX.size = name.size + 1) : findU (twoL name secret NX SX) name = some (name, secret) := by
  rw [twoL, findU, if_neg (fun e => by have e2 : NX.data.toList.length = name.data.toList.length := congrArg List.length e; rw [len_of, len_of] at e2; omega), findU, if_pos rfl]
theorem two_check (name secret NX SX X ch : ByteArray) (id : Int) (g : List UInt8) (h : NX.size = name.size + 1) (hX : readB X.data.toList = .inr g) (hi : ¬ (id < 0 ∨ 255 < id)) (hm : ¬ (100 < secret.size ∨ ch.size = 0 ∨ 100 < ch.size)) :
    checkN (twoL name secret NX SX) name X id ch = if g = respL id secret ch then 0 else 13 := by
  rw [checkN, two_find _ _ _ _ h]
  simp only
  rw [hX]
  simp only
  rw [checkR, if_neg hi, if_neg hm]
theorem b64_to3 (s X : ByteArray) (h : X = ⟨(b64L s.data.toList).toArray⟩) (w : World) (hs : s.size ≤ 1000) : Calls Tryd.prog 29 #[.string s] w fun e w' => e = .returned (.string X) ∧ Below w.heap.size w w' := by
  rw [h]
  exact base64_any s w (by omega)
set_option maxRecDepth 20000 in
set_option maxHeartbeats 4000000 in
theorem rightChap (name secret : ByteArray) (d : Int × ByteArray) (b f : Int) (w : World) (hn : name.size ≤ 140737488351232) (hs : secret.size ≤ 140737488351232)
    (hd1 : -9223372036854775808 ≤ d.1 ∧ d.1 ≤ 9223372036854775807) (hd2 : d.2.size ≤ 140737488351232) (hb : 0 ≤ b ∧ b ≤ 4294967295) (hf : -9223372036854775808 ≤ f ∧ f ≤ 9223372036854775807) (hL : LaidE w) (hS : w.ShapedOpen Tryd.prog) :
    Calls Tryd.prog 7 #[.string name, .string secret, .agg #[.int .i64 d.1, .string d.2], .int .u32 b, .int .i64 f] w fun e w' => e = .returned (.bool true) ∧ Below w.heap.size w w' := by
  clear hS
  obtain ⟨id, c⟩ := d
  simp only at hd1 hd2
  obtain ⟨bn, rfl⟩ := Int.eq_ofNat_of_zero_le hb.1
  go_enter Tryd.func7, Tryd.ntmps7
  go_wp2_with fail
  have hb0 : Below w.heap.size w (w.alloc (.cells #[.int .i64 id, .string c] 44)) := (Below.refl _ _).alloc (Nat.le_refl _) _
  have hB0 := Blk.new w 44 #[.int .i64 id, .string c]
  obtain ⟨w0, hw0⟩ : ∃ w0 : World, w.alloc (.cells #[.int .i64 id, .string c] 44) = w0 := ⟨_, rfl⟩
  rw [hw0] at hb0 hB0 ⊢
  clear hw0
  have hL0 := hL.on hb0
  refine (proved_fact _ hL0).mono ?_
  rintro e w1 ⟨rfl, hb1'⟩
  have hb1 := below_step hb0 hb1'
  have hL1 := hL.on hb1
  have hB1 := hB0.below hb1' hB0.lt
  clear hb0 hb1' hB0 hL0
  go_wp2_with fail
  refine (valued_fact _ hL1).mono ?_
  rintro e w2 ⟨rfl, hb2'⟩
  have hb2 := below_step hb1 hb2'
  have hL2 := hL.on hb2
  have hB2 := hB1.below hb2' hB1.lt
  clear hb1 hb2' hB1 hL1 hL
  have c0 := hB2.cell 0
  have c1 := hB2.cell 1
  by_cases h3 : 300 < name.size + secret.size + c.size
  · go_wp2_with fail
    go_ret
    exact ⟨rfl, hb2⟩
  obtain ⟨NX, hNX⟩ : ∃ NX : ByteArray, name ++ (⟨#[120]⟩ : ByteArray) = NX := ⟨_, rfl⟩
  obtain ⟨SX, hSX⟩ : ∃ SX : ByteArray, secret ++ (⟨#[120]⟩ : ByteArray) = SX := ⟨_, rfl⟩
  have hNz : NX.size = name.size + 1 := by rw [← hNX]; exact ByteArray.size_append ..
  have hSz : SX.size = secret.size + 1 := by rw [← hSX]; exact ByteArray.size_append ..
  have b0 : ∀ o, (w2.alloc o).cell? ⟨w.heap.size, 0, none⟩ = some (.int .i64 id) := fun o => (hB2.alloc o).cell 0
  have b1 : ∀ o, (w2.alloc o).cell? ⟨w.heap.size, 1, none⟩ = some (.string c) := fun o => (hB2.alloc o).cell 1
  go_wp2_with fail
  have hb3 := hb2.alloc hb2.size (.cells #[.string NX, .string SX, .string name, .string secret] 46)
  have hL3 := hL2.alloc (.cells #[.string NX, .string SX, .string name, .string secret] 46)
  have hB3 := hB2.alloc (.cells #[.string NX, .string SX, .string name, .string secret] 46)
  have hBl3 := Blk.new w2 46 #[.string NX, .string SX, .string name, .string secret]
  obtain ⟨G, hG⟩ : ∃ G, w2.heap.size = G := ⟨_, rfl⟩
  rw [hG] at hBl3 ⊢
  obtain ⟨w3, hw3⟩ : ∃ w3 : World, w2.alloc (.cells #[.string NX, .string SX, .string name, .string secret] 46) = w3 := ⟨_, rfl⟩
  rw [hw3] at hb3 hL3 hB3 hBl3 ⊢
  clear hw3 b0 b1 c0 c1 hB2 hL2 hb2 hNX hSX hG
  by_cases hi : id < 0 ∨ 255 < id
  · refine (resp_range id secret c _ hi).mono ?_
    rintro e w4 ⟨rfl, rfl⟩
    rw [show errv 2 = .iface 32 (.int .i64 2) from rfl]
    go_wp2_with fail
    go_ret
    exact ⟨rfl, hb3⟩
  by_cases hm : 100 < secret.size ∨ c.size = 0 ∨ 100 < c.size
  · refine (resp_limit id secret c _ (by omega) (by omega) (by omega) (by omega) hm).mono ?_
    rintro e w4 ⟨rfl, rfl⟩
    rw [show errv 4 = .iface 32 (.int .i64 4) from rfl]
    go_wp2_with fail
    go_ret
    exact ⟨rfl, hb3⟩
  have hRl := respL_len id secret c
  obtain ⟨R, hR⟩ : ∃ R : ByteArray, (⟨(respL id secret c).toArray⟩ : ByteArray) = R := ⟨_, rfl⟩
  have hRz : R.size = 16 := by rw [← hR, size_mkl, hRl]
  have hRd : R.data.toList = respL id secret c := by rw [← hR]
  have hm1 : secret.size ≤ 100 := by omega
  have hm2 : c.size ≤ 100 := by omega
  have hm3 : 0 < c.size := by omega
  refine (resp_ok id secret c _ (by omega) (by omega) hm1 hm2 hm3).mono ?_
  rintro e w4 ⟨rfl, hb4'⟩
  rw [hR]
  have hb4 := below_step hb3 hb4'
  have hL4 := hL3.on hb4'
  have hB4 := hB3.below hb4' hB3.lt
  have hBl4 := hBl3.below hb4' hBl3.lt
  clear hb3 hL3 hB3 hBl3 hb4' hR hRl
  have hpk := pick_rng f 100 (by omega)
  obtain ⟨m, hm4⟩ : ∃ m, pickI f 100 = m := ⟨_, rfl⟩
  rw [hm4] at hpk
  obtain ⟨k, rfl⟩ := Int.eq_ofNat_of_zero_le hpk.1
  have HM := Lib.hid hm4
  clear hm4
  go_wp2_with fail
  refine (pick_any _ _ _ (by omega) (by omega)).mono ?_
  rintro e w5 ⟨rfl, rfl⟩
  rw [HM.out]
  go_wp2_with fail
  refine (turned_any R k bn _ (by omega) (by omega) (by omega)).mono ?_
  rintro e w6 ⟨rfl, hb6'⟩
  obtain ⟨T, hT⟩ : ∃ T : ByteArray, (⟨(turnedL R.data.toList k bn 32).toArray⟩ : ByteArray) = T := ⟨_, rfl⟩
  have hTz : T.size = 16 := by rw [← hT, size_mkl, turnedL_len, len_of, hRz]
  rw [hT]
  clear hT
  have hb6 := below_step hb4 hb6'
  have hL6 := hL4.on hb6'
  have hB6 := hB4.below hb6' hB4.lt
  have hBl6 := hBl4.below hb6' hBl4.lt
  clear hb4 hL4 hB4 hBl4 hb6'
  obtain ⟨X1, hX1⟩ : ∃ X : ByteArray, X = (⟨(hexL R.data.toList).toArray⟩ : ByteArray) := ⟨_, rfl⟩
  obtain ⟨X2, hX2⟩ : ∃ X : ByteArray, X = (⟨(b64L R.data.toList).toArray⟩ : ByteArray) := ⟨_, rfl⟩
  obtain ⟨X3, hX3⟩ : ∃ X : ByteArray, X = (⟨(hexL T.data.toList).toArray⟩ : ByteArray) := ⟨_, rfl⟩
  have hz1 : X1.size ≤ 1000 := by rw [hX1, size_mkl, hexL_len, len_of]; omega
  have hz2 : X2.size ≤ 1000 := by rw [hX2, size_mkl, b64L_len, len_of]; omega
  have hz3 : X3.size ≤ 1000 := by rw [hX3, size_mkl, hexL_len, len_of]; omega
  have C1 := two_check name secret NX SX X1 c id R.data.toList hNz (by rw [hX1]; exact readB_hexL _) hi hm
  have C2 := two_check name secret NX SX X2 c id R.data.toList hNz (by rw [hX2]; exact readB_b64L _) hi hm
  have C3 := two_check name secret NX SX X3 c id T.data.toList hNz (by rw [hX3]; exact readB_hexL _) hi hm
  rw [if_pos hRd] at C1 C2
  have H1 := Lib.hid hX1
  have H2 := Lib.hid hX2
  have H3 := Lib.hid hX3
  have D1 := Lib.hid C1
  have D2 := Lib.hid C2
  have hNl : G < w6.heap.size := hBl6.lt
  have hNd : w.heap.size < w6.heap.size := hB6.lt
  have e0 : ∀ i : BW w6, i.v.cell? ⟨w.heap.size, 0, none⟩ = some (.int .i64 id) := fun i => (hB6.below i.h hNd).cell 0
  have e1 : ∀ i : BW w6, i.v.cell? ⟨w.heap.size, 1, none⟩ = some (.string c) := fun i => (hB6.below i.h hNd).cell 1
  have eL : ∀ i : BW w6, LaidE i.v := fun i => hL6.on i.h
  have eS : ∀ i : BW w6, SRd i.v (.slice (some ⟨G, 0, none⟩) 2 2) 2 (twoL name secret NX SX).length (pairCells (twoL name secret NX SX)) := fun i => SRd.lit (hBl6.below i.h hNl) rfl rfl (by decide)
  have hml : ∀ p ∈ twoL name secret NX SX, p.2.size ≤ 1000000 := by
    intro p hp
    rw [twoL, List.mem_cons, List.mem_singleton] at hp
    rcases hp with rfl | rfl
    · simp only; omega
    · simp only; omega
  have HML := Lib.hid hml
  clear hml hX1 hX2 hX3 C1 C2 hB6 hBl6 hi hm hL6
  by_cases hq : T.data.toList = R.data.toList
  · rw [hq, if_pos hRd] at C3
    have D3 := Lib.hid C3
    have f1 : (T.toList == R.toList) = true := by rw [toList_of, toList_of, hq]; simp
    clear C3 hq hRd
    go_wp2_with fail
    refine wp_region_quietB (by kernel_rfl) (by kernel_rfl) ?_
    repeat (first | go_big_quiet_skip | (go_big_quiet_want; go_big_quiet_op; first | go_big_quiet_on | (apply Exists.intro; refine ⟨fun _ => ?_, ?_⟩; ((first | (go_at_call 28; with_reducible exact calls_bw (hex_to3 R X1 H1.out _ (by omega))) | (go_at_call 29; with_reducible exact calls_bw (b64_to3 R X2 H2.out _ (by omega))) | (go_at_call 28; with_reducible exact calls_bw (hex_to3 T X3 H3.out _ (by omega))) | (go_at_call 24; with_reducible exact calls_bw (check_ok (twoL name secret NX SX) _ _ X1 c id _ (eL _) (eS _) HML.out (by omega) (by omega) D1.out)) | (go_at_call 24; with_reducible exact calls_bw (check_ok (twoL name secret NX SX) _ _ X2 c id _ (eL _) (eS _) HML.out (by omega) (by omega) D2.out)) | (go_at_call 24; with_reducible exact calls_bw (check_ok (twoL name secret NX SX) _ _ X3 c id _ (eL _) (eS _) HML.out (by omega) (by omega) D3.out)))); go_big_quiet_on)))
    refine wpQuiet_nil ?_
    rintro _ ⟨iq, rfl⟩
    go_wp2_with fail
    go_ret
    exact ⟨rfl, below_step hb6 iq.h⟩
  · rw [if_neg (by rw [← hRd]; exact hq)] at C3
    have D3 := Lib.hid C3
    have f1 : (T.toList == R.toList) = false := by rw [toList_of, toList_of]; simpa using hq
    clear C3 hq hRd
    go_wp2_with fail
    refine wp_region_quietB (by kernel_rfl) (by kernel_rfl) ?_
    repeat (first | go_big_quiet_skip | (go_big_quiet_want; go_big_quiet_op; first | go_big_quiet_on | (apply Exists.intro; refine ⟨fun _ => ?_, ?_⟩; ((first | (go_at_call 28; with_reducible exact calls_bw (hex_to3 R X1 H1.out _ (by omega))) | (go_at_call 29; with_reducible exact calls_bw (b64_to3 R X2 H2.out _ (by omega))) | (go_at_call 28; with_reducible exact calls_bw (hex_to3 T X3 H3.out _ (by omega))) | (go_at_call 24; with_reducible exact calls_bw (check_ok (twoL name secret NX SX) _ _ X1 c id _ (eL _) (eS _) HML.out (by omega) (by omega) D1.out)) | (go_at_call 24; with_reducible exact calls_bw (check_ok (twoL name secret NX SX) _ _ X2 c id _ (eL _) (eS _) HML.out (by omega) (by omega) D2.out)) | (go_at_call 24; with_reducible exact calls_bw (check_no 13 (by decide) (twoL name secret NX SX) _ _ X3 c id _ (eL _) (eS _) HML.out (by omega) (by omega) D3.out)))); go_big_quiet_on)))
    refine wpQuiet_nil ?_
    rintro _ ⟨iq, rfl⟩
    go_wp2_with fail
    go_ret
    exact ⟨rfl, below_step hb6 iq.h⟩
end Go.Proofs.YtlbojhmhcaecjaaDoor
