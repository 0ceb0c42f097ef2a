/- Great letters or small: the plain laws and the walk of BinaryCases. -/
import Derived.Test.YtlbojhmhcaecjaaDoorBinRead
import Derived.Test.YtlbojhmhcaecjaaDoorBinPlain
import Derived.Test.YtlbojhmhcaecjaaDoorHex
import Derived.Test.YtlbojhmhcaecjaaDoorB64
import Derived.Test.YtlbojhmhcaecjaaDoorShelf
namespace Go.Proofs.YtlbojhmhcaecjaaDoor
open Go.ChangeShapes Go.WideShapes Go.ChangeAt Go.RowKit
set_option linter.unusedVariables false
theorem unhexGo_low : ∀ (r r2 : List UInt8) (i : Nat) (out : List UInt8), r.map low = r2.map low → unhexGo r i out = unhexGo r2 i out
  | [], [], i, out, h => rfl
  | [], y :: r2, i, out, h => by simp at h
  | x :: r, [], i, out, h => by simp at h
  | x :: r, y :: r2, i, out, h => by
    simp only [List.map_cons, List.cons.injEq] at h
    rw [unhexGo, unhexGo, h.1]
    simp only [unhexGo_low r r2 _ _ h.2]
theorem low_upper_hexd (n : Nat) (h : n < 16) : low (Lib.upperB (hexd n)) = low (hexd n) ∧ (hexd n).toNat < 128 := by
  have e : ∀ m : Fin 16, low (Lib.upperB (hexd m.val)) = low (hexd m.val) ∧ (hexd m.val).toNat < 128 := by decide +kernel
  exact e ⟨n, h⟩
theorem hexB_mem {l : List UInt8} {c : UInt8} (h : c ∈ hexB l) : ∃ n, n < 16 ∧ c = hexd n := by
  simp only [hexB, List.mem_flatMap] at h
  obtain ⟨b, _, hb⟩ := h
  have := b.toNat_lt
  simp at hb
  rcases hb with rfl | rfl
  · exact ⟨_, by omega, rfl⟩
  · exact ⟨_, by omega, rfl⟩
theorem hexL_ascii (l : List UInt8) : ∀ c ∈ hexL l, c.toNat < 128 := by
  intro c hc
  rcases List.mem_append.1 hc with h | h
  · simp at h
    rcases h with rfl | rfl <;> decide
  · obtain ⟨n, hn, rfl⟩ := hexB_mem h
    exact (low_upper_hexd n hn).2
theorem readB_upper (l : List UInt8) : readB (Lib.toUpperA (hexL l)) = .inr l := by
  have e : Lib.toUpperA (hexL l) = 48 :: 88 :: Lib.toUpperA (hexB l) := rfl
  have hm : (Lib.toUpperA (hexB l)).map low = (hexB l).map low := by
    rw [Lib.toUpperA, List.map_map]
    refine List.map_congr_left fun c hc => ?_
    obtain ⟨n, hn, rfl⟩ := hexB_mem hc
    exact (low_upper_hexd n hn).1
  have hlen : (Lib.toUpperA (hexB l)).length = 2 * l.length := by rw [Lib.toUpperA, List.length_map, hexB_len]
  unfold readB
  rw [e, if_neg (by simp), if_pos (.inr rfl)]
  unfold unhexR
  rw [if_neg (by simp only [List.length_cons, hlen]; omega)]
  show binAt (unhexGo (Lib.toUpperA (hexB l)) 2 []) = _
  rw [unhexGo_low _ _ _ _ hm, unhex_hexB l 2 [] rfl]
  rfl
theorem readB_great (l : List UInt8) : readB (48 :: 66 :: b64B l) = .inr l := by
  have h := unbase_b64L l
  unfold readB
  rw [if_neg (by simp), if_neg (by intro h; rcases h with h | h <;> (have h : (66 : UInt8) = _ := h; exact absurd h (by decide))), if_pos (.inr rfl)]
  exact h
set_option maxRecDepth 20000 in
set_option maxHeartbeats 2000000 in
theorem casesBin (s : ByteArray) (w : World) (hs : s.size ≤ 140737488351232) (hL : LaidE w) (hS : w.ShapedOpen Tryd.prog) :
    Calls Tryd.prog 12 #[.string s] w fun e w' => e = .returned (.bool true) ∧ Below w.heap.size w w' := by
  clear hS
  go_enter Tryd.func12, Tryd.ntmps12
  go_wp2_with fail
  refine (valued_fact _ hL).mono ?_
  rintro e w1 ⟨rfl, hb1⟩
  by_cases h3 : 300 < s.size
  · go_wp2_with fail
    go_ret
    exact ⟨rfl, hb1⟩
  have hl := len_of s
  obtain ⟨X, hX⟩ : ∃ X : ByteArray, X = ⟨(hexL s.data.toList).toArray⟩ := ⟨_, rfl⟩
  obtain ⟨Y, hY⟩ : ∃ Y : ByteArray, Y = ⟨(b64L s.data.toList).toArray⟩ := ⟨_, rfl⟩
  have hXd : X.data.toList = hexL s.data.toList := by rw [hX]
  have hXz : X.size = 2 + 2 * s.size := by rw [hX, size_mkl, hexL_len, hl]
  have hYz : Y.size = 2 + (s.size + 2) / 3 * 4 := by rw [hY, size_mkl, b64L_len, hl]
  have hasc : ∀ (j : Nat) (b : UInt8), X.data.toList[j]? = some b → b.toNat < 128 := by
    intro j b hb
    rw [hXd] at hb
    exact hexL_ascii _ b (List.mem_of_getElem? hb)
  have hup : readB (Lib.toUpperA X.data.toList) = .inr s.data.toList := by rw [hXd]; exact readB_upper _
  obtain ⟨U, hU⟩ : ∃ U : ByteArray, U = ⟨(Lib.toUpperA X.data.toList).toArray⟩ := ⟨_, rfl⟩
  have hUr : readB U.data.toList = .inr s.data.toList := by rw [hU]; exact hup
  have hUz : U.size ≤ 1000 := by
    rw [hU, size_mkl, Lib.toUpperA, List.length_map, len_of, hXz]; omega
  have htail : Y.extract 2 Y.size = ⟨(b64B s.data.toList).toArray⟩ := ext_tail 48 98 _ Y (by rw [hY]; rfl)
  obtain ⟨Z, hZ⟩ : ∃ Z : ByteArray, Y.extract 2 Y.size = Z := ⟨_, rfl⟩
  have hZr : readB ((⟨#[48, 66]⟩ : ByteArray) ++ Z).data.toList = .inr s.data.toList := by
    rw [← hZ, htail, cat_of]; exact readB_great _
  have hZz : Z.size ≤ 1000 := by rw [← hZ, ByteArray.size_extract]; omega
  have hXb : X.size ≤ 1000 := by omega
  have hYb : Y.size ≤ 1000 := by omega
  have hX2 : 2 ≤ X.size := by omega
  have hY2 : 2 ≤ Y.size := by omega
  obtain ⟨V, hV⟩ : ∃ V : ByteArray, (⟨#[48, 66]⟩ : ByteArray) ++ Z = V := ⟨_, rfl⟩
  have hVz : V.size ≤ 2000 := by rw [← hV, ByteArray.size_append]; show 2 + Z.size ≤ 2000; omega
  rw [hV] at hZr
  have HX := Lib.hid hX
  have HY := Lib.hid hY
  have HU := Lib.hid hU
  have HZ := Lib.hid hZ
  have HV := Lib.hid hV
  have HA := Lib.hid hasc
  clear hX hY hXz hYz hXd hup hU htail hZ hV hl hasc
  go_wp2_with fail
  refine (hex_any s _ (by omega)).mono ?_
  rintro e w2 ⟨rfl, hb2⟩
  rw [← HX.out]
  go_wp2_with fail
  refine (Tryd.strings_ToUpper_ascii X _ (by omega) HA.out).mono ?_
  rintro e w3 ⟨rfl, hb3⟩
  rw [← HU.out]
  go_wp2_with fail
  refine (read_ok U _ _ (by omega) hUr).mono ?_
  rintro e w4 ⟨rfl, hb4⟩
  rw [show (⟨s.data.toList.toArray⟩ : ByteArray) = s from (str_of s).symm]
  go_wp2_with fail
  refine (base64_any s _ (by omega)).mono ?_
  rintro e w5 ⟨rfl, hb5⟩
  rw [← HY.out]
  go_wp2_with fail
  rw [HZ.out, HV.out]
  refine (read_ok V _ _ (by omega) hZr).mono ?_
  rintro e w6 ⟨rfl, hb6⟩
  rw [show (⟨s.data.toList.toArray⟩ : ByteArray) = s from (str_of s).symm]
  go_wp2_with fail
  go_ret
  exact ⟨rfl, below_step (below_step (below_step (below_step (below_step hb1 hb2) hb3) hb4) hb5) hb6⟩
end Go.Proofs.YtlbojhmhcaecjaaDoor
