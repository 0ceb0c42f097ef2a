/- The contract of chap.Response. -/
import Derived.Test.YtlbojhmhcaecjaaDoorMd5Sum
namespace Go.Proofs.YtlbojhmhcaecjaaDoor
open Go.ChangeShapes Go.WideShapes Go.ChangeAt Go.RowKit
set_option linter.unusedVariables false
def respL (id : Int) (a c : ByteArray) : List UInt8 := md5L ([UInt8.ofNat id.toNat] ++ a.data.toList ++ c.data.toList)
theorem resp_range (id : Int) (a c : ByteArray) (w : World) (h : id < 0 ∨ 255 < id) : Calls Tryd.prog 22 #[.int .i64 id, .string a, .string c] w fun e w' => e = .returned (.tuple #[.string ⟨#[]⟩, errv 2]) ∧ w = w' := by
  rcases h with h | h
  · go_enter Tryd.func22, Tryd.ntmps22
    go_wp2_with fail
    go_ret2
    exact ⟨rfl, rfl⟩
  · have h2 : ¬ id < 0 := by omega
    go_enter Tryd.func22, Tryd.ntmps22
    go_wp2_with fail
    go_ret2
    exact ⟨rfl, rfl⟩
theorem resp_limit (id : Int) (a c : ByteArray) (w : World) (h0 : 0 ≤ id) (h1 : id ≤ 255) (hs : a.size ≤ 1000000) (hs2 : c.size ≤ 1000000) (h : 100 < a.size ∨ c.size = 0 ∨ 100 < c.size) : Calls Tryd.prog 22 #[.int .i64 id, .string a, .string c] w fun e w' =>
    e = .returned (.tuple #[.string ⟨#[]⟩, errv 4]) ∧ w = w' := by
  by_cases ha : 100 < a.size
  · have g1 : decide ((100 : Int) < (a.size : Int)) = true := decide_eq_true (by omega)
    go_enter Tryd.func22, Tryd.ntmps22
    go_wp2_with fail
    go_ret2
    exact ⟨rfl, rfl⟩
  · have g1 : decide ((100 : Int) < (a.size : Int)) = false := decide_eq_false (by omega)
    by_cases hc : c.size = 0
    · have hce : c.toList.isEmpty = true := by
        have e : c.data.toList = [] := List.eq_nil_of_length_eq_zero (by rw [len_of]; exact hc)
        rw [toList_of, e]; rfl
      clear hc h
      go_enter Tryd.func22, Tryd.ntmps22
      go_wp2_with fail
      go_ret2
      exact ⟨rfl, rfl⟩
    · have hce : c.toList.isEmpty = false := by
        cases h2 : c.toList with
        | nil =>
          rw [toList_of] at h2
          have := len_of c
          rw [h2] at this
          exact absurd this.symm hc
        | cons x r => rfl
      have g2 : decide ((100 : Int) < (c.size : Int)) = true := decide_eq_true (by omega)
      go_enter Tryd.func22, Tryd.ntmps22
      go_wp2_with fail
      go_ret2
      exact ⟨rfl, rfl⟩
set_option maxRecDepth 20000 in
theorem resp_ok (id : Int) (a c : ByteArray) (w : World) (h0 : 0 ≤ id) (h1 : id ≤ 255) (ha : a.size ≤ 100) (hc : c.size ≤ 100) (hc0 : 0 < c.size) : Calls Tryd.prog 22 #[.int .i64 id, .string a, .string c] w fun e w' =>
    e = .returned (.tuple #[.string ⟨(respL id a c).toArray⟩, .nilIface]) ∧ Below w.heap.size w w' := by
  have hce : ¬ c.toList = [] := by
    intro e
    rw [toList_of] at e
    have := len_of c
    rw [e] at this
    simp at this
    omega
  have hce2 : c.toList.isEmpty = false := by
    cases h : c.toList with
    | nil => exact absurd h hce
    | cons x r => rfl
  obtain ⟨B, hB⟩ : ∃ B : ByteArray, B = ⟨[UInt8.ofNat id.toNat].toArray⟩ := ⟨_, rfl⟩
  have hcv : (convert 80 9 (.slice (some ⟨w.heap.size, 0, none⟩) 1 1)).run Tryd.prog (w.alloc (.cells #[.int .u8 id] 5)) = .ok (.string B) (w.alloc (.cells #[.int .u8 id] 5)) := by
    rw [hB]
    exact lit_string w [UInt8.ofNat id.toNat] #[.int .u8 id] (by
      obtain ⟨n, rfl⟩ := Int.eq_ofNat_of_zero_le h0
      simp [byteV]; omega) (by show 1 ≤ maxLen; unfold maxLen; omega)
  have hBz : B.size = 1 := by rw [hB]; rfl
  have hBz1 : B.size ≤ 1 := by omega
  have hsum : (B ++ a ++ c).size ≤ 1000000 := by rw [ByteArray.size_append, ByteArray.size_append]; omega
  have hres : md5L (B ++ a ++ c).data.toList = respL id a c := by rw [respL, cat_of, cat_of, hB]
  have HRES := Lib.hid hres
  have HSUM := Lib.hid hsum
  clear hB hBz hres hsum hce
  go_enter Tryd.func22, Tryd.ntmps22
  go_wp2_with fail
  refine (sum_any _ _ HSUM.out).mono ?_
  rintro e w1 ⟨rfl, hb1⟩
  rw [HRES.out]
  obtain ⟨R, hR⟩ : ∃ R : ByteArray, (⟨(respL id a c).toArray⟩ : ByteArray) = R := ⟨_, rfl⟩
  rw [hR]
  go_wp2_with fail
  go_ret2
  exact ⟨by rw [hR]; rfl, ((Below.refl _ _).alloc (Nat.le_refl _) _).trans (hb1.mono (by simp))⟩
end Go.Proofs.YtlbojhmhcaecjaaDoor
