/- The contract of field.Put: a number in so many bytes, the highest first. -/
import Derived.Test.YtfdbbfladgepgaaDoorBase
namespace Go.Proofs.YtfdbbfladgepgaaDoor
open Go.ChangeShapes Go.WideShapes Go.ChangeAt Go.RowKit
set_option linter.unusedVariables false

def putB (n : Nat) : Nat → List UInt8
  | 0 => []
  | i + 1 => UInt8.ofNat (n / 2 ^ (8 * i)) :: putB n i
theorem putB_len (n i : Nat) : (putB n i).length = i := by
  induction i with
  | zero => rfl
  | succ i ih => simp [putB, ih]
def putRow (n k j : Nat) : List Value := List.replicate (k - j) (byteV 0) ++ (putB n j).map byteV
theorem putRow_len (n k j : Nat) (h : j ≤ k) : (putRow n k j).length = k := by simp [putRow, putB_len]; omega
theorem putRow_set (n k j : Nat) (h : j < k) : (putRow n k j).set (k - 1 - j) (byteV (UInt8.ofNat (n / 2 ^ (8 * j)))) = putRow n k (j + 1) := by
  unfold putRow
  obtain ⟨d, rfl⟩ : ∃ d, k = j + 1 + d := ⟨k - j - 1, by omega⟩
  have e1 : j + 1 + d - j = d + 1 := by omega
  have e2 : j + 1 + d - 1 - j = d := by omega
  have e3 : j + 1 + d - (j + 1) = d := by omega
  rw [e1, e2, e3, List.set_append, if_pos (by simp)]
  have : (List.replicate (d + 1) (byteV 0)).set d (byteV (UInt8.ofNat (n / 2 ^ (8 * j)))) = List.replicate d (byteV 0) ++ [byteV (UInt8.ofNat (n / 2 ^ (8 * j)))] := by
    rw [List.replicate_succ', List.set_append, if_neg (by simp)]
    simp
  rw [this]
  simp [putB]
theorem put_loop (n k : Nat) (w : World) (hk : k ≤ 8) (hn : n < 2 ^ (8 * k)) (hn2 : n < 18446744073709551616) : Calls Tryd.prog 15 #[.int .u64 n, .int .i64 k] w fun e w' =>
    e = .returned (.tuple #[.string ⟨(putB n k).toArray⟩, .nilIface]) ∧ Below w.heap.size w w' := by
  have hmk := fun w => make_bytes k w (by omega)
  have f0 : ((n : Int) / 2 ^ (8 * k) != 0) = false := by
    have : n / 2 ^ (8 * k) = 0 := Nat.div_eq_of_lt hn
    rw [bne_eq_false_iff_eq]
    exact_mod_cast this
  clear hn
  by_cases h8 : k < 8
  all_goals
    go_enter Tryd.func15, Tryd.ntmps15
    go_wp2
    go_loopw [29] (fun i wr => ∃ j : Nat, j ≤ k ∧ i = .int .i64 j ∧ Below w.heap.size w wr ∧ wr.ownsRow w.heap.size 5 1 (.slice (some ⟨w.heap.size, 0, none⟩) k k) k (putRow n k j)) (fun i _ => k - (intOf i).toNat)
    case atStart =>
      refine ⟨0, Nat.zero_le _, rfl, (Below.refl _ _).alloc (Nat.le_refl _) _, ?_⟩
      have := World.ownsRow_lit (base := w.heap.size) (e := 5) (size := 1) w (zeros k) k (Nat.le_refl _) (by unfold maxLen; omega) (by rw [zeros_size]; omega)
      rw [zeros_list] at this
      have e0 : putRow n k 0 = List.replicate k (byteV 0) := by simp [putRow, putB]
      rw [e0]; exact this
    case round =>
      obtain ⟨j, hj, rfl, hb, hown⟩ := hrel
      by_cases hlt : j < k
      · have hc := hown.cellAt (k - 1 - j) (by omega)
        have hf := hown.frozenAt (k - 1 - j)
        rw [List.getElem?_eq_getElem (by rw [putRow_len n k j hj]; omega)] at hc
        have hs := hown.stored (k - 1 - j) (byteV (UInt8.ofNat (n / 2 ^ (8 * j))))
        rw [putRow_set n k j hlt, byteV_ofNat] at hs
        have HS := Lib.hid hs.1
        clear hs
        go_wp2
        go_roundw
        case rel => exact ⟨j + 1, by omega, by go_num, hb.setCell (Nat.le_refl _) _, by simpa using HS.out⟩
        case measure => simp [intOf]; omega
      · obtain rfl : j = k := by omega
        have e1 : putRow n j j = (putB n j).map byteV := by simp [putRow]
        rw [e1] at hown
        have hcv := own_string hown
        go_wp2
        go_ret2
        exact ⟨rfl, hb⟩
theorem put_ok (n k : Int) (w : World) (hk : 0 ≤ k) (hk8 : k ≤ 8) (hn0 : 0 ≤ n) (hn : n < 2 ^ (8 * k.toNat)) (hn2 : n < 18446744073709551616) : Calls Tryd.prog 15 #[.int .u64 n, .int .i64 k] w fun e w' =>
    e = .returned (.tuple #[.string ⟨(putB n.toNat k.toNat).toArray⟩, .nilIface]) ∧ Below w.heap.size w w' := by
  obtain ⟨m, rfl⟩ := Int.eq_ofNat_of_zero_le hn0
  obtain ⟨j, rfl⟩ := Int.eq_ofNat_of_zero_le hk
  simp only [Int.toNat_natCast] at hn ⊢
  exact put_loop m j w (by omega) (by exact_mod_cast hn) (by omega)
theorem put_range (n k : Int) (w : World) (hk : k < 0 ∨ 8 < k) : Calls Tryd.prog 15 #[.int .u64 n, .int .i64 k] w fun e w' =>
    e = .returned (.tuple #[.string ⟨#[]⟩, errv 2]) ∧ w = w' := by
  by_cases h : k < 0
  · go_enter Tryd.func15, Tryd.ntmps15
    go_wp2
    go_ret2
    exact ⟨rfl, rfl⟩
  · have h8 : 8 < k := by omega
    clear hk
    go_enter Tryd.func15, Tryd.ntmps15
    go_wp2
    go_ret2
    exact ⟨rfl, rfl⟩
theorem put_limit (n k : Int) (w : World) (hk : 0 ≤ k) (hk8 : k < 8) (hn0 : 0 ≤ n) (hn : 2 ^ (8 * k.toNat) ≤ n) (hn2 : n < 18446744073709551616) : Calls Tryd.prog 15 #[.int .u64 n, .int .i64 k] w fun e w' =>
    e = .returned (.tuple #[.string ⟨#[]⟩, errv 4]) ∧ w = w' := by
  obtain ⟨m, rfl⟩ := Int.eq_ofNat_of_zero_le hn0
  obtain ⟨j, rfl⟩ := Int.eq_ofNat_of_zero_le hk
  simp only [Int.toNat_natCast] at hn
  have f0 : ((m : Int) / 2 ^ (8 * j) != 0) = true := by
    have h1 : 2 ^ (8 * j) ≤ m := by exact_mod_cast hn
    have h2 : 0 < m / 2 ^ (8 * j) := Nat.div_pos h1 (Nat.two_pow_pos _)
    rw [bne_iff_ne]
    have : m / 2 ^ (8 * j) ≠ 0 := by omega
    exact_mod_cast this
  clear hn hn2
  go_enter Tryd.func15, Tryd.ntmps15
  go_wp2
  go_ret2
  exact ⟨rfl, rfl⟩
end Go.Proofs.YtfdbbfladgepgaaDoor
