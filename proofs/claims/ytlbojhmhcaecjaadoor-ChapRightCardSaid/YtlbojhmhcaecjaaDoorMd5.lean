/- The contract of package md5: what Sum computes, in the very words of the code. -/
import Derived.Test.YtlbojhmhcaecjaaDoorMem
import Derived.Deep.RegionLaw
import Derived.RegionTactic
import Derived.ChangeAlike
namespace Go.Proofs.YtlbojhmhcaecjaaDoor
open Go.ChangeShapes Go.WideShapes Go.ChangeAt Go.RowKit
set_option linter.unusedVariables false
/- 'RotateLeft32' by 1 to 31. -/
def rotI (x k : Int) : Int := bits .or .u32 (x * 2 ^ k.toNat % 4294967296) (x / 2 ^ (32 - k).toNat)
theorem rot_any (x k : Int) (w : World) (h0 : 0 ≤ x) (h1 : x < 4294967296) (hk : 1 ≤ k) (hk2 : k ≤ 31) : Calls Tryd.prog 82 #[.int .u32 x, .int .i64 k] w fun e w' => e = .returned (.int .u32 (rotI x k)) ∧ w = w' := by
  obtain ⟨j, rfl⟩ := Int.eq_ofNat_of_zero_le (show 0 ≤ k by omega)
  have e1 : bits .and .u64 (j : Int) 31 = (j : Int) := by
    have := u64_and_nat j 31 (by omega) (by decide)
    rw [show (31 : Nat) = 2 ^ 5 - 1 from rfl, Nat.and_two_pow_sub_one_eq_mod, Nat.mod_eq_of_lt (by omega)] at this
    exact this
  have HE := Lib.hid (show rotI x j = bits .or .u32 (x * 2 ^ j % 4294967296) (x / 2 ^ (32 - j)) from by
    unfold rotI; rw [Int.toNat_natCast, show ((32 : Int) - j).toNat = 32 - j from by omega])
  go_enter Tryd.func82, Tryd.ntmps82
  go_wp2
  go_ret
  refine ⟨ret_int ?_, rfl⟩
  rw [HE.out]
/- The zeros that bring a text, and one byte more, to 56 of 64. -/
def zerosN (n : Nat) : Nat := (55 + 64 - n % 64) % 64
def le64 (n : Nat) : Nat → List UInt8
  | 0 => []
  | i + 1 => le64 n i ++ [UInt8.ofNat (n / 2 ^ (8 * i))]
def md5Pad (l : List UInt8) : List UInt8 := l ++ [128] ++ List.replicate (zerosN l.length) 0 ++ le64 (8 * l.length) 8
theorem md5Pad_len (l : List UInt8) : (md5Pad l).length % 64 = 0 := by
  simp [md5Pad, le64, zerosN]; omega
theorem padded_any5 (s : ByteArray) (w : World) (hs : s.size ≤ 70368744177664) : Calls Tryd.prog 81 #[.string s] w fun e w' => ∃ v, e = .returned v ∧ BRow w' w.heap.size v (md5Pad s.data.toList) ∧ Below w.heap.size w w' := by
  obtain ⟨cap, C, fr, hconv, hB0, hb0⟩ := bytes_brow w s (by unfold maxLen; omega)
  go_enter Tryd.func81, Tryd.ntmps81
  go_wp2_with (at_builtin; refine wpList_append_bytes _ rfl _ _ rfl w.heap.size _ s.data.toList rfl ?c0 ⟨w.heap.size + 1, 0, none⟩ [128] 1 1 rfl rfl ?c1 ?c2 ?c3 (w0 := w) ?c4 ?_)
  case c0 => exact hB0.alloc _
  case c1 =>
    have := lit_cells (w.alloc (.cells C 5 fr)) #[.int .u8 128] 5 [128] rfl
    rw [World.size_alloc] at this
    exact this
  case c2 => rw [len_of]; simp; omega
  case c3 => simp; omega
  case c4 => exact (((Below.refl _ _).alloc (Nat.le_refl _) _).alloc (by simp) _).drew
  intro v1 w1 hB1 hb1 hg1
  clear hB0 hb0 hg1 hconv
  go_wp2_with fail
  go_loopw [3] (fun v wr => ∃ j : Nat, j ≤ zerosN s.size ∧ Below w.heap.size w wr ∧ BRow wr w.heap.size v (s.data.toList ++ [128] ++ List.replicate j 0)) (fun v _ => s.size + 100 - sliceLen v)
  case atStart => exact ⟨0, Nat.zero_le _, hb1, by simpa using hB1⟩
  case round =>
    obtain ⟨j, hj, hbw, hB⟩ := hrel
    have hz : zerosN s.size < 64 := by unfold zerosN; omega
    have hs1 := hbw.size
    obtain ⟨L, hLe⟩ : ∃ L, s.data.toList ++ [128] ++ List.replicate j 0 = L := ⟨_, rfl⟩
    have hLl : L.length = s.size + 1 + j := by rw [← hLe]; simp; omega
    have hL0 : L ++ [0] = s.data.toList ++ [128] ++ List.replicate (j + 1) 0 := by rw [← hLe, List.replicate_succ']; simp
    rw [hLe] at hB
    have HL0 := Lib.hid hL0
    have HLe := Lib.hid hLe
    clear hL0 hLe
    obtain ⟨A, cp, rfl, hcp⟩ := MRow.form hB
    by_cases hlt : j < zerosN s.size
    · have f : ((L.length : Int) % 64 != 56) = true := by rw [bne_iff_ne]; unfold zerosN at hlt; omega
      have HLl := Lib.hid hLl
      have hLb : L.length ≤ 70368744178000 := by omega
      clear hLl hcp
      go_wp2_with (at_builtin; refine wpList_append_bytes _ rfl _ _ rfl w.heap.size _ L rfl ?c0 ⟨wr.heap.size, 0, none⟩ [0] 1 1 rfl rfl ?c1 ?c2 ?c3 (w0 := w) ?c4 ?_)
      case c0 => exact hB.alloc _
      case c1 => exact lit_cells wr #[.int .u8 0] 5 [0] rfl
      case c2 => simp; omega
      case c3 => simp; omega
      case c4 => exact hbw.alloc hs1 _
      intro v2 w2 hB2 hb2 hg2
      clear hB hg2
      go_wp2_with fail
      go_roundw
      case rel => exact ⟨j + 1, by omega, hb2, by rw [← HL0.out]; exact hB2⟩
      case measure =>
        have e1 := hB2.len
        have e2 := HLl.out
        rw [e1, List.length_append]
        simp only [sliceLen, List.length_singleton]
        omega
    · have f : ((L.length : Int) % 64 != 56) = false := by rw [bne_eq_false_iff_eq]; unfold zerosN at *; omega
      have hj2 : j = zerosN s.size := by omega
      have hLb : L.length ≤ 70368744178000 := by omega
      have HJ := Lib.hid hj2
      have HLl := Lib.hid hLl
      clear hj2 hLl hcp hlt
      go_wp2_with fail
      clear f
      obtain ⟨wo, rfl⟩ : ∃ wo : World, wo = wr := ⟨_, rfl⟩
      go_loopw [3, 21] (fun v i wr => ∃ k : Nat, k ≤ 8 ∧ i = .int .i64 k ∧ Below w.heap.size w wr ∧ BRow wr w.heap.size v (L ++ le64 (8 * s.size) k)) (fun _ i _ => 8 - (intOf i).toNat)
      case atStart => exact ⟨0, by omega, rfl, hbw, by simpa [le64] using hB⟩
      case round =>
        obtain ⟨k, hk, rfl, hbq, hBq⟩ := hrel
        have hs2 := hbq.size
        have hle : ∀ n k, (le64 n k).length = k := by
          intro n k
          induction k with
          | zero => rfl
          | succ k ih => simp [le64, ih]
        by_cases hk8 : k < 8
        · have hb8 : (L ++ le64 (8 * s.size) k).length ≤ 70368744179000 := by rw [List.length_append, hle]; omega
          have HLE := Lib.hid hle
          clear hle
          go_wp2_with (at_builtin; refine wpList_append_bytes _ rfl _ _ rfl w.heap.size _ (L ++ le64 (8 * s.size) k) rfl ?c0 ⟨wr.heap.size, 0, none⟩ [UInt8.ofNat ((8 * s.size) / 2 ^ (8 * k))] 1 1 rfl rfl ?c1 ?c2 ?c3 (w0 := w) ?c4 ?_)
          case c0 => exact hBq.alloc _
          case c1 =>
            refine lit_cells wr _ 5 _ ?_
            have e : ((s.size : Int) * 8 / 2 ^ (8 * k)) = ((8 * s.size / 2 ^ (8 * k) : Nat) : Int) := by
              rw [Int.natCast_ediv, Int.natCast_mul, Int.mul_comm]; simp
            rw [e, ← byteV_ofNat]
            rfl
          case c2 => rw [List.length_singleton]; omega
          case c3 => simp; omega
          case c4 => exact hbq.alloc hs2 _
          intro v2 w2 hB2 hb2 hg2
          clear hBq hg2
          go_wp2_with fail
          go_roundw
          case rel => exact ⟨k + 1, by omega, by go_num, hb2, by rw [le64]; exact hB2⟩
          case measure => simp [intOf]; omega
        · obtain rfl : k = 8 := by omega
          go_wp2_with fail
          refine bodyPost_ret (results_tmp rfl _ _ _) rfl ⟨_, rfl, ?_, hbq⟩
          have e : L ++ le64 (8 * s.size) 8 = md5Pad s.data.toList := by
            rw [← HLe.out, HJ.out, md5Pad, len_of]
          rw [← e]
          exact hBq
end Go.Proofs.YtlbojhmhcaecjaaDoor
