/- The contract of the laws' helper 'turned': a text with bits turned. -/
import Derived.Test.YtehellmpghfopaaGreatDoorTurnPlain
import Derived.RegionTactic
import Derived.ChangeAlike
namespace Go.Proofs.YtehellmpghfopaaGreatDoor
open Go.ChangeShapes Go.WideShapes Go.ChangeAt Go.RowKit
set_option linter.unusedVariables false
theorem xor_bit (c : UInt8) (r : Nat) (hr : r < 8) : bits .xor .u8 (c.toNat : Int) ((2 : Int) ^ r % 256) = ((c ^^^ bitB r).toNat : Nat) := by
  have h1 : 2 ^ r < 256 := Nat.pow_lt_pow_right (by omega) hr
  have h2 : ((2 : Int) ^ r % 256) = ((2 ^ r : Nat) : Int) := by
    have : ((2 ^ r : Nat) : Int) = (2 : Int) ^ r := by simp
    rw [← this]; exact Int.emod_eq_of_lt (Int.natCast_nonneg _) (Int.ofNat_lt.2 h1)
  rw [h2, u8_xor_nat _ _ c.toNat_lt h1, UInt8.toNat_xor]
  unfold bitB
  rw [UInt8.toNat_ofNat', Nat.mod_eq_of_lt h1]
theorem turned_any (s : ByteArray) (f b : Nat) (w : World) (hs : s.size ≤ 4611686018427387904) (hf : f ≤ 4611686018427387904) (hb : b < 4294967296) : Calls Tryz.prog 22 #[.string s, .int .i64 f, .int .u32 b] w fun e w' =>
    e = .returned (.string ⟨(turnedL s.data.toList f b 32).toArray⟩) ∧ Below w.heap.size w w' := by
  obtain ⟨cap, C, fr, hcap, hC, hfr, hconv⟩ := bytes_of w s
  have HC := Lib.hid hC
  clear hC
  go_enter Tryz.func22, Tryz.ntmps22
  go_wp2
  have hb0 : Below w.heap.size w (w.drew.alloc (.cells C 5 fr)) := (Below.refl _ _).drew.alloc (Nat.le_refl _) _
  have hB0 : BlkM (w.drew.alloc (.cells C 5 fr)) w.heap.size 5 C := BlkM.new w.drew _ _ _ _ hfr
  clear hconv
  go_loopw [12] (fun i wr => ∃ k : Nat, k ≤ 32 ∧ i = .int .i64 k ∧ Below w.heap.size w wr ∧ BlkM wr w.heap.size 5 ((turnedL s.data.toList f b k).map byteV ++ List.replicate (cap - s.size) (byteV 0)).toArray) (fun i _ => 32 - (intOf i).toNat)
  case atStart => exact ⟨0, by omega, rfl, hb0, by show BlkM _ _ _ (List.map byteV s.data.toList ++ List.replicate (cap - s.size) (byteV 0)).toArray; rw [← HC.out]; exact hB0⟩
  case round =>
    obtain ⟨k, hk, rfl, hbw, hB⟩ := hrel
    have hlen : (turnedL s.data.toList f b k).length = s.size := by rw [turnedL_len, len_of]
    by_cases hlt : k < 32
    · by_cases hbit : b.testBit k = true
      · have h1 : (bits .and .u32 ((b : Int) / 2 ^ k) 1 == 1) = true := by rw [bit_u32 b k hb, if_pos hbit]; rfl
        by_cases hin : (f + k) / 8 < s.size
        · obtain ⟨c, hcc, hst⟩ := turn_step s.data.toList f b k hbit (by rw [len_of]; exact hin)
          have hc := (hB.cell ((f + k) / 8)).trans (rowGet hcc)
          have hfz := hB.frozen ((f + k) / 8) (rowSize (by omega))
          have hput := hB.put ((f + k) / 8) (byteV (c ^^^ bitB ((f + k) % 8)))
          rw [rowSet _ (by omega), ← hst] at hput
          have HP := Lib.hid hput
          clear hput hlen hst hcc
          have hx := xor_bit c ((f + k) % 8) (Nat.mod_lt _ (by omega))
          have HX := Lib.hid hx
          clear hx
          go_wp2
          go_region
          go_wp2
          go_roundw
          case rel => exact ⟨k + 1, by omega, by go_num, (hbw.setCell (Nat.le_refl _) _).drew, by rw [HX.out]; exact HP.out⟩
          case measure => simp [intOf]; omega
        · have hst := Lib.hid (turn_skip s.data.toList f b k (by rw [len_of]; exact fun h => hin h.2))
          go_wp2
          go_roundw
          case rel => exact ⟨k + 1, by omega, by go_num, hbw, by rw [hst.out]; exact hB⟩
          case measure => simp [intOf]; omega
      · have h1 : (bits .and .u32 ((b : Int) / 2 ^ k) 1 == 1) = false := by rw [bit_u32 b k hb, if_neg hbit]; rfl
        have hst := Lib.hid (turn_skip s.data.toList f b k (fun h => hbit h.1))
        go_wp2
        go_roundw
        case rel => exact ⟨k + 1, by omega, by go_num, hbw, by rw [hst.out]; exact hB⟩
        case measure => simp [intOf]; omega
    · obtain rfl : k = 32 := by omega
      have hcv := blkM_string (cap := cap) hB
      rw [hlen] at hcv
      go_wp2
      go_ret
      exact ⟨rfl, hbw⟩
end Go.Proofs.YtehellmpghfopaaGreatDoor
