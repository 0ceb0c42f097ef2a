/- The contract of binary.Hex. -/
import Derived.Test.YtlbojhmhcaecjaaDoorMem
import Derived.Deep.RegionLaw
import Derived.Lib.SlBytesConst
import Derived.Test.YtlbojhmhcaecjaaDoorBinDefs
namespace Go.Proofs.YtlbojhmhcaecjaaDoor
open Go.ChangeShapes Go.WideShapes Go.ChangeAt Go.RowKit
set_option linter.unusedVariables false
theorem const_bytes (w : World) (l : List UInt8) (C : Array Value) (hC : C = (l.map byteV).toArray) (n : Nat) (hn : n = l.length) (hl : l.length ≤ maxLen) :
    BRow (w.alloc (.cells C 5 (C.size, C.size + 1))) w.heap.size (.slice (some ⟨w.heap.size, 0, none⟩) n n) l := by
  subst hC; subst hn
  refine ⟨by simp, .inr ⟨w.heap.size, l.length, _, rfl, Nat.le_refl _, BlkM.new w _ _ _ _ (Nat.le_refl _), Nat.le_refl _, hl, by simp, ?_⟩⟩
  rw [Nat.mul_one]; exact List.take_of_length_le (by simp)
set_option maxRecDepth 20000 in
theorem hex_at (n : Nat) (hn : n < 16) (w : World) : (Instr.index 9 (.string ⟨#[48, 49, 50, 51, 52, 53, 54, 55, 56, 57, 97, 98, 99, 100, 101, 102]⟩) (.int .u8 (n : Int))).run Tryd.prog w = .ok (.int .u8 ((hexd n).toNat : Int)) w := by
  have h : ∀ m : Fin 16, (Instr.index 9 (.string ⟨#[48, 49, 50, 51, 52, 53, 54, 55, 56, 57, 97, 98, 99, 100, 101, 102]⟩) (.int .u8 ((m.val : Nat) : Int))).run Tryd.prog w = .ok (.int .u8 ((hexd m.val).toNat : Int)) w := by
    intro m
    match m with
    | ⟨0, _⟩ => rfl
    | ⟨1, _⟩ => rfl
    | ⟨2, _⟩ => rfl
    | ⟨3, _⟩ => rfl
    | ⟨4, _⟩ => rfl
    | ⟨5, _⟩ => rfl
    | ⟨6, _⟩ => rfl
    | ⟨7, _⟩ => rfl
    | ⟨8, _⟩ => rfl
    | ⟨9, _⟩ => rfl
    | ⟨10, _⟩ => rfl
    | ⟨11, _⟩ => rfl
    | ⟨12, _⟩ => rfl
    | ⟨13, _⟩ => rfl
    | ⟨14, _⟩ => rfl
    | ⟨15, _⟩ => rfl
    | ⟨m + 16, h⟩ => exact absurd h (by omega)
  exact h ⟨n, hn⟩
theorem and15_u8 (c : Nat) (hc : c < 256) : bits .and .u8 (c : Int) 15 = ((c % 16 : Nat) : Int) := by
  have := u8_and_nat c 15 hc (by decide)
  rw [show (15 : Nat) = 2 ^ 4 - 1 from rfl, Nat.and_two_pow_sub_one_eq_mod] at this
  exact this
theorem hex_any (s : ByteArray) (w : World) (hs : s.size ≤ 35184372088832) : Calls Tryd.prog 28 #[.string s] w fun e w' => e = .returned (.string ⟨(hexL s.data.toList).toArray⟩) ∧ Below w.heap.size w w' := by
  have kc := fun (w : World) (C : Array Value) (n c : Nat) => Lib.run_convert_bytes_const (P := Tryd.prog) w 80 5 C n c Tryd.underlying80 Tryd.underlying5
  go_enter Tryd.func28, Tryd.ntmps28
  go_wp2
  have hB0 := const_bytes w [48, 120] #[.int .u8 48, .int .u8 120] rfl 2 rfl (by decide)
  have hb0 : Below w.heap.size w (w.alloc (.cells #[.int .u8 48, .int .u8 120] 5 (2, 3))) := (Below.refl _ _).alloc (Nat.le_refl _) _
  clear kc
  go_loopw [3, 9] (fun v i wr => ∃ k : Nat, k ≤ s.size ∧ i = .int .i64 k ∧ Below w.heap.size w wr ∧ BRow wr w.heap.size v (hexL (s.data.toList.take k))) (fun _ i _ => s.size - (intOf i).toNat)
  case atStart => exact ⟨0, Nat.zero_le _, rfl, hb0, hB0⟩
  case round =>
    obtain ⟨k, hk, rfl, hbw, hB⟩ := hrel
    by_cases hlt : k < s.size
    · have hc := s[k].toNat_lt
      have i1 : ∀ w, (Instr.index 9 (.string ⟨#[48, 49, 50, 51, 52, 53, 54, 55, 56, 57, 97, 98, 99, 100, 101, 102]⟩) (.int .u8 ((s[k].toNat : Int) / 16))).run Tryd.prog w = .ok (.int .u8 ((hexd (s[k].toNat / 16)).toNat : Int)) w := fun w => hex_at (s[k].toNat / 16) (by omega) w
      have i2 : ∀ w, (Instr.index 9 (.string ⟨#[48, 49, 50, 51, 52, 53, 54, 55, 56, 57, 97, 98, 99, 100, 101, 102]⟩) (.int .u8 ((s[k].toNat : Int) % 16))).run Tryd.prog w = .ok (.int .u8 ((hexd (s[k].toNat % 16)).toNat : Int)) w := fun w => hex_at (s[k].toNat % 16) (by omega) w
      have e1 : bits .and .u8 (s[k].toNat : Int) 15 = (s[k].toNat : Int) % 16 := and15_u8 s[k].toNat hc
      go_wp2
      have hs1 := hbw.size
      have hln : (hexL (s.data.toList.take k)).length ≤ 140737488355300 := by rw [hexL_len, List.length_take, len_of]; omega
      go_region_law (refine step_append_bytes _ rfl _ _ rfl w.heap.size _ (hexL (s.data.toList.take k)) rfl (by first | exact hB.alloc _ | exact (hB.alloc _).drew | exact hB.drew.alloc _) ⟨wr.heap.size, 0, none⟩ [hexd (s[k].toNat / 16), hexd (s[k].toNat % 16)] 2 2 rfl rfl (lit_cells _ _ _ _ rfl) (by simp; omega) (by simp; omega) (by first | exact hbw.alloc hs1 _ | exact (hbw.alloc hs1 _).drew | exact hbw.drew.alloc hs1 _) ?_; intro v1 w1 hB1 hb1 hg1)
      all_goals
        have HB1 := Lib.hid hB1
        clear hB1 hg1
        go_wp2
        go_roundw
        case rel =>
          refine ⟨k + 1, by omega, by go_num, hb1, ?_⟩
          have e2 : hexL (s.data.toList.take (k + 1)) = hexL (s.data.toList.take k) ++ [hexd (s[k].toNat / 16), hexd (s[k].toNat % 16)] := by
            rw [take_snoc_s s k hlt, hexL, hexB_snoc, hexL, List.append_assoc]
          rw [e2]
          exact HB1.out
        case measure => simp [intOf]; omega
    · have hcv := hB.string
      rw [take_all s k (by omega)] at hcv
      go_wp2
      go_ret
      exact ⟨rfl, hbw⟩
end Go.Proofs.YtlbojhmhcaecjaaDoor
