/- The contract of binary.Base64. -/
import Derived.Test.YtlbojhmhcaecjaaDoorHex
namespace Go.Proofs.YtlbojhmhcaecjaaDoor
open Go.ChangeShapes Go.WideShapes Go.ChangeAt Go.RowKit
set_option linter.unusedVariables false
theorem i64_or_nat (a b : Nat) (ha : a < 9223372036854775808) (hb : b < 9223372036854775808) : bits .or .i64 (a : Int) (b : Int) = ((a ||| b : Nat) : Int) := by
  show IntKind.i64.wrap ((BitVec.ofInt 64 a ||| BitVec.ofInt 64 b).toNat : Int) = _
  have h : (a ||| b) < 2 ^ 63 := Nat.or_lt_two_pow (by omega) (by omega)
  have e1 : (BitVec.ofInt 64 (a : Int)).toNat = a := by rw [BitVec.toNat_ofInt]; simp; omega
  have e2 : (BitVec.ofInt 64 (b : Int)).toNat = b := by rw [BitVec.toNat_ofInt]; simp; omega
  rw [BitVec.toNat_or, e1, e2, IntKind.wrap_i64]
  omega
theorem i64_and_nat (a b : Nat) (ha : a < 9223372036854775808) (hb : b < 9223372036854775808) : bits .and .i64 (a : Int) (b : Int) = ((a &&& b : Nat) : Int) := by
  show IntKind.i64.wrap ((BitVec.ofInt 64 a &&& BitVec.ofInt 64 b).toNat : Int) = _
  have h : (a &&& b) ≤ a := Nat.and_le_left
  have e1 : (BitVec.ofInt 64 (a : Int)).toNat = a := by rw [BitVec.toNat_ofInt]; simp; omega
  have e2 : (BitVec.ofInt 64 (b : Int)).toNat = b := by rw [BitVec.toNat_ofInt]; simp; omega
  rw [BitVec.toNat_and, e1, e2, IntKind.wrap_i64]
  omega
theorem and_mask_i64 (a k : Nat) (ha : a < 9223372036854775808) (hk : k ≤ 62) : bits .and .i64 (a : Int) (((2 ^ k - 1 : Nat)) : Int) = ((a % 2 ^ k : Nat) : Int) := by
  have h : 2 ^ k ≤ 2 ^ 62 := Nat.pow_le_pow_right (by omega) hk
  rw [i64_and_nat a _ ha (by omega), Nat.and_two_pow_sub_one_eq_mod]
theorem or_add_i64 (a k c : Nat) (hc : c < 2 ^ k) (h : a * 2 ^ k + c < 9223372036854775808) : bits .or .i64 ((a : Int) * 2 ^ k) (c : Int) = ((a * 2 ^ k + c : Nat) : Int) := by
  have e1 : ((a : Int) * 2 ^ k) = ((a * 2 ^ k : Nat) : Int) := by simp
  rw [e1, i64_or_nat (a * 2 ^ k) c (by omega) (by omega), Nat.mul_comm a, ← Nat.two_pow_add_eq_or_of_lt hc]
def b64S : ByteArray := ⟨b64Tab.toArray⟩
theorem b64S_get : ∀ m : Fin 64, b64S[m.val]'(show m.val < 64 from m.isLt) = b64d m.val := by decide +kernel
set_option maxRecDepth 20000 in
theorem b64_at (n : Nat) (hn : n < 64) (w : World) : (Instr.index 9 (.string ⟨#[65, 66, 67, 68, 69, 70, 71, 72, 73, 74, 75, 76, 77, 78, 79, 80, 81, 82, 83, 84, 85, 86, 87, 88, 89, 90, 97, 98, 99, 100, 101, 102, 103, 104, 105, 106, 107, 108, 109, 110, 111, 112, 113, 114, 115, 116, 117, 118, 119, 120, 121, 122, 48, 49, 50, 51, 52, 53, 54, 55, 56, 57, 43, 47]⟩) (.int .i64 (n : Int))).run Tryd.prog w = .ok (.int .u8 ((b64d n).toNat : Int)) w := by
  have h := run_index_string (P := Tryd.prog) w 9 b64S .i64 (n : Int) Tryd.underlying9
  have hz : b64S.size = 64 := rfl
  rw [dif_pos ⟨by omega, by rw [hz]; omega⟩] at h
  refine h.trans ?_
  have e : b64S[(n : Int).toNat]'(by rw [hz]; omega) = b64d n := by
    exact b64S_get ⟨n, hn⟩
  rw [e]
theorem n3_lt (l : List UInt8) : n3 l < 16777216 := by
  have h0 := (l.getD 0 0).toNat_lt
  have h1 := (l.getD 1 0).toNat_lt
  have h2 := (l.getD 2 0).toNat_lt
  unfold n3
  omega
def nv (l : List UInt8) (j : Nat) : Nat := n3 l / 256 ^ (3 - j)
theorem nv_succ (l : List UInt8) (j : Nat) (h : j < 3) : nv l (j + 1) = nv l j * 256 + (l.getD j 0).toNat ∧ nv l j < 65536 := by
  have h0 := (l.getD 0 0).toNat_lt
  have h1 := (l.getD 1 0).toNat_lt
  have h2 := (l.getD 2 0).toNat_lt
  unfold nv n3
  obtain rfl | rfl | rfl : j = 0 ∨ j = 1 ∨ j = 2 := by omega
  all_goals simp only [Nat.reduceAdd, Nat.reduceSub, Nat.reducePow, Nat.zero_add, Nat.sub_zero, Nat.sub_self, Nat.pow_zero]
  all_goals omega
theorem getD_drop (s : ByteArray) (p j : Nat) (h : p + j < s.size) : (s.data.toList.drop p).getD j 0 = s[p + j] := by
  rw [List.getD_eq_getElem?_getD, List.getElem?_drop, List.getElem?_eq_getElem (by rw [len_of]; exact h)]
  rfl
theorem getD_none (l : List UInt8) (j : Nat) (h : l.length ≤ j) : l.getD j 0 = 0 := by
  rw [List.getD_eq_getElem?_getD, List.getElem?_eq_none h]; rfl
theorem grp_take (l : List UInt8) (j : Nat) (h : j < 4) : (grp l).take (j + 1) = (grp l).take j ++ [grpAt l j] := by
  rw [List.take_succ_eq_append_getElem (by rw [grp_len]; exact h)]
  simp [grp]
set_option maxRecDepth 20000 in
set_option maxHeartbeats 1000000 in
theorem base64_any (s : ByteArray) (w : World) (hs : s.size ≤ 35184372088832) : Calls Tryd.prog 29 #[.string s] w fun e w' => e = .returned (.string ⟨(b64L s.data.toList).toArray⟩) ∧ Below w.heap.size w w' := by
  have kc := fun (w : World) (C : Array Value) (n c : Nat) => Lib.run_convert_bytes_const (P := Tryd.prog) w 80 5 C n c Tryd.underlying80 Tryd.underlying5
  go_enter Tryd.func29, Tryd.ntmps29
  go_wp2
  have hB0 := const_bytes w [48, 98] #[.int .u8 48, .int .u8 98] rfl 2 rfl (by decide)
  have hb0 : Below w.heap.size w (w.alloc (.cells #[.int .u8 48, .int .u8 98] 5 (2, 3))) := (Below.refl _ _).alloc (Nat.le_refl _) _
  clear kc
  go_loopw [3, 4] (fun v a wr => ∃ (p f : Nat) (acc : List UInt8), p ≤ s.size + 2 ∧ s.size - p ≤ f ∧ 3 * acc.length ≤ 6 + 4 * p ∧ a = .int .i64 p ∧ Below w.heap.size w wr ∧ BRow wr w.heap.size v acc ∧ b64L s.data.toList = acc ++ b64F f (s.data.toList.drop p)) (fun _ a _ => s.size + 3 - (intOf a).toNat)
  case atStart => exact ⟨0, s.size, [48, 98], by omega, by omega, by simp, rfl, hb0, hB0, by rw [b64L, b64B, len_of, List.drop_zero]⟩
  case round =>
    obtain ⟨p, f, acc, hp, hf, hal, rfl, hbw, hB, htot⟩ := hrel
    have HT := Lib.hid htot
    clear htot hb0 hB0
    by_cases hlt : p < s.size
    · obtain ⟨f, rfl⟩ : ∃ f', f = f' + 1 := ⟨f - 1, by omega⟩
      obtain ⟨L, hL⟩ : ∃ L, s.data.toList.drop p = L := ⟨_, rfl⟩
      have hLl : L.length = s.size - p := by rw [← hL]; simp
      have hz : b64F (f + 1) L = grp L ++ b64F f (L.drop 3) := by rw [b64F, if_neg (by omega)]
      have HZ := Lib.hid hz
      have HL := Lib.hid hL
      have HLl := Lib.hid hLl
      clear hz hL hLl
      go_wp2
      obtain ⟨wo, rfl⟩ : ∃ wo : World, wo = wr := ⟨_, rfl⟩
      go_loop [5, 17] (fun n i => ∃ j m : Nat, j ≤ 3 ∧ i = .int .i64 j ∧ n = .int .i64 m ∧ m = nv L j) (fun _ i => 3 - (intOf i).toNat)
      case atStart => exact ⟨0, 0, by omega, rfl, rfl, by have := n3_lt L; unfold nv; omega⟩
      case round =>
        obtain ⟨j, m, hj, rfl, rfl, hm⟩ := hrel
        by_cases hj3 : j < 3
        · obtain ⟨hv1, hv2⟩ := nv_succ L j hj3
          rw [← hm] at hv1 hv2
          have HV := Lib.hid hv1
          clear hm hv1
          by_cases hin : p + j < s.size
          · have hg := getD_drop s p j hin
            rw [HL.out] at hg
            have HG := Lib.hid hg
            have hc := s[p + j].toNat_lt
            have eo : bits .or .i64 ((m : Int) * 256) (s[p + j].toNat : Int) = ((m * 256 + s[p + j].toNat : Nat) : Int) := or_add_i64 m 8 _ hc (by omega)
            clear hg
            go_wp2
            go_round
            case rel => exact ⟨j + 1, m * 256 + s[p + j].toNat, by omega, by go_num, rfl, by rw [HV.out, HG.out]⟩
            case measure => simp [intOf]; omega
          · have hg := getD_none L j (by rw [HLl.out]; omega)
            have HG := Lib.hid hg
            clear hg
            go_wp2
            go_round
            case rel => exact ⟨j + 1, m * 256, by omega, by go_num, by go_num, by rw [HV.out, HG.out]; simp⟩
            case measure => simp [intOf]; omega
        · obtain rfl : j = 3 := by omega
          have hm2 : m = n3 L := by rw [hm]; unfold nv; simp
          have hml := n3_lt L
          rw [← hm2] at hml
          have HM := Lib.hid hm2
          clear hm hm2
          go_wp2
          go_loopw [3, 37] (fun v i wr => ∃ j : Nat, j ≤ 4 ∧ i = .int .i64 j ∧ Below w.heap.size w wr ∧ BRow wr w.heap.size v (acc ++ (grp L).take j)) (fun _ i _ => 4 - (intOf i).toNat)
          case atStart => exact ⟨0, by omega, rfl, hbw, by simpa using hB⟩
          case round =>
            obtain ⟨j, hj, rfl, hbq, hBq⟩ := hrel
            clear hbw hB
            have hs2 := hbq.size
            have hll : (acc ++ (grp L).take j).length ≤ 140737488355000 := by rw [List.length_append, List.length_take, grp_len]; omega
            obtain ⟨R, hR⟩ : ∃ R, acc ++ (grp L).take j = R := ⟨_, rfl⟩
            rw [hR] at hBq hll
            have HR := Lib.hid hR
            clear hR
            by_cases hj4 : j < 4
            · have hgt := grp_take L j hj4
              have HGT := Lib.hid hgt
              clear hgt
              obtain ⟨d, hde⟩ : ∃ d, m / 2 ^ (18 - 6 * j) % 64 = d := ⟨_, rfl⟩
              have hd : d < 64 := by rw [← hde]; exact Nat.mod_lt _ (by decide)
              have e1 : bits .and .i64 ((m : Int) / 2 ^ (18 - 6 * j)) 63 = (d : Int) := by
                have h := and_mask_i64 (m / 2 ^ (18 - 6 * j)) 6 (by have := Nat.div_le_self m (2 ^ (18 - 6 * j)); omega) (by omega)
                have e : (((m / 2 ^ (18 - 6 * j) : Nat)) : Int) = (m : Int) / 2 ^ (18 - 6 * j) := by simp
                rw [e] at h
                rw [← hde]
                exact h
              have i1 := fun w => b64_at d hd w
              have HDE := Lib.hid hde
              clear hde
              by_cases hov : s.size < p + j
              · have hch : grpAt L j = 61 := by rw [grpAt, if_pos (by rw [HLl.out]; omega)]
                have HCH := Lib.hid hch
                clear hch
                go_wp2_with (at_builtin; refine wpList_append_bytes _ rfl _ _ rfl w.heap.size _ R rfl ?c0 ⟨wr.heap.size, 0, none⟩ [61] 1 1 rfl rfl ?c1 ?c2 ?c3 (w0 := w) ?c4 ?_)
                case c0 => exact hBq.alloc _
                case c1 => exact fun j u hu => hu
                case c2 => first | omega | (simp; omega)
                case c3 => first | omega | (simp; omega)
                case c4 => exact hbq.alloc hs2 _
                intro v2 w2 hB2 hb2 hg2
                clear hBq hg2
                go_wp2_with fail
                go_roundw
                case rel => exact ⟨j + 1, by omega, by go_num, hb2, by rw [HGT.out, HCH.out, ← List.append_assoc, HR.out]; exact hB2⟩
                case measure => simp [intOf]; omega
              · have hch : grpAt L j = b64d d := by rw [grpAt, if_neg (by rw [HLl.out]; omega), ← HM.out, HDE.out]
                have HCH := Lib.hid hch
                clear hch
                go_wp2_with (at_builtin; refine wpList_append_bytes _ rfl _ _ rfl w.heap.size _ R rfl ?c0 ⟨wr.heap.size, 0, none⟩ [b64d d] 1 1 rfl rfl ?c1 ?c2 ?c3 (w0 := w) ?c4 ?_)
                case c0 => exact hBq.alloc _
                case c1 => exact fun j u hu => hu
                case c2 => first | omega | (simp; omega)
                case c3 => first | omega | (simp; omega)
                case c4 => exact hbq.alloc hs2 _
                intro v2 w2 hB2 hb2 hg2
                clear hBq hg2
                go_wp2_with fail
                go_roundw
                case rel => exact ⟨j + 1, by omega, by go_num, hb2, by rw [HGT.out, HCH.out, ← List.append_assoc, HR.out]; exact hB2⟩
                case measure => simp [intOf]; omega
            · obtain rfl : j = 4 := by omega
              have e4 : (grp L).take 4 = grp L := List.take_of_length_le (by rw [grp_len]; exact Nat.le_refl _)
              have hR4 := HR.out
              rw [e4] at hR4
              subst hR4
              clear e4 hll HR
              go_wp2_with fail
              go_roundw
              case rel =>
                refine ⟨p + 3, f, acc ++ grp L, by omega, by omega, by rw [List.length_append, grp_len]; omega, by go_num, hbq, hBq, ?_⟩
                rw [HT.out, HL.out, HZ.out, ← HL.out, List.drop_drop, List.append_assoc]
              case measure => simp [intOf]; omega
    · have hz : b64L s.data.toList = acc := by
        rw [HT.out, List.drop_eq_nil_of_le (by rw [len_of]; omega)]
        cases f <;> simp [b64F]
      have hcv := hB.string
      rw [← hz] at hcv
      have HZ := Lib.hid hz
      clear hz
      go_wp2
      go_ret
      exact ⟨rfl, hbw⟩
end Go.Proofs.YtlbojhmhcaecjaaDoor
