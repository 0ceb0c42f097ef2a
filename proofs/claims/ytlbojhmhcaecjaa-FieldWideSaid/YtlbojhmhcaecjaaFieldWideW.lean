/- The walk of the law FieldWide: it returns true, whatever its arguments. -/
import Derived.Test.YtlbojhmhcaecjaaFieldFact
import Derived.Test.YtlbojhmhcaecjaaShelf
namespace Go.Proofs.Ytlbojhmhcaecjaa
open Go.ChangeShapes Go.WideShapes Go.ChangeAt Go.RowKit
set_option linter.unusedVariables false
theorem put_wider (n m : Nat) (h : n < 2 ^ (8 * m)) : ∀ d, putB n (m + d) = List.replicate d 0 ++ putB n m
  | 0 => by simp
  | d + 1 => by
    have h0 : n / 2 ^ (8 * (m + d)) = 0 := Nat.div_eq_of_lt (Nat.lt_of_lt_of_le h (Nat.pow_le_pow_right (by decide) (by omega)))
    rw [show m + (d + 1) = (m + d) + 1 from rfl, putB, h0, put_wider n m h d, List.replicate_succ]
    rfl
theorem repeat_zero (c : Nat) (w : World) (h : c ≤ 8) : Calls Try.prog 10 #[.string ⟨#[0]⟩, .int .i64 c] w fun e w' => e = .returned (.string ⟨(List.replicate c (0 : UInt8)).toArray⟩) ∧ Below w.heap.size w w' := by
  refine (Try.strings_Repeat ⟨#[0]⟩ c w (by omega) (by show 1 * c ≤ _; omega)).mono ?_
  rintro e w' ⟨rfl, hb⟩
  have e : Lib.repeatL [0] c = List.replicate c 0 := by
    have := Lib.repeatL_replicate 0 1 c
    rw [Nat.mul_one] at this
    exact this
  exact ⟨by show Ending.returned (.string ⟨(Lib.repeatL [0] c).toArray⟩) = _; rw [e], hb⟩
set_option maxHeartbeats 2000000 in
theorem wideField (n a b : Int) (w : World) (hN : 0 ≤ n ∧ n ≤ 18446744073709551615) (ha : -9223372036854775808 ≤ a ∧ a ≤ 9223372036854775807) (hb : -9223372036854775808 ≤ b ∧ b ≤ 9223372036854775807) :
    Calls Try.prog 4 #[.int .u64 n, .int .i64 a, .int .i64 b] w fun e w' => e = .returned (.bool true) ∧ Below w.heap.size w w' := by
  obtain ⟨hn0, hn1⟩ := hN
  have hn2 : n < 18446744073709551616 := Int.lt_of_le_of_lt hn1 (by decide)
  clear ha hb hn1
  have pa := pick_rng a 9 (by omega)
  have pb := pick_rng b 9 (by omega)
  obtain ⟨A, hA⟩ := Int.eq_ofNat_of_zero_le pa.1
  obtain ⟨B, hB⟩ := Int.eq_ofNat_of_zero_le pb.1
  rw [hA] at pa
  rw [hB] at pb
  have hA8 : A ≤ 8 := by omega
  have hB8 : B ≤ 8 := by omega
  obtain ⟨m, hm⟩ : ∃ m, min A B = m := ⟨_, rfl⟩
  obtain ⟨M, hM⟩ : ∃ M, max A B = M := ⟨_, rfl⟩
  have em : min (A : Int) (B : Int) = (m : Int) := by omega
  have eM : max (A : Int) (B : Int) = (M : Int) := by omega
  have hmM : m ≤ M := by omega
  have hM8 : M ≤ 8 := by omega
  have HA := Lib.hid hA
  have HB := Lib.hid hB
  clear pa pb hA hB hm hM hA8 hB8
  have HEM := Lib.hid em
  have HEX := Lib.hid eM
  clear em eM
  have HN := Lib.hid (And.intro hn0 hn2)
  clear hn0 hn2
  go_enter Try.func4, Try.ntmps4
  go_wp2_with (first | (go_at_call 8; refine (put_fact _).mono ?_; rintro e w1 ⟨rfl, hb1⟩) | (go_at_call 5; refine (pick_any _ _ _ (by omega) (by omega)).mono ?_; rintro e w' ⟨rfl, rfl⟩; first | rw [HA.out] | rw [HB.out]))
  rw [HEM.out]
  have ev : errv 4 = .iface 51 (.int .i64 4) := rfl
  by_cases hl : n < 2 ^ (8 * (m : Int).toNat)
  · have hl2 : n < 2 ^ (8 * (M : Int).toNat) := Int.lt_of_lt_of_le hl (by
      have : (2 : Nat) ^ (8 * m) ≤ 2 ^ (8 * M) := Nat.pow_le_pow_right (by decide) (by omega)
      simp only [Int.toNat_natCast]
      exact_mod_cast this)
    have hln : n.toNat < 2 ^ (8 * m) := by
      have h0 := HN.out.1
      obtain ⟨k, rfl⟩ := Int.eq_ofNat_of_zero_le h0
      simp only [Int.toNat_natCast] at hl ⊢
      exact_mod_cast hl
    have hw := put_wider n.toNat m hln (M - m)
    rw [show m + (M - m) = M from by omega] at hw
    obtain ⟨S, hS⟩ : ∃ S : ByteArray, S = ⟨(putB n.toNat m).toArray⟩ := ⟨_, rfl⟩
    obtain ⟨T, hT⟩ : ∃ T : ByteArray, T = ⟨(putB n.toNat M).toArray⟩ := ⟨_, rfl⟩
    have hSz : S.size = m := by rw [hS, size_mkl, putB_len]
    have hTz : T.size = M := by rw [hT, size_mkl, putB_len]
    have hTS : T = ⟨(List.replicate (M - m) (0 : UInt8)).toArray⟩ ++ S := by rw [hT, hS, hw, cat_of]
    have f1 : (T.toList == ((⟨(List.replicate (M - m) (0 : UInt8)).toArray⟩ : ByteArray) ++ S).toList) = true := by rw [← hTS]; simp
    have ed : (T.size : Int) - min (T.size : Int) (S.size : Int) = ((M - m : Nat) : Int) := by rw [hSz, hTz]; omega
    have f2 : ((T.size : Int) == (M : Int)) = true := by rw [hTz]; simp
    have hsb : S.size ≤ 8 := by omega
    have htb : T.size ≤ 8 := by omega
    have HL := Lib.hid hl
    have HL2 := Lib.hid hl2
    have HS := Lib.hid hS
    have HT := Lib.hid hT
    have ED := Lib.hid ed
    clear hl hl2 hln hw hS hT hSz hTz hTS ed
    refine (put_ok _ _ _ (by omega) (by omega) HN.out.1 HL.out HN.out.2).mono ?_
    rintro e w2 ⟨rfl, hb2⟩
    rw [Int.toNat_natCast, ← HS.out]
    have hbw2 := below_step hb1 hb2
    go_wp2_with fail
    rw [HEX.out]
    refine (put_ok _ _ _ (by omega) (by omega) HN.out.1 HL2.out HN.out.2).mono ?_
    rintro e w3 ⟨rfl, hb3⟩
    rw [Int.toNat_natCast, ← HT.out]
    have hbw3 := below_step hbw2 hb3
    go_wp2_with fail
    rw [ED.out]
    refine (repeat_zero (M - m) _ (by omega)).mono ?_
    rintro e w4 ⟨rfl, hb4⟩
    have hbw4 := below_step hbw3 hb4
    obtain ⟨R, hR⟩ : ∃ R : ByteArray, (⟨(List.replicate (M - m) (0 : UInt8)).toArray⟩ : ByteArray) = R := ⟨_, rfl⟩
    have hRz : R.size ≤ 8 := by rw [← hR, size_mkl, List.length_replicate]; omega
    rw [hR] at f1 ⊢
    clear hR
    go_wp2_with fail
    go_ret
    refine ⟨ret_bool ?_, hbw4⟩
    rw [HEX.out]
    exact f2
  · have hm8 : m < 8 := by
      rcases Nat.lt_or_ge m 8 with h | h
      · exact h
      · exfalso
        have : m = 8 := by omega
        subst this
        exact hl HN.out.2
    refine (put_limit _ _ _ (by omega) (by omega) HN.out.1 (by omega) HN.out.2).mono ?_
    rintro e w2 ⟨rfl, rfl⟩
    rw [ev]
    go_wp2_with fail
    rw [HEX.out]
    by_cases hl2 : n < 2 ^ (8 * (M : Int).toNat)
    · refine (put_ok _ _ _ (by omega) (by omega) HN.out.1 hl2 HN.out.2).mono ?_
      rintro e w3 ⟨rfl, hb3⟩
      go_wp2_with fail
      go_ret
      exact ⟨rfl, below_step hb1 hb3⟩
    · have hM9 : M < 8 := by
        rcases Nat.lt_or_ge M 8 with h | h
        · exact h
        · exfalso
          have : M = 8 := by omega
          subst this
          exact hl2 HN.out.2
      refine (put_limit _ _ _ (by omega) (by omega) HN.out.1 (by omega) HN.out.2).mono ?_
      rintro e w3 ⟨rfl, rfl⟩
      rw [ev]
      go_wp2_with fail
      go_ret
      exact ⟨rfl, hb1⟩
end Go.Proofs.Ytlbojhmhcaecjaa
