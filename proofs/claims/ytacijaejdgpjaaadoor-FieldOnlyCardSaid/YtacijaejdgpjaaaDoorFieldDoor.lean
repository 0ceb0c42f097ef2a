/- The walks of the laws FieldBack and FieldOnly: they return true, whatever their arguments. -/
import Derived.Test.YtacijaejdgpjaaaDoorFieldFact
import Derived.Test.YtacijaejdgpjaaaDoorTell2
import Derived.Test.YtacijaejdgpjaaaDoorMem
namespace Go.Proofs.YtacijaejdgpjaaaDoor
open Go.ChangeShapes Go.WideShapes Go.ChangeAt Go.RowKit
set_option linter.unusedVariables false
theorem shr_ne (m j : Nat) : ((m : Int) / 2 ^ j != 0) = decide (2 ^ j ≤ m) := by
  have e : ((m : Int) / 2 ^ j) = ((m / 2 ^ j : Nat) : Int) := by simp
  rw [e, Bool.eq_iff_iff, bne_iff_ne, decide_eq_true_eq]
  have h : m / 2 ^ j ≠ 0 ↔ 2 ^ j ≤ m := by
    rw [Ne, Nat.div_eq_zero_iff]
    have := Nat.two_pow_pos j
    omega
  rw [← h]
  omega
theorem backField (n k : Int) (w : World) (hn : 0 ≤ n ∧ n ≤ 18446744073709551615) (hk : -9223372036854775808 ≤ k ∧ k ≤ 9223372036854775807) (hL : LaidE w) (hS : w.ShapedOpen Tryd.prog) :
    Calls Tryd.prog 3 #[.int .u64 n, .int .i64 k] w fun e w' => e = .returned (.bool true) ∧ Below w.heap.size w w' := by
  clear hS hk
  have hp := pick_rng k 9 (by omega)
  go_enter Tryd.func3, Tryd.ntmps3
  go_wp2_with fail
  refine (put_fact _).mono ?_
  rintro e w1 ⟨rfl, hb1⟩
  go_wp2_with fail
  refine (pick_any _ _ _ (by omega) (by omega)).mono ?_
  rintro e w' ⟨rfl, rfl⟩
  obtain ⟨j, hj⟩ := Int.eq_ofNat_of_zero_le hp.1
  rw [hj] at hp ⊢
  clear hj
  obtain ⟨m, rfl⟩ := Int.eq_ofNat_of_zero_le hn.1
  have HN := Lib.hid hn
  clear hn
  have hL1 := hL.on hb1
  by_cases hlim : j < 8 ∧ 2 ^ (8 * j) ≤ m
  · have f0 := shr_ne m (8 * j)
    rw [decide_eq_true hlim.2] at f0
    have h8 := hlim.1
    have H2 := Lib.hid hlim.2
    clear hlim
    have e4 : errv 4 = .iface 29 (.int .i64 4) := rfl
    go_wp2_with fail
    refine (put_limit _ _ _ (by omega) (by omega) HN.out.1 (by rw [Int.toNat_natCast]; exact_mod_cast H2.out) (Int.lt_of_le_of_lt HN.out.2 (by decide))).mono ?_
    rintro e w' ⟨rfl, rfl⟩
    go_wp2_with fail
    refine (tell_errno _ _ hL1).mono ?_
    rintro e w2 ⟨rfl, hb2⟩
    go_wp2_with fail
    go_ret
    exact ⟨rfl, below_step hb1 hb2⟩
  · have f0 := shr_ne m (8 * j)
    have hm : m < 2 ^ (8 * j) := by
      by_cases h8 : j < 8
      · exact Nat.lt_of_not_le fun h => hlim ⟨h8, h⟩
      · have e : j = 8 := by omega
        subst e
        have := HN.out.2
        have h2 : (2 : Nat) ^ (8 * 8) = 18446744073709551616 := by decide
        rw [h2]
        exact Int.ofNat_lt.1 (Int.lt_of_le_of_lt this (by decide))
    rw [decide_eq_false (by omega)] at f0
    have HM := Lib.hid hm
    clear hm hlim
    have g0 : getN (putB m j) = m := by rw [putB_get, Nat.mod_eq_of_lt HM.out]
    have g1 : (putB m j).length = j := putB_len m j
    by_cases h8 : j < 8
    all_goals
      go_wp2_with fail
      refine (put_ok _ _ _ (by omega) (by omega) HN.out.1 (by rw [Int.toNat_natCast]; exact_mod_cast HM.out) (Int.lt_of_le_of_lt HN.out.2 (by decide))).mono ?_
      rintro e w2 ⟨rfl, hb2⟩
      go_wp2_with fail
      refine (get_any _ _ (by simp [g1]; omega)).mono ?_
      rintro e w' ⟨rfl, rfl⟩
      go_wp2_with fail
      all_goals go_ret
      all_goals exact ⟨rfl, below_step hb1 hb2⟩
theorem onlyField (s : ByteArray) (w : World) (hs : s.size ≤ 140737488351232) (hL : LaidE w) (hS : w.ShapedOpen Tryd.prog) :
    Calls Tryd.prog 4 #[.string s] w fun e w' => e = .returned (.bool true) ∧ Below w.heap.size w w' := by
  clear hS
  have e4 : errv 4 = .iface 29 (.int .i64 4) := rfl
  go_enter Tryd.func4, Tryd.ntmps4
  go_wp2_with fail
  refine (put_fact _).mono ?_
  rintro e w1 ⟨rfl, hb1⟩
  have hL1 := hL.on hb1
  by_cases h50 : 50 < s.size
  · go_wp2_with fail
    go_ret
    exact ⟨rfl, hb1⟩
  · by_cases h8 : 8 < s.size
    · go_wp2_with fail
      refine (get_long _ _ h8).mono ?_
      rintro e w' ⟨rfl, rfl⟩
      go_wp2_with fail
      refine (tell_errno _ _ hL1).mono ?_
      rintro e w2 ⟨rfl, hb2⟩
      go_wp2_with fail
      go_ret
      exact ⟨rfl, below_step hb1 hb2⟩
    · have g0 := get_put s.data.toList
      rw [len_of] at g0
      have g1 := getN_lt s.data.toList
      rw [len_of] at g1
      have g2 : getN s.data.toList < 2 ^ (8 * s.size) := by
        have : (256 : Nat) ^ s.size = 2 ^ (8 * s.size) := by rw [Nat.pow_mul]
        rwa [← this]
      have g3 : getN s.data.toList < 18446744073709551616 := Nat.lt_of_lt_of_le g2 (by
        have : (2 : Nat) ^ (8 * s.size) ≤ 2 ^ 64 := Nat.pow_le_pow_right (by omega) (by omega)
        exact this)
      have G0 := Lib.hid g0
      have G2 := Lib.hid g2
      have G3 := Lib.hid g3
      clear g0 g1 g2 g3
      go_wp2_with fail
      refine (get_any _ _ (by omega)).mono ?_
      rintro e w' ⟨rfl, rfl⟩
      go_wp2_with fail
      refine (put_ok _ _ _ (by omega) (by omega) (by omega) (by rw [Int.toNat_natCast]; exact_mod_cast G2.out) (Int.ofNat_lt.2 G3.out)).mono ?_
      rintro e w2 ⟨rfl, hb2⟩
      have f : (putB (getN s.data.toList) s.size == s.toList) = true := by rw [G0.out, toList_of]; exact beq_self_eq_true _
      go_wp2_with fail
      all_goals go_ret
      all_goals exact ⟨rfl, below_step hb1 hb2⟩
end Go.Proofs.YtacijaejdgpjaaaDoor
