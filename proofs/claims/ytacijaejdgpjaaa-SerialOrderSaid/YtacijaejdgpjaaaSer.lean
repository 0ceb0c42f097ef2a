/- What serial.Before, After, Within and the law's helpers return, of whatever numbers; and the plain laws of numbers that go round. -/
import Derived.Test.YtacijaejdgpjaaaRows
import Derived.WalkKit
import Derived.ProofKit
import Derived.OpenShut
import Derived.Lib.Hide
import Derived.Laws.Bits64
namespace Go.Proofs.Ytacijaejdgpjaaa
open Go.ChangeShapes Go.WideShapes Go.ChangeAt Go.RowKit
set_option linter.unusedVariables false

theorem ret_bool {a b : Bool} (h : a = b) : Ending.returned (.bool a) = .returned (.bool b) := by rw [h]
theorem ret_int {k : IntKind} {a b : Int} (h : a = b) : Ending.returned (.int k a) = .returned (.int k b) := by rw [h]
def u32w (n : Int) : Int := n % 4294967296
def beforeB (a b : Int) : Bool := a != b && decide (u32w (b - a) < 2147483648)
def afterI (a n : Int) : Int := u32w (a + n)
def pickI (a n : Int) : Int := (a % 18446744073709551616) % n
def withinB (n a b : Int) : Bool := decide (u32w (n - a) ≤ u32w (b - a)) && (u32w (b + 1) != a)
theorem pick_eq (a n : Int) (hn : 1 ≤ n) (hn2 : n < 9223372036854775808) : wrap64 ((IntKind.u64.wrap a).tmod n) = pickI a n := by
  have h0 : IntKind.u64.wrap a = a % 18446744073709551616 := by exact IntKind.wrap_u64 a
  have h1 : (0 : Int) ≤ a % 18446744073709551616 := Int.emod_nonneg _ (by decide)
  rw [h0, Int.tmod_eq_emod_of_nonneg h1]
  have h2 := Int.emod_nonneg (a % 18446744073709551616) (show n ≠ 0 by omega)
  have h3 := Int.emod_lt_of_pos (a % 18446744073709551616) (show 0 < n by omega)
  unfold wrap64 pickI
  omega
theorem pick_rng (a n : Int) (hn : 1 ≤ n) : 0 ≤ pickI a n ∧ pickI a n < n :=
  ⟨Int.emod_nonneg _ (by omega), Int.emod_lt_of_pos _ (by omega)⟩
theorem xor_far (a b : Nat) (ha : a < 4294967296) (hb : b < 4294967296) : (a ^^^ b = 2147483648) ↔ (a + 2147483648 = b ∨ b + 2147483648 = a) := by
  have key : a ^^^ b = 2147483648 ↔ (a % 2147483648 = b % 2147483648 ∧ ((a / 2147483648) ^^^ (b / 2147483648)) = 1) := by
    have hm : (a ^^^ b) % 2 ^ 31 = (a % 2 ^ 31) ^^^ (b % 2 ^ 31) := Nat.xor_mod_two_pow
    have hd : (a ^^^ b) / 2 ^ 31 = (a / 2 ^ 31) ^^^ (b / 2 ^ 31) := Nat.xor_div_two_pow
    simp only [Nat.reducePow] at hm hd
    constructor
    · intro h
      rw [h] at hm hd
      simp only [Nat.reduceMod, Nat.reduceDiv] at hm hd
      refine ⟨?_, hd.symm⟩
      have h3 := congrArg (· ^^^ (b % 2147483648)) hm
      simp only [Nat.xor_assoc, Nat.xor_self, Nat.xor_zero, Nat.zero_xor] at h3
      exact h3.symm
    · rintro ⟨h1, h2⟩
      rw [h1, Nat.xor_self] at hm
      rw [h2] at hd
      omega
  rw [key]
  have h1 : a / 2147483648 = 0 ∨ a / 2147483648 = 1 := by omega
  have h2 : b / 2147483648 = 0 ∨ b / 2147483648 = 1 := by omega
  rcases h1 with h1 | h1 <;> rcases h2 with h2 | h2 <;> rw [h1, h2] <;> simp <;> omega
theorem order_or (a b : Int) (h1 : 0 ≤ a) (h2 : a < 4294967296) (h3 : 0 ≤ b) (h4 : b < 4294967296) :
    (beforeB a b || beforeB b a) = (a != b && !(bits .xor .u32 a b == 2147483648)) := by
  rw [u32_xor a b h1 h2 h3 h4]
  have hx := xor_far a.toNat b.toNat (by omega) (by omega)
  have e : (((a.toNat ^^^ b.toNat : Nat) : Int) == 2147483648) = decide (a.toNat ^^^ b.toNat = 2147483648) := by
    rw [Bool.eq_iff_iff]; simp only [beq_iff_eq, decide_eq_true_eq]; omega
  rw [e, Bool.eq_iff_iff]
  simp only [beforeB, Bool.or_eq_true, Bool.and_eq_true, bne_iff_ne, decide_eq_true_eq, Bool.not_eq_true', decide_eq_false_iff_not, hx]
  unfold u32w; omega
theorem order_and (a b : Int) (h1 : 0 ≤ a) (h2 : a < 4294967296) (h3 : 0 ≤ b) (h4 : b < 4294967296) :
    (beforeB a b && beforeB b a) = false := by
  rw [Bool.eq_false_iff]
  simp only [beforeB, ne_eq, Bool.and_eq_true, bne_iff_ne, decide_eq_true_eq]
  unfold u32w; omega
theorem before_any (a b : Int) (w : World) : Calls Try.prog 13 #[.int .u32 a, .int .u32 b] w fun e w' => e = .returned (.bool (beforeB a b)) ∧ w = w' := by
  by_cases h : a = b
  · subst h
    go_enter Try.func13, Try.ntmps13
    go_wp2
    go_ret
    exact ⟨ret_bool (by simp [beforeB]), rfl⟩
  · go_enter Try.func13, Try.ntmps13
    go_wp2
    go_ret
    exact ⟨ret_bool rfl, rfl⟩
theorem rounded_any (w : World) : Calls Try.prog 12 #[] w fun e w' => e = .returned (.bool true) ∧ w = w' := by
  go_enter Try.func12, Try.ntmps12
  go_wp2
  go_ret
  exact ⟨rfl, rfl⟩
theorem after_any (a n : Int) (w : World) : Calls Try.prog 14 #[.int .u32 a, .int .i64 n] w fun e w' => e = .returned (.int .u32 (afterI a n)) ∧ w = w' := by
  go_enter Try.func14, Try.ntmps14
  go_wp2
  go_ret
  exact ⟨ret_int (by simp [afterI, u32w]), rfl⟩
theorem pick_any (a n : Int) (w : World) (hn : 1 ≤ n) (hn2 : n < 9223372036854775808) : Calls Try.prog 15 #[.int .i64 a, .int .i64 n] w fun e w' => e = .returned (.int .i64 (pickI a n)) ∧ w = w' := by
  go_enter Try.func15, Try.ntmps15
  go_wp2
  go_ret
  exact ⟨ret_int (pick_eq a n hn hn2), rfl⟩
theorem within_any (a b c : Int) (w : World) : Calls Try.prog 16 #[.int .u32 a, .int .u32 b, .int .u32 c] w fun e w' => e = .returned (.bool (withinB a b c)) ∧ w = w' := by
  go_enter Try.func16, Try.ntmps16
  go_wp2
  all_goals go_ret
  all_goals refine ⟨ret_bool ?_, rfl⟩
  · rename_i h
    rw [withinB, show decide (u32w (a - b) ≤ u32w (c - b)) = true from decide_eq_true h]
    rfl
  · rename_i h
    rw [withinB, show decide (u32w (a - b) ≤ u32w (c - b)) = false from decide_eq_false (by unfold u32w; omega)]
    rfl
theorem orderWalk (a0 : Int) (a1 : Int) (h1 : 0 ≤ a0) (h2 : a0 < 4294967296) (h3 : 0 ≤ a1) (h4 : a1 < 4294967296) (w : World) :
    Calls Try.prog 3 #[.int .u32 a0, .int .u32 a1] w fun e w' => e = .returned (.bool true) ∧ Grown w w' := by
  have H := Lib.hid (order_or a0 a1 h1 h2 h3 h4)
  have H2 := Lib.hid (order_and a0 a1 h1 h2 h3 h4)
  go_enter Try.func3, Try.ntmps3
  go_wp2_with (first | (go_at_call 12; refine (rounded_any _).mono ?_; rintro e w' ⟨rfl, rfl⟩) | (go_at_call 13; refine (before_any _ _ _).mono ?_; rintro e w' ⟨rfl, rfl⟩))
  all_goals go_ret
  all_goals refine ⟨ret_bool ?_, Grown.refl _⟩
  all_goals replace H := H.out
  all_goals replace H2 := H2.out
  all_goals simp_all
theorem after_law1 (a n m : Int) : (afterI (afterI a n) m == afterI a (wrap64 (n + m))) = true := by
  simp only [afterI, u32w, wrap64, beq_iff_eq]; omega
theorem after_law2 (a n : Int) (h1 : 0 ≤ a) (h2 : a < 4294967296) : (afterI (afterI a n) (wrap64 (-n)) == a) = true := by
  simp only [afterI, u32w, wrap64, beq_iff_eq]; omega
theorem after_law3 (a n : Int) (h1 : 0 ≤ a) (h2 : a < 4294967296) : (beforeB a (afterI a (pickI n 2147483648)) == decide (0 < pickI n 2147483648)) = true := by
  have h := pick_rng n 2147483648 (by omega)
  generalize pickI n 2147483648 = k at *
  rw [beq_iff_eq, Bool.eq_iff_iff]
  simp only [beforeB, Bool.and_eq_true, bne_iff_ne, decide_eq_true_eq]; unfold afterI u32w; omega
theorem afterWalk (a0 n m : Int) (h1 : 0 ≤ a0) (h2 : a0 < 4294967296) (w : World) :
    Calls Try.prog 4 #[.int .u32 a0, .int .i64 n, .int .i64 m] w fun e w' => e = .returned (.bool true) ∧ Grown w w' := by
  have H1 := Lib.hid (after_law1 a0 n m)
  have H2 := Lib.hid (after_law2 a0 n h1 h2)
  have H3 := Lib.hid (after_law3 a0 n h1 h2)
  go_enter Try.func4, Try.ntmps4
  go_wp2_with (first | (go_at_call 12; refine (rounded_any _).mono ?_; rintro e w' ⟨rfl, rfl⟩) | (go_at_call 13; refine (before_any _ _ _).mono ?_; rintro e w' ⟨rfl, rfl⟩) | (go_at_call 14; refine (after_any _ _ _).mono ?_; rintro e w' ⟨rfl, rfl⟩) | (go_at_call 15; refine (pick_any _ _ _ (by omega) (by omega)).mono ?_; rintro e w' ⟨rfl, rfl⟩))
  all_goals go_ret
  all_goals refine ⟨ret_bool ?_, Grown.refl _⟩
  all_goals replace H1 := H1.out
  all_goals replace H2 := H2.out
  all_goals replace H3 := H3.out
  all_goals simp_all
theorem within_law1 (a n k : Int) (h1 : 0 ≤ a) (h2 : a < 4294967296) : (withinB (afterI a (pickI k 4294967296)) a (afterI a (pickI n 4294967295)) == decide (pickI k 4294967296 ≤ pickI n 4294967295)) = true := by
  have h := pick_rng k 4294967296 (by omega)
  have h' := pick_rng n 4294967295 (by omega)
  generalize pickI k 4294967296 = k at *
  generalize pickI n 4294967295 = n at *
  rw [beq_iff_eq, Bool.eq_iff_iff]
  simp only [withinB, Bool.and_eq_true, bne_iff_ne, decide_eq_true_eq]; unfold afterI u32w; omega
theorem within_law2 (a k : Int) (h1 : 0 ≤ a) (h2 : a < 4294967296) : withinB (afterI a (pickI k 4294967296)) a (afterI a (-1)) = false := by
  rw [Bool.eq_false_iff]
  simp only [withinB, Bool.and_eq_true, bne_iff_ne, decide_eq_true_eq, ne_eq]; unfold afterI u32w; omega
theorem withinWalk (a0 n k : Int) (h1 : 0 ≤ a0) (h2 : a0 < 4294967296) (w : World) :
    Calls Try.prog 5 #[.int .u32 a0, .int .i64 n, .int .i64 k] w fun e w' => e = .returned (.bool true) ∧ Grown w w' := by
  have H1 := Lib.hid (within_law1 a0 n k h1 h2)
  have H2 := Lib.hid (within_law2 a0 k h1 h2)
  go_enter Try.func5, Try.ntmps5
  go_wp2_with (first | (go_at_call 12; refine (rounded_any _).mono ?_; rintro e w' ⟨rfl, rfl⟩) | (go_at_call 16; refine (within_any _ _ _ _).mono ?_; rintro e w' ⟨rfl, rfl⟩) | (go_at_call 14; refine (after_any _ _ _).mono ?_; rintro e w' ⟨rfl, rfl⟩) | (go_at_call 15; refine (pick_any _ _ _ (by omega) (by omega)).mono ?_; rintro e w' ⟨rfl, rfl⟩))
  all_goals go_ret
  all_goals refine ⟨ret_bool ?_, Grown.refl _⟩
  all_goals replace H1 := H1.out
  all_goals replace H2 := H2.out
  all_goals simp_all
end Go.Proofs.Ytacijaejdgpjaaa
