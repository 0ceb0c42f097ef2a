/- A number as the law writes it; picks. -/
import Derived.Test.YtadhlnpegigadaaGreatDoorKeysW1
import Derived.Lib.ItoaLen
namespace Go.Proofs.YtadhlnpegigadaaGreatDoor
open Go.ChangeShapes Go.WideShapes Go.ChangeAt Go.RowKit Go.Shelf
set_option linter.unusedVariables false
set_option linter.unusedSimpArgs false
theorem pickK (a : Int) (n : Nat) (k : Nat) (hk : pickI a n = k) (hn : 0 < n) (hn2 : n < 9223372036854775808) (w : World) : Calls Tryz.prog 20 #[.int .i64 a, .int .i64 n] w fun e w' => e = .returned (.int .i64 k) ∧ w = w' := by
  rw [← hk]
  exact pick_any a n w (by omega) (by omega)
theorem pickE (a : Int) (n : Nat) (hn : 0 < n) : ∃ k : Nat, pickI a n = k ∧ k < n := by
  have h := pick_rng a n (by omega)
  exact ⟨(pickI a n).toNat, by omega, by omega⟩
/- a number as the law writes it -/
theorem dec_big {n : Nat} (h : ¬ n < 10) : Lib.decDigits n = Lib.decDigits (n / 10) ++ Lib.decDigits (n % 10) := by
  rw [Lib.decDigits.eq_1 n, dif_neg h, Lib.decDigits_one (i := n % 10) (by omega)]
end Go.Proofs.YtadhlnpegigadaaGreatDoor
