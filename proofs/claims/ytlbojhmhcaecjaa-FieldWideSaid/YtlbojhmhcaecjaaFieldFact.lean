/- The fact 'put' of the laws of package field: it is true. -/
import Derived.Test.YtlbojhmhcaecjaaFieldPlain
namespace Go.Proofs.Ytlbojhmhcaecjaa
open Go.ChangeShapes Go.WideShapes Go.ChangeAt Go.RowKit
set_option linter.unusedVariables false
theorem put_fact (w : World) : Calls Try.prog 8 #[] w fun e w' => e = .returned (.bool true) ∧ Below w.heap.size w w' := by
  have f1 : (putB 258 3 == [0, 1, 2]) = true := by decide
  have f2 : getN [0, 1, 2] = 258 := by decide
  have f3 : unpadS [97, 98, 99, 100, 101, 0, 0, 0, 120] 5 = [97, 98, 99, 100, 101] := by decide
  have f4 : unpadN [97, 98, 99, 100, 101, 0, 0, 0, 120] 5 = 8 := by decide
  have f5 : unpadE [97, 98, 99, 100, 101, 0, 0, 0, 120] 5 = 0 := by decide
  have e0 := errv0
  have f6 : padI 5 = 3 := by decide
  go_enter Try.func8, Try.ntmps8
  go_wp2_with (first | (go_at_call 9; refine (put_ok _ _ _ (by decide) (by decide) (by decide) (by decide) (by decide)).mono ?_; rintro e w1 ⟨rfl, hb⟩) | (go_at_call 14; refine (get_any _ _ (by decide)).mono ?_; rintro e w' ⟨rfl, rfl⟩) | (go_at_call 15; refine (unpad_any _ _ _ (by decide) (by decide)).mono ?_; rintro e w2 ⟨rfl, k, rfl⟩) | (go_at_call 16; refine (pad_any _ _).mono ?_; rintro e w' ⟨rfl, rfl⟩))
  all_goals go_ret
  all_goals exact ⟨rfl, hb.trans (below_drewN (Below.refl _ _) _)⟩
end Go.Proofs.Ytlbojhmhcaecjaa
