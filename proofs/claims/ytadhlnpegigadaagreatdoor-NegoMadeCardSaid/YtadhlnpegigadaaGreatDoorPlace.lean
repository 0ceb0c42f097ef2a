/- What plain.Place tells of nil, and of an error at a place. -/
import Derived.Test.YtadhlnpegigadaaGreatDoorGbase
namespace Go.Proofs.YtadhlnpegigadaaGreatDoor
open Go.ChangeShapes Go.WideShapes Go.ChangeAt Go.RowKit
set_option linter.unusedVariables false
theorem place_nil (w : World) : Calls Tryz.prog 53 #[.nilIface] w fun e w' => e = .returned (.tuple #[.int .i64 0, .int .i64 (-1)]) ∧ w = w' := by
  go_enter Tryz.func53, Tryz.ntmps53
  go_wp2_with fail
  refine (tell_nil w).mono ?_
  rintro e w1 ⟨rfl, rfl⟩
  go_wp2_with fail
  refine wp_loop_rounds 1 ?_
  rw [rounds_succ]
  go_wp2_with fail
  go_ret2
  exact ⟨rfl, rfl⟩
theorem assertAtA (v : Value) (xT : TypeId) (w : World) : (Instr.typeAssert (.iface 94 v) xT 94 true).run Tryz.prog w = .ok (.tuple #[v, .bool true]) w := by kernel_rfl
theorem place_at (g : Nat) (c p : Int) (w : World) (hg : LaidE w) (hB : Blk w g 96 #[.int .i64 c, .int .i64 p]) : Calls Tryz.prog 53 #[.iface 94 (.pointer (some ⟨g, 0, none⟩))] w fun e w' => e = .returned (.tuple #[.int .i64 c, .int .i64 p]) ∧ Below w.heap.size w w' := by
  have z := assertAtA
  go_enter Tryz.func53, Tryz.ntmps53
  go_wp2_with fail
  refine (tell_at g c p w hg hB).mono ?_
  rintro e w1 ⟨rfl, hb1⟩
  have c1 := (hB.below hb1 hB.lt).cell 1
  simp only [List.getElem?_toArray, List.getElem?_cons_zero, List.getElem?_cons_succ] at c1
  clear hB
  go_wp2_with fail
  refine wp_loop_rounds 1 ?_
  rw [rounds_succ]
  go_wp2_with fail
  go_quiet (fail)
  go_wp2_with fail
  go_ret2
  exact ⟨rfl, below_drewN hb1 _⟩
end Go.Proofs.YtadhlnpegigadaaGreatDoor
