/- Rows that list tables beside errors.errorType: what the listed variable gives, and a world in which they lie. -/
import Derived.Test.YtfdbbfladgepgaaDoorShellD
import Derived.Lay
import Derived.Deep.DeepWitnessRowRef
namespace Go.Proofs.YtfdbbfladgepgaaDoor
open Go.ChangeShapes Go.WideShapes Go.ChangeAt Go.RowKit
set_option linter.unusedVariables false
theorem met_lay {P : Program} {w0 : World} {l : List (String × DataW Unit)} (args : Array Value) (hf : w0.layFits P l [] = true) (hi : w0.layIfaces P l (w0.layVars P l) = true) :
    laidMet P l ((w0.layVars P l).forCall (fun _ _ => 0) ⟨#[], args, []⟩).memory := by
  have e0 : ∀ x ∈ l, (l.map (·.1)).contains x.1 = true := fun x hx => List.contains_iff_mem.2 (List.mem_map_of_mem hx)
  have e1 : (l.filter fun x => (l.map (·.1)).contains x.1) = l := List.filter_eq_self.2 e0
  have e2 : (l.filter fun x => !(l.map (·.1)).contains x.1) = [] := List.filter_eq_nil_iff.2 fun x hx => by rw [e0 x hx]; decide
  have h : laidMet P l (w0.layVars P l) := laidMet_layVars (w0 := w0) (l.map (·.1)) [] (by rw [e1]) (by rw [e1]; exact hf) (by rw [e1]; exact hi) (by rw [e2]; exact LaidIn.none)
  exact h.of_heap (by simp [World.memory, World.forCall, Input.heap])
end Go.Proofs.YtfdbbfladgepgaaDoor
