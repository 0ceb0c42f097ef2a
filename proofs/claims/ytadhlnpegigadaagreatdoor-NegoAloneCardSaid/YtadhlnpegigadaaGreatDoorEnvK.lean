/- What the laid variables give, bundled. -/
import Derived.Test.YtadhlnpegigadaaGreatDoorKeysFits
import Derived.Test.YtadhlnpegigadaaGreatDoorGbase
namespace Go.Proofs.YtadhlnpegigadaaGreatDoor
open Go.ChangeShapes Go.WideShapes Go.ChangeAt Go.RowKit Go.Shelf
set_option linter.unusedVariables false
/- what the laid variables give -/
structure Env (w : World) : Prop where
  L : LaidE w
  T : Tabs w
  E : Errs w
  S : w.ShapedOpen Tryz.prog
theorem below_dK {B : Nat} {a w : World} (h : Below B a w) (k : Nat) : Below B a (w.drewN k) := h.trans ⟨rfl, rfl, rfl, Nat.le_refl _, fun _ _ => rfl⟩
theorem Env.on {w w' : World} (h : Env w) (hb : Below w.heap.size w w') : Env w' := ⟨h.L.on hb, h.T.on hb, h.E.on hb, shapedK h.S hb⟩
end Go.Proofs.YtadhlnpegigadaaGreatDoor
