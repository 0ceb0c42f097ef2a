/- The walk of NegoRecord. -/
import Derived.Test.YtamlepacljjpiaaGreatDoorNegoW6
namespace Go.Proofs.YtamlepacljjpiaaGreatDoor
open Go.ChangeShapes Go.WideShapes Go.ChangeAt Go.RowKit Go.Shelf
set_option linter.unusedVariables false
theorem RecOk.ansRc {own rc off : PairL} {login disc : Bool} (h : RecOk rc) : RecOk (ansRc own rc off login disc) := by
  unfold Go.Proofs.YtamlepacljjpiaaGreatDoor.ansRc
  rcases hE : ansE rc off login with _ | E
  · exact RecOk.all own login disc off rc h ((ansE_none _ _ _).1 hE).2.1
  · exact h
theorem rec_val {R : PairL} (h : RecOk R) {q : ByteArray × ByteArray} (hq : q ∈ R) : ba (ownL R q.1) = q.2 := by
  unfold ownL
  rw [findB_mem h.1 hq]
  exact ba_of _
theorem own_miss {R : PairL} {n : ByteArray} {r : KeyR} (hr : keyRow n.data.toList = some r) (h : n.data.toList ∉ R.map kB) : ba (ownL R n) = ba (dfl r) := by
  unfold ownL
  rw [findB_none.2 (fun q hq e => h (List.mem_map.2 ⟨q, hq, e⟩))]
  unfold dflOf
  rw [hr]
end Go.Proofs.YtamlepacljjpiaaGreatDoor
