/- The walk of the law KeysDefaults. -/
import Derived.Test.YtamlepacljjpiaaGreatDoorKeysNumK
import Derived.Test.YtamlepacljjpiaaGreatDoorKeysNames
import Derived.Test.YtamlepacljjpiaaGreatDoorGpairs
namespace Go.Proofs.YtamlepacljjpiaaGreatDoor
open Go.ChangeShapes Go.WideShapes Go.ChangeAt Go.RowKit Go.Shelf
set_option linter.unusedVariables false
set_option linter.unusedSimpArgs false
theorem names_rows : ∀ n ∈ namesK, (keyRow n).isSome = true ∧ namesK.count n = 1 ∧ keyB n = true ∧ n.length ≤ 30 := by decide +kernel
theorem dflt_rows : ∀ r ∈ keyT, (dfl r = [] → r.kind = 6) ∧ (dfl r ≠ [] → fitsR r (dfl r) = 0) := by decide +kernel
theorem names_row (k : Nat) (n : List UInt8) (h : namesK[k]? = some n) : ∃ r, keyRow n = some r ∧ r.name = n ∧ namesK.count n = 1 ∧ keyB n = true ∧ n.length ≤ 30 := by
  obtain ⟨h1, h2, h3, h4⟩ := names_rows n (List.mem_of_getElem? h)
  rcases hr : keyRow n with _ | r
  · rw [hr] at h1; cases h1
  · exact ⟨r, rfl, keyRow_name hr, h2, h3, h4⟩
theorem keyK (s : ByteArray) (w : World) (hs : s.size ≤ 1000) (h : keyB s.data.toList = true) : Calls Tryz.prog 63 #[.string s] w fun e w' => e = .returned (.bool true) ∧ w = w' := by
  rw [← h]
  exact key_any s w (by omega)
end Go.Proofs.YtamlepacljjpiaaGreatDoor
