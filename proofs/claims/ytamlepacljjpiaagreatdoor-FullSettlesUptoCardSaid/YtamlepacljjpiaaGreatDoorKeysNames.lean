/- The contract of keys.Names: all keys, in their order. -/
import Derived.Test.YtamlepacljjpiaaGreatDoorGkeysb
import Derived.Test.YtamlepacljjpiaaGreatDoorStrSl
import Derived.Test.YtamlepacljjpiaaGreatDoorStrRow
import Derived.Maps.OwnIn
import Derived.OwnWalkIn
namespace Go.Proofs.YtamlepacljjpiaaGreatDoor
open Go.ChangeShapes Go.WideShapes Go.ChangeAt Go.RowKit Go.Shelf
set_option linter.unusedVariables false
set_option linter.unusedSimpArgs false
def namesK : List (List UInt8) := keyT.map (·.name)
end Go.Proofs.YtamlepacljjpiaaGreatDoor
