/- A law that answers true and writes to nothing that was there meets its row's post; what the listed variable gives: for every law of a seat whose rows list errors.errorType. -/
import Derived.Test.YtfdbbfladgepgaaDoorShell
import Derived.Deep.DeepHandedRow
import Derived.LaidHandle
import Derived.LaidLaws
namespace Go.Proofs.YtfdbbfladgepgaaDoor
open Go.ChangeShapes Go.WideShapes Go.ChangeAt Go.RowKit
set_option linter.unusedVariables false
end Go.Proofs.YtfdbbfladgepgaaDoor
