/-
  DERIVED. GIVEN WITH THE SEED: THE CARDS: each row of YtamlepacljjpiaaGreatDoorRows.lean that lists a variable, with what it lists TIED to the program's text (the seventh form; the later family's looks); each row that meets fmt, with fmt's text TOLD by the authors' own Lean function (tested against real Go, not proved from fmt's source: count such statements apart). THE CARD IS WHAT COUNTS. Prove the row's statement (the work); the ties are given (YtamlepacljjpiaaGreatDoorTie.lean); close each card by the builder's one call (the guide's Derived/Test/ToyasCard.lean, 'card_holds'). Laid BY PROGRAM, IN A SANDBOX (cutbox-door.mjs). By AI agents, Wed Nov 11 2026. No macro, syntax, notation, axiom, sorry.
-/
import Derived.Test.YtamlepacljjpiaaGreatDoorRows
import GoSem.ClaimSeven
namespace Go.Proofs.YtamlepacljjpiaaGreatDoor
namespace Rows

/-- THE TIED CARD OF 'quaymasterkeep.FullCounts'. -/
def fullCountsCard : Claim7 := { stood := { row := fullCountsRow, standIns := [], harness := (true, "fd4a418d8ae577c067248514c3b3bc57b870d42d3fd035bffbd9c81c690d663d"), looks := true }, kinds := [], alts := [], laidByText := true, laidKinds := [.data, .data, .data, .data, .handle, .sentinel, .sentinel, .listed, .data, .pinned], laidTests := true, laidLooks := .later }
def FullCountsCardSaid : Prop := Claim7.holds Tryz.pinned (.plain (OpenSpec.ofChange fullCountsSpec)) fullCountsCard

/-- THE TIED CARD OF 'quaymasterkeep.FullCloses'. -/
def fullClosesCard : Claim7 := { stood := { row := fullClosesRow, standIns := [], harness := (true, "fd4a418d8ae577c067248514c3b3bc57b870d42d3fd035bffbd9c81c690d663d"), looks := true }, kinds := [], alts := [], laidByText := true, laidKinds := [.data, .data, .data, .data, .handle, .sentinel, .sentinel, .listed, .data, .pinned], laidTests := true, laidLooks := .later }
def FullClosesCardSaid : Prop := Claim7.holds Tryz.pinned (.plain (OpenSpec.ofChange fullClosesSpec)) fullClosesCard

/-- THE TIED CARD OF 'quaymasterkeep.FullTold'. -/
def fullToldCard : Claim7 := { stood := { row := fullToldRow, standIns := [], harness := (true, "fd4a418d8ae577c067248514c3b3bc57b870d42d3fd035bffbd9c81c690d663d"), looks := true }, kinds := [], alts := [], laidByText := true, laidKinds := [.data, .data, .data, .data, .handle, .sentinel, .sentinel, .listed, .data, .pinned], laidTests := true, laidLooks := .later }
def FullToldCardSaid : Prop := Claim7.holds Tryz.pinned (.plain (OpenSpec.ofChange fullToldSpec)) fullToldCard

/-- THE TIED CARD OF 'quaymasterkeep.FullLists'. -/
def fullListsCard : Claim7 := { stood := { row := fullListsRow, standIns := [], harness := (true, "fd4a418d8ae577c067248514c3b3bc57b870d42d3fd035bffbd9c81c690d663d"), looks := true }, kinds := [], alts := [], laidByText := true, laidKinds := [.data, .data, .data, .data, .handle, .sentinel, .sentinel, .listed, .data, .pinned], laidTests := true, laidLooks := .later }
def FullListsCardSaid : Prop := Claim7.holds Tryz.pinned (.plain (OpenSpec.ofChange fullListsSpec)) fullListsCard

/-- THE TIED CARD OF 'quaymasterkeep.FullOne'. -/
def fullOneCard : Claim7 := { stood := { row := fullOneRow, standIns := [], harness := (true, "fd4a418d8ae577c067248514c3b3bc57b870d42d3fd035bffbd9c81c690d663d"), looks := true }, kinds := [], alts := [], laidByText := true, laidKinds := [.data, .data, .data, .data, .handle, .sentinel, .sentinel, .listed, .data, .pinned], laidTests := true, laidLooks := .later }
def FullOneCardSaid : Prop := Claim7.holds Tryz.pinned (.plain (OpenSpec.ofChange fullOneSpec)) fullOneCard

/-- THE TIED CARD OF 'quaymasterkeep.FullParts'. -/
def fullPartsCard : Claim7 := { stood := { row := fullPartsRow, standIns := [], harness := (true, "fd4a418d8ae577c067248514c3b3bc57b870d42d3fd035bffbd9c81c690d663d"), looks := true }, kinds := [], alts := [], laidByText := true, laidKinds := [.data, .data, .data, .data, .handle, .sentinel, .sentinel, .listed, .data, .pinned], laidTests := true, laidLooks := .later }
def FullPartsCardSaid : Prop := Claim7.holds Tryz.pinned (.plain (OpenSpec.ofChange fullPartsSpec)) fullPartsCard

/-- THE TIED CARD OF 'quaymasterkeep.FullAgain'. -/
def fullAgainCard : Claim7 := { stood := { row := fullAgainRow, standIns := [], harness := (true, "fd4a418d8ae577c067248514c3b3bc57b870d42d3fd035bffbd9c81c690d663d"), looks := true }, kinds := [], alts := [], laidByText := true, laidKinds := [.data, .data, .data, .data, .handle, .sentinel, .sentinel, .listed, .data, .pinned], laidTests := true, laidLooks := .later }
def FullAgainCardSaid : Prop := Claim7.holds Tryz.pinned (.plain (OpenSpec.ofChange fullAgainSpec)) fullAgainCard

/-- THE TIED CARD OF 'quaymasterkeep.FullSettles'. -/
def fullSettlesCard : Claim7 := { stood := { row := fullSettlesRow, standIns := [], harness := (true, "fd4a418d8ae577c067248514c3b3bc57b870d42d3fd035bffbd9c81c690d663d"), looks := true }, kinds := [], alts := [], laidByText := true, laidKinds := [.data, .data, .data, .data, .handle, .sentinel, .sentinel, .listed, .data, .pinned], laidTests := true, laidLooks := .later }
def FullSettlesCardSaid : Prop := Claim7.holds Tryz.pinned (.plain (OpenSpec.ofChange fullSettlesSpec)) fullSettlesCard

/-- THE SECOND FORM's CARD OF 'quaymasterkeep.FullCounts'. -/
def fullCountsUptoCard : Claim7 := { stood := { row := fullCountsUptoRow, standIns := [], harness := (true, "fd4a418d8ae577c067248514c3b3bc57b870d42d3fd035bffbd9c81c690d663d"), looks := true }, kinds := [], alts := [], laidByText := true, laidKinds := [.data, .data, .data, .data, .handle, .sentinel, .sentinel, .listed, .data, .pinned], laidTests := true, laidLooks := .later }
def FullCountsUptoCardSaid : Prop := Claim7.holds Tryz.pinned (.plain (OpenSpec.upto fullCountsSpec)) fullCountsUptoCard

/-- THE SECOND FORM's CARD OF 'quaymasterkeep.FullCloses'. -/
def fullClosesUptoCard : Claim7 := { stood := { row := fullClosesUptoRow, standIns := [], harness := (true, "fd4a418d8ae577c067248514c3b3bc57b870d42d3fd035bffbd9c81c690d663d"), looks := true }, kinds := [], alts := [], laidByText := true, laidKinds := [.data, .data, .data, .data, .handle, .sentinel, .sentinel, .listed, .data, .pinned], laidTests := true, laidLooks := .later }
def FullClosesUptoCardSaid : Prop := Claim7.holds Tryz.pinned (.plain (OpenSpec.upto fullClosesSpec)) fullClosesUptoCard

/-- THE SECOND FORM's CARD OF 'quaymasterkeep.FullTold'. -/
def fullToldUptoCard : Claim7 := { stood := { row := fullToldUptoRow, standIns := [], harness := (true, "fd4a418d8ae577c067248514c3b3bc57b870d42d3fd035bffbd9c81c690d663d"), looks := true }, kinds := [], alts := [], laidByText := true, laidKinds := [.data, .data, .data, .data, .handle, .sentinel, .sentinel, .listed, .data, .pinned], laidTests := true, laidLooks := .later }
def FullToldUptoCardSaid : Prop := Claim7.holds Tryz.pinned (.plain (OpenSpec.upto fullToldSpec)) fullToldUptoCard

/-- THE SECOND FORM's CARD OF 'quaymasterkeep.FullLists'. -/
def fullListsUptoCard : Claim7 := { stood := { row := fullListsUptoRow, standIns := [], harness := (true, "fd4a418d8ae577c067248514c3b3bc57b870d42d3fd035bffbd9c81c690d663d"), looks := true }, kinds := [], alts := [], laidByText := true, laidKinds := [.data, .data, .data, .data, .handle, .sentinel, .sentinel, .listed, .data, .pinned], laidTests := true, laidLooks := .later }
def FullListsUptoCardSaid : Prop := Claim7.holds Tryz.pinned (.plain (OpenSpec.upto fullListsSpec)) fullListsUptoCard

/-- THE SECOND FORM's CARD OF 'quaymasterkeep.FullOne'. -/
def fullOneUptoCard : Claim7 := { stood := { row := fullOneUptoRow, standIns := [], harness := (true, "fd4a418d8ae577c067248514c3b3bc57b870d42d3fd035bffbd9c81c690d663d"), looks := true }, kinds := [], alts := [], laidByText := true, laidKinds := [.data, .data, .data, .data, .handle, .sentinel, .sentinel, .listed, .data, .pinned], laidTests := true, laidLooks := .later }
def FullOneUptoCardSaid : Prop := Claim7.holds Tryz.pinned (.plain (OpenSpec.upto fullOneSpec)) fullOneUptoCard

/-- THE SECOND FORM's CARD OF 'quaymasterkeep.FullParts'. -/
def fullPartsUptoCard : Claim7 := { stood := { row := fullPartsUptoRow, standIns := [], harness := (true, "fd4a418d8ae577c067248514c3b3bc57b870d42d3fd035bffbd9c81c690d663d"), looks := true }, kinds := [], alts := [], laidByText := true, laidKinds := [.data, .data, .data, .data, .handle, .sentinel, .sentinel, .listed, .data, .pinned], laidTests := true, laidLooks := .later }
def FullPartsUptoCardSaid : Prop := Claim7.holds Tryz.pinned (.plain (OpenSpec.upto fullPartsSpec)) fullPartsUptoCard

/-- THE SECOND FORM's CARD OF 'quaymasterkeep.FullAgain'. -/
def fullAgainUptoCard : Claim7 := { stood := { row := fullAgainUptoRow, standIns := [], harness := (true, "fd4a418d8ae577c067248514c3b3bc57b870d42d3fd035bffbd9c81c690d663d"), looks := true }, kinds := [], alts := [], laidByText := true, laidKinds := [.data, .data, .data, .data, .handle, .sentinel, .sentinel, .listed, .data, .pinned], laidTests := true, laidLooks := .later }
def FullAgainUptoCardSaid : Prop := Claim7.holds Tryz.pinned (.plain (OpenSpec.upto fullAgainSpec)) fullAgainUptoCard

/-- THE SECOND FORM's CARD OF 'quaymasterkeep.FullSettles'. -/
def fullSettlesUptoCard : Claim7 := { stood := { row := fullSettlesUptoRow, standIns := [], harness := (true, "fd4a418d8ae577c067248514c3b3bc57b870d42d3fd035bffbd9c81c690d663d"), looks := true }, kinds := [], alts := [], laidByText := true, laidKinds := [.data, .data, .data, .data, .handle, .sentinel, .sentinel, .listed, .data, .pinned], laidTests := true, laidLooks := .later }
def FullSettlesUptoCardSaid : Prop := Claim7.holds Tryz.pinned (.plain (OpenSpec.upto fullSettlesSpec)) fullSettlesUptoCard
end Rows
end Go.Proofs.YtamlepacljjpiaaGreatDoor
