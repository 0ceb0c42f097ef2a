/-
  DERIVED. GIVEN WITH THE SEED: THE CARDS: each row of YtiblbfpgkfopeaaGreatDoorRows.lean that lists a variable, with what it lists TIED to the program's text (the seventh form; the later family's looks); each row that meets fmt, with fmt's text TOLD by the authors' own Lean function (tested against real Go, not proved from fmt's source: count such statements apart). THE CARD IS WHAT COUNTS. Prove the row's statement (the work); the ties are given (YtiblbfpgkfopeaaGreatDoorTie.lean); close each card by the builder's one call (the guide's Derived/Test/ToyasCard.lean, 'card_holds'). Laid BY PROGRAM, IN A SANDBOX (cutbox-door.mjs). By AI agents, Wed Nov 11 2026. No macro, syntax, notation, axiom, sorry.
-/
import Derived.Test.YtiblbfpgkfopeaaGreatDoorRows
import GoSem.ClaimSeven
namespace Go.Proofs.YtiblbfpgkfopeaaGreatDoor
namespace Rows

/-- THE TIED CARD OF 'quaymasterkeep.FullEchoes'. -/
def fullEchoesCard : Claim7 := { stood := { row := fullEchoesRow, standIns := [], harness := (true, "3171709bebb939f300dda5827049c662b78d819b48245fd8e0df6c5740978cc1"), looks := true }, kinds := [], alts := [], laidByText := true, laidKinds := [.data, .data, .data, .data, .handle, .sentinel, .sentinel, .listed, .data, .pinned], laidTests := true, laidLooks := .later }
def FullEchoesCardSaid : Prop := Claim7.holds Tryz.pinned (.plain (OpenSpec.ofChange fullEchoesSpec)) fullEchoesCard

/-- THE TIED CARD OF 'quaymasterkeep.FullCounts'. -/
def fullCountsCard : Claim7 := { stood := { row := fullCountsRow, standIns := [], harness := (true, "3171709bebb939f300dda5827049c662b78d819b48245fd8e0df6c5740978cc1"), looks := true }, kinds := [], alts := [], laidByText := true, laidKinds := [.data, .data, .data, .data, .handle, .sentinel, .sentinel, .listed, .data, .pinned], laidTests := true, laidLooks := .later }
def FullCountsCardSaid : Prop := Claim7.holds Tryz.pinned (.plain (OpenSpec.ofChange fullCountsSpec)) fullCountsCard

/-- THE TIED CARD OF 'quaymasterkeep.FullOrder'. -/
def fullOrderCard : Claim7 := { stood := { row := fullOrderRow, standIns := [], harness := (true, "3171709bebb939f300dda5827049c662b78d819b48245fd8e0df6c5740978cc1"), looks := true }, kinds := [], alts := [], laidByText := true, laidKinds := [.data, .data, .data, .data, .handle, .sentinel, .sentinel, .listed, .data, .pinned], laidTests := true, laidLooks := .later }
def FullOrderCardSaid : Prop := Claim7.holds Tryz.pinned (.plain (OpenSpec.ofChange fullOrderSpec)) fullOrderCard

/-- THE TIED CARD OF 'quaymasterkeep.FullCloses'. -/
def fullClosesCard : Claim7 := { stood := { row := fullClosesRow, standIns := [], harness := (true, "3171709bebb939f300dda5827049c662b78d819b48245fd8e0df6c5740978cc1"), looks := true }, kinds := [], alts := [], laidByText := true, laidKinds := [.data, .data, .data, .data, .handle, .sentinel, .sentinel, .listed, .data, .pinned], laidTests := true, laidLooks := .later }
def FullClosesCardSaid : Prop := Claim7.holds Tryz.pinned (.plain (OpenSpec.ofChange fullClosesSpec)) fullClosesCard

/-- THE TIED CARD OF 'quaymasterkeep.FullQuiet'. -/
def fullQuietCard : Claim7 := { stood := { row := fullQuietRow, standIns := [], harness := (true, "3171709bebb939f300dda5827049c662b78d819b48245fd8e0df6c5740978cc1"), looks := true }, kinds := [], alts := [], laidByText := true, laidKinds := [.data, .data, .data, .data, .handle, .sentinel, .sentinel, .listed, .data, .pinned], laidTests := true, laidLooks := .later }
def FullQuietCardSaid : Prop := Claim7.holds Tryz.pinned (.plain (OpenSpec.ofChange fullQuietSpec)) fullQuietCard

/-- THE TIED CARD OF 'quaymasterkeep.FullTold'. -/
def fullToldCard : Claim7 := { stood := { row := fullToldRow, standIns := [], harness := (true, "3171709bebb939f300dda5827049c662b78d819b48245fd8e0df6c5740978cc1"), looks := true }, kinds := [], alts := [], laidByText := true, laidKinds := [.data, .data, .data, .data, .handle, .sentinel, .sentinel, .listed, .data, .pinned], laidTests := true, laidLooks := .later }
def FullToldCardSaid : Prop := Claim7.holds Tryz.pinned (.plain (OpenSpec.ofChange fullToldSpec)) fullToldCard

/-- THE TIED CARD OF 'quaymasterkeep.FullTags'. -/
def fullTagsCard : Claim7 := { stood := { row := fullTagsRow, standIns := [], harness := (true, "3171709bebb939f300dda5827049c662b78d819b48245fd8e0df6c5740978cc1"), looks := true }, kinds := [], alts := [], laidByText := true, laidKinds := [.data, .data, .data, .data, .handle, .sentinel, .sentinel, .listed, .data, .pinned], laidTests := true, laidLooks := .later }
def FullTagsCardSaid : Prop := Claim7.holds Tryz.pinned (.plain (OpenSpec.ofChange fullTagsSpec)) fullTagsCard

/-- THE TIED CARD OF 'quaymasterkeep.FullLists'. -/
def fullListsCard : Claim7 := { stood := { row := fullListsRow, standIns := [], harness := (true, "3171709bebb939f300dda5827049c662b78d819b48245fd8e0df6c5740978cc1"), looks := true }, kinds := [], alts := [], laidByText := true, laidKinds := [.data, .data, .data, .data, .handle, .sentinel, .sentinel, .listed, .data, .pinned], laidTests := true, laidLooks := .later }
def FullListsCardSaid : Prop := Claim7.holds Tryz.pinned (.plain (OpenSpec.ofChange fullListsSpec)) fullListsCard

/-- THE TIED CARD OF 'quaymasterkeep.FullOne'. -/
def fullOneCard : Claim7 := { stood := { row := fullOneRow, standIns := [], harness := (true, "3171709bebb939f300dda5827049c662b78d819b48245fd8e0df6c5740978cc1"), looks := true }, kinds := [], alts := [], laidByText := true, laidKinds := [.data, .data, .data, .data, .handle, .sentinel, .sentinel, .listed, .data, .pinned], laidTests := true, laidLooks := .later }
def FullOneCardSaid : Prop := Claim7.holds Tryz.pinned (.plain (OpenSpec.ofChange fullOneSpec)) fullOneCard

/-- THE TIED CARD OF 'quaymasterkeep.FullParts'. -/
def fullPartsCard : Claim7 := { stood := { row := fullPartsRow, standIns := [], harness := (true, "3171709bebb939f300dda5827049c662b78d819b48245fd8e0df6c5740978cc1"), looks := true }, kinds := [], alts := [], laidByText := true, laidKinds := [.data, .data, .data, .data, .handle, .sentinel, .sentinel, .listed, .data, .pinned], laidTests := true, laidLooks := .later }
def FullPartsCardSaid : Prop := Claim7.holds Tryz.pinned (.plain (OpenSpec.ofChange fullPartsSpec)) fullPartsCard

/-- THE TIED CARD OF 'quaymasterkeep.FullAgain'. -/
def fullAgainCard : Claim7 := { stood := { row := fullAgainRow, standIns := [], harness := (true, "3171709bebb939f300dda5827049c662b78d819b48245fd8e0df6c5740978cc1"), looks := true }, kinds := [], alts := [], laidByText := true, laidKinds := [.data, .data, .data, .data, .handle, .sentinel, .sentinel, .listed, .data, .pinned], laidTests := true, laidLooks := .later }
def FullAgainCardSaid : Prop := Claim7.holds Tryz.pinned (.plain (OpenSpec.ofChange fullAgainSpec)) fullAgainCard

/-- THE TIED CARD OF 'quaymasterkeep.FullSettles'. -/
def fullSettlesCard : Claim7 := { stood := { row := fullSettlesRow, standIns := [], harness := (true, "3171709bebb939f300dda5827049c662b78d819b48245fd8e0df6c5740978cc1"), looks := true }, kinds := [], alts := [], laidByText := true, laidKinds := [.data, .data, .data, .data, .handle, .sentinel, .sentinel, .listed, .data, .pinned], laidTests := true, laidLooks := .later }
def FullSettlesCardSaid : Prop := Claim7.holds Tryz.pinned (.plain (OpenSpec.ofChange fullSettlesSpec)) fullSettlesCard

/-- THE TIED CARD OF 'quaymasterkeep.FullKnows'. -/
def fullKnowsCard : Claim7 := { stood := { row := fullKnowsRow, standIns := [], harness := (true, "3171709bebb939f300dda5827049c662b78d819b48245fd8e0df6c5740978cc1"), looks := true }, kinds := [], alts := [], laidByText := true, laidKinds := [.data, .data, .data, .data, .handle, .sentinel, .sentinel, .listed, .data, .pinned], laidTests := true, laidLooks := .later }
def FullKnowsCardSaid : Prop := Claim7.holds Tryz.pinned (.plain (OpenSpec.ofChange fullKnowsSpec)) fullKnowsCard

/-- THE SECOND FORM's CARD OF 'quaymasterkeep.FullEchoes'. -/
def fullEchoesUptoCard : Claim7 := { stood := { row := fullEchoesUptoRow, standIns := [], harness := (true, "3171709bebb939f300dda5827049c662b78d819b48245fd8e0df6c5740978cc1"), looks := true }, kinds := [], alts := [], laidByText := true, laidKinds := [.data, .data, .data, .data, .handle, .sentinel, .sentinel, .listed, .data, .pinned], laidTests := true, laidLooks := .later }
def FullEchoesUptoCardSaid : Prop := Claim7.holds Tryz.pinned (.plain (OpenSpec.upto fullEchoesSpec)) fullEchoesUptoCard

/-- THE SECOND FORM's CARD OF 'quaymasterkeep.FullCounts'. -/
def fullCountsUptoCard : Claim7 := { stood := { row := fullCountsUptoRow, standIns := [], harness := (true, "3171709bebb939f300dda5827049c662b78d819b48245fd8e0df6c5740978cc1"), looks := true }, kinds := [], alts := [], laidByText := true, laidKinds := [.data, .data, .data, .data, .handle, .sentinel, .sentinel, .listed, .data, .pinned], laidTests := true, laidLooks := .later }
def FullCountsUptoCardSaid : Prop := Claim7.holds Tryz.pinned (.plain (OpenSpec.upto fullCountsSpec)) fullCountsUptoCard

/-- THE SECOND FORM's CARD OF 'quaymasterkeep.FullOrder'. -/
def fullOrderUptoCard : Claim7 := { stood := { row := fullOrderUptoRow, standIns := [], harness := (true, "3171709bebb939f300dda5827049c662b78d819b48245fd8e0df6c5740978cc1"), looks := true }, kinds := [], alts := [], laidByText := true, laidKinds := [.data, .data, .data, .data, .handle, .sentinel, .sentinel, .listed, .data, .pinned], laidTests := true, laidLooks := .later }
def FullOrderUptoCardSaid : Prop := Claim7.holds Tryz.pinned (.plain (OpenSpec.upto fullOrderSpec)) fullOrderUptoCard

/-- THE SECOND FORM's CARD OF 'quaymasterkeep.FullCloses'. -/
def fullClosesUptoCard : Claim7 := { stood := { row := fullClosesUptoRow, standIns := [], harness := (true, "3171709bebb939f300dda5827049c662b78d819b48245fd8e0df6c5740978cc1"), looks := true }, kinds := [], alts := [], laidByText := true, laidKinds := [.data, .data, .data, .data, .handle, .sentinel, .sentinel, .listed, .data, .pinned], laidTests := true, laidLooks := .later }
def FullClosesUptoCardSaid : Prop := Claim7.holds Tryz.pinned (.plain (OpenSpec.upto fullClosesSpec)) fullClosesUptoCard

/-- THE SECOND FORM's CARD OF 'quaymasterkeep.FullQuiet'. -/
def fullQuietUptoCard : Claim7 := { stood := { row := fullQuietUptoRow, standIns := [], harness := (true, "3171709bebb939f300dda5827049c662b78d819b48245fd8e0df6c5740978cc1"), looks := true }, kinds := [], alts := [], laidByText := true, laidKinds := [.data, .data, .data, .data, .handle, .sentinel, .sentinel, .listed, .data, .pinned], laidTests := true, laidLooks := .later }
def FullQuietUptoCardSaid : Prop := Claim7.holds Tryz.pinned (.plain (OpenSpec.upto fullQuietSpec)) fullQuietUptoCard

/-- THE SECOND FORM's CARD OF 'quaymasterkeep.FullTold'. -/
def fullToldUptoCard : Claim7 := { stood := { row := fullToldUptoRow, standIns := [], harness := (true, "3171709bebb939f300dda5827049c662b78d819b48245fd8e0df6c5740978cc1"), looks := true }, kinds := [], alts := [], laidByText := true, laidKinds := [.data, .data, .data, .data, .handle, .sentinel, .sentinel, .listed, .data, .pinned], laidTests := true, laidLooks := .later }
def FullToldUptoCardSaid : Prop := Claim7.holds Tryz.pinned (.plain (OpenSpec.upto fullToldSpec)) fullToldUptoCard

/-- THE SECOND FORM's CARD OF 'quaymasterkeep.FullTags'. -/
def fullTagsUptoCard : Claim7 := { stood := { row := fullTagsUptoRow, standIns := [], harness := (true, "3171709bebb939f300dda5827049c662b78d819b48245fd8e0df6c5740978cc1"), looks := true }, kinds := [], alts := [], laidByText := true, laidKinds := [.data, .data, .data, .data, .handle, .sentinel, .sentinel, .listed, .data, .pinned], laidTests := true, laidLooks := .later }
def FullTagsUptoCardSaid : Prop := Claim7.holds Tryz.pinned (.plain (OpenSpec.upto fullTagsSpec)) fullTagsUptoCard

/-- THE SECOND FORM's CARD OF 'quaymasterkeep.FullLists'. -/
def fullListsUptoCard : Claim7 := { stood := { row := fullListsUptoRow, standIns := [], harness := (true, "3171709bebb939f300dda5827049c662b78d819b48245fd8e0df6c5740978cc1"), looks := true }, kinds := [], alts := [], laidByText := true, laidKinds := [.data, .data, .data, .data, .handle, .sentinel, .sentinel, .listed, .data, .pinned], laidTests := true, laidLooks := .later }
def FullListsUptoCardSaid : Prop := Claim7.holds Tryz.pinned (.plain (OpenSpec.upto fullListsSpec)) fullListsUptoCard

/-- THE SECOND FORM's CARD OF 'quaymasterkeep.FullOne'. -/
def fullOneUptoCard : Claim7 := { stood := { row := fullOneUptoRow, standIns := [], harness := (true, "3171709bebb939f300dda5827049c662b78d819b48245fd8e0df6c5740978cc1"), looks := true }, kinds := [], alts := [], laidByText := true, laidKinds := [.data, .data, .data, .data, .handle, .sentinel, .sentinel, .listed, .data, .pinned], laidTests := true, laidLooks := .later }
def FullOneUptoCardSaid : Prop := Claim7.holds Tryz.pinned (.plain (OpenSpec.upto fullOneSpec)) fullOneUptoCard

/-- THE SECOND FORM's CARD OF 'quaymasterkeep.FullParts'. -/
def fullPartsUptoCard : Claim7 := { stood := { row := fullPartsUptoRow, standIns := [], harness := (true, "3171709bebb939f300dda5827049c662b78d819b48245fd8e0df6c5740978cc1"), looks := true }, kinds := [], alts := [], laidByText := true, laidKinds := [.data, .data, .data, .data, .handle, .sentinel, .sentinel, .listed, .data, .pinned], laidTests := true, laidLooks := .later }
def FullPartsUptoCardSaid : Prop := Claim7.holds Tryz.pinned (.plain (OpenSpec.upto fullPartsSpec)) fullPartsUptoCard

/-- THE SECOND FORM's CARD OF 'quaymasterkeep.FullAgain'. -/
def fullAgainUptoCard : Claim7 := { stood := { row := fullAgainUptoRow, standIns := [], harness := (true, "3171709bebb939f300dda5827049c662b78d819b48245fd8e0df6c5740978cc1"), looks := true }, kinds := [], alts := [], laidByText := true, laidKinds := [.data, .data, .data, .data, .handle, .sentinel, .sentinel, .listed, .data, .pinned], laidTests := true, laidLooks := .later }
def FullAgainUptoCardSaid : Prop := Claim7.holds Tryz.pinned (.plain (OpenSpec.upto fullAgainSpec)) fullAgainUptoCard

/-- THE SECOND FORM's CARD OF 'quaymasterkeep.FullSettles'. -/
def fullSettlesUptoCard : Claim7 := { stood := { row := fullSettlesUptoRow, standIns := [], harness := (true, "3171709bebb939f300dda5827049c662b78d819b48245fd8e0df6c5740978cc1"), looks := true }, kinds := [], alts := [], laidByText := true, laidKinds := [.data, .data, .data, .data, .handle, .sentinel, .sentinel, .listed, .data, .pinned], laidTests := true, laidLooks := .later }
def FullSettlesUptoCardSaid : Prop := Claim7.holds Tryz.pinned (.plain (OpenSpec.upto fullSettlesSpec)) fullSettlesUptoCard

/-- THE SECOND FORM's CARD OF 'quaymasterkeep.FullKnows'. -/
def fullKnowsUptoCard : Claim7 := { stood := { row := fullKnowsUptoRow, standIns := [], harness := (true, "3171709bebb939f300dda5827049c662b78d819b48245fd8e0df6c5740978cc1"), looks := true }, kinds := [], alts := [], laidByText := true, laidKinds := [.data, .data, .data, .data, .handle, .sentinel, .sentinel, .listed, .data, .pinned], laidTests := true, laidLooks := .later }
def FullKnowsUptoCardSaid : Prop := Claim7.holds Tryz.pinned (.plain (OpenSpec.upto fullKnowsSpec)) fullKnowsUptoCard
end Rows
end Go.Proofs.YtiblbfpgkfopeaaGreatDoor
