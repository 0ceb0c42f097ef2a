/-
  DERIVED. GIVEN WITH THE SEED: THE CARDS: each row of YtlbojhmhcaecjaaDoorRows.lean that lists a variable, with what it lists TIED to the program's text (the seventh form; the later family's looks); each row that meets fmt, with fmt's text TOLD by the authors' own Lean function (tested against real Go, not proved from fmt's source: count such statements apart). THE CARD IS WHAT COUNTS. Prove the row's statement (the work); the ties are given (YtlbojhmhcaecjaaDoorTie.lean); close each card by the builder's one call (the guide's Derived/Test/ToyasCard.lean, 'card_holds'). Laid BY PROGRAM, IN A SANDBOX (cutbox-door.mjs). By AI agents, Wed Nov 11 2026. No macro, syntax, notation, axiom, sorry.
-/
import Derived.Test.YtlbojhmhcaecjaaDoorRows
import GoSem.ClaimSeven
namespace Go.Proofs.YtlbojhmhcaecjaaDoor
namespace Rows

/-- THE TIED CARD OF 'quaymasterkeep.AhsJoins'. -/
def ahsJoinsCard : Claim7 := { stood := { row := ahsJoinsRow, standIns := [], harness := (true, "67426ded957797222ac4ec9ef664dcf9bfcbd39336bf60f91e3abb6af7a7523a"), looks := true }, kinds := [], alts := [], laidByText := true, laidKinds := [.handle], laidTests := true, laidLooks := .later }
def AhsJoinsCardSaid : Prop := Claim7.holds Tryd.pinned (.plain (OpenSpec.ofChange ahsJoinsSpec)) ahsJoinsCard

/-- THE TIED CARD OF 'quaymasterkeep.AhsRoom'. -/
def ahsRoomCard : Claim7 := { stood := { row := ahsRoomRow, standIns := [], harness := (true, "67426ded957797222ac4ec9ef664dcf9bfcbd39336bf60f91e3abb6af7a7523a"), looks := true }, kinds := [], alts := [], laidByText := true, laidKinds := [.handle], laidTests := true, laidLooks := .later }
def AhsRoomCardSaid : Prop := Claim7.holds Tryd.pinned (.plain (OpenSpec.ofChange ahsRoomSpec)) ahsRoomCard

/-- THE TIED CARD OF 'quaymasterkeep.ChapLong'. -/
def chapLongCard : Claim7 := { stood := { row := chapLongRow, standIns := [], harness := (true, "67426ded957797222ac4ec9ef664dcf9bfcbd39336bf60f91e3abb6af7a7523a"), looks := true }, kinds := [], alts := [], laidByText := true, laidKinds := [.handle], laidTests := true, laidLooks := .later }
def ChapLongCardSaid : Prop := Claim7.holds Tryd.pinned (.plain (OpenSpec.ofChange chapLongSpec)) chapLongCard

/-- THE TIED CARD OF 'quaymasterkeep.ChapUsers'. -/
def chapUsersCard : Claim7 := { stood := { row := chapUsersRow, standIns := [], harness := (true, "67426ded957797222ac4ec9ef664dcf9bfcbd39336bf60f91e3abb6af7a7523a"), looks := true }, kinds := [], alts := [], laidByText := true, laidKinds := [.handle], laidTests := true, laidLooks := .later }
def ChapUsersCardSaid : Prop := Claim7.holds Tryd.pinned (.plain (OpenSpec.ofChange chapUsersSpec)) chapUsersCard

/-- THE TIED CARD OF 'quaymasterkeep.ChapRight'. -/
def chapRightCard : Claim7 := { stood := { row := chapRightRow, standIns := [], harness := (true, "67426ded957797222ac4ec9ef664dcf9bfcbd39336bf60f91e3abb6af7a7523a"), looks := true }, kinds := [], alts := [], laidByText := true, laidKinds := [.handle], laidTests := true, laidLooks := .later }
def ChapRightCardSaid : Prop := Claim7.holds Tryd.pinned (.plain (OpenSpec.ofChange chapRightSpec)) chapRightCard

/-- THE TIED CARD OF 'quaymasterkeep.GatherMany'. -/
def gatherManyCard : Claim7 := { stood := { row := gatherManyRow, standIns := [], harness := (true, "67426ded957797222ac4ec9ef664dcf9bfcbd39336bf60f91e3abb6af7a7523a"), looks := true }, kinds := [], alts := [], laidByText := true, laidKinds := [.handle], laidTests := true, laidLooks := .later }
def GatherManyCardSaid : Prop := Claim7.holds Tryd.pinned (.plain (OpenSpec.ofChange gatherManySpec)) gatherManyCard

/-- THE TIED CARD OF 'quaymasterkeep.PairsFind'. -/
def pairsFindCard : Claim7 := { stood := { row := pairsFindRow, standIns := [], harness := (true, "67426ded957797222ac4ec9ef664dcf9bfcbd39336bf60f91e3abb6af7a7523a"), looks := true }, kinds := [], alts := [], laidByText := true, laidKinds := [.handle], laidTests := true, laidLooks := .later }
def PairsFindCardSaid : Prop := Claim7.holds Tryd.pinned (.plain (OpenSpec.ofChange pairsFindSpec)) pairsFindCard

/-- THE TIED CARD OF 'quaymasterkeep.GatherSplit'. -/
def gatherSplitCard : Claim7 := { stood := { row := gatherSplitRow, standIns := [], harness := (true, "67426ded957797222ac4ec9ef664dcf9bfcbd39336bf60f91e3abb6af7a7523a"), looks := true }, kinds := [], alts := [], laidByText := true, laidKinds := [.handle], laidTests := true, laidLooks := .later }
def GatherSplitCardSaid : Prop := Claim7.holds Tryd.pinned (.plain (OpenSpec.ofChange gatherSplitSpec)) gatherSplitCard

/-- THE TIED CARD OF 'quaymasterkeep.BinaryOnly'. -/
def binaryOnlyCard : Claim7 := { stood := { row := binaryOnlyRow, standIns := [], harness := (true, "67426ded957797222ac4ec9ef664dcf9bfcbd39336bf60f91e3abb6af7a7523a"), looks := true }, kinds := [], alts := [], laidByText := true, laidKinds := [.data, .handle, .data, .data, .pinned, .pinned], laidTests := true, laidLooks := .later }
def BinaryOnlyCardSaid : Prop := Claim7.holds Tryd.pinned (.plain (OpenSpec.ofChange binaryOnlySpec)) binaryOnlyCard

/-- THE TIED CARD OF 'quaymasterkeep.BinaryCases'. -/
def binaryCasesCard : Claim7 := { stood := { row := binaryCasesRow, standIns := [], harness := (true, "67426ded957797222ac4ec9ef664dcf9bfcbd39336bf60f91e3abb6af7a7523a"), looks := true }, kinds := [], alts := [], laidByText := true, laidKinds := [.data, .handle, .pinned, .pinned], laidTests := true, laidLooks := .later }
def BinaryCasesCardSaid : Prop := Claim7.holds Tryd.pinned (.plain (OpenSpec.ofChange binaryCasesSpec)) binaryCasesCard

/-- THE SECOND FORM's CARD OF 'quaymasterkeep.AhsJoins'. -/
def ahsJoinsUptoCard : Claim7 := { stood := { row := ahsJoinsUptoRow, standIns := [], harness := (true, "67426ded957797222ac4ec9ef664dcf9bfcbd39336bf60f91e3abb6af7a7523a"), looks := true }, kinds := [], alts := [], laidByText := true, laidKinds := [.handle], laidTests := true, laidLooks := .later }
def AhsJoinsUptoCardSaid : Prop := Claim7.holds Tryd.pinned (.plain (OpenSpec.upto ahsJoinsSpec)) ahsJoinsUptoCard

/-- THE SECOND FORM's CARD OF 'quaymasterkeep.AhsRoom'. -/
def ahsRoomUptoCard : Claim7 := { stood := { row := ahsRoomUptoRow, standIns := [], harness := (true, "67426ded957797222ac4ec9ef664dcf9bfcbd39336bf60f91e3abb6af7a7523a"), looks := true }, kinds := [], alts := [], laidByText := true, laidKinds := [.handle], laidTests := true, laidLooks := .later }
def AhsRoomUptoCardSaid : Prop := Claim7.holds Tryd.pinned (.plain (OpenSpec.upto ahsRoomSpec)) ahsRoomUptoCard

/-- THE SECOND FORM's CARD OF 'quaymasterkeep.ChapLong'. -/
def chapLongUptoCard : Claim7 := { stood := { row := chapLongUptoRow, standIns := [], harness := (true, "67426ded957797222ac4ec9ef664dcf9bfcbd39336bf60f91e3abb6af7a7523a"), looks := true }, kinds := [], alts := [], laidByText := true, laidKinds := [.handle], laidTests := true, laidLooks := .later }
def ChapLongUptoCardSaid : Prop := Claim7.holds Tryd.pinned (.plain (OpenSpec.upto chapLongSpec)) chapLongUptoCard

/-- THE SECOND FORM's CARD OF 'quaymasterkeep.ChapUsers'. -/
def chapUsersUptoCard : Claim7 := { stood := { row := chapUsersUptoRow, standIns := [], harness := (true, "67426ded957797222ac4ec9ef664dcf9bfcbd39336bf60f91e3abb6af7a7523a"), looks := true }, kinds := [], alts := [], laidByText := true, laidKinds := [.handle], laidTests := true, laidLooks := .later }
def ChapUsersUptoCardSaid : Prop := Claim7.holds Tryd.pinned (.plain (OpenSpec.upto chapUsersSpec)) chapUsersUptoCard

/-- THE SECOND FORM's CARD OF 'quaymasterkeep.ChapRight'. -/
def chapRightUptoCard : Claim7 := { stood := { row := chapRightUptoRow, standIns := [], harness := (true, "67426ded957797222ac4ec9ef664dcf9bfcbd39336bf60f91e3abb6af7a7523a"), looks := true }, kinds := [], alts := [], laidByText := true, laidKinds := [.handle], laidTests := true, laidLooks := .later }
def ChapRightUptoCardSaid : Prop := Claim7.holds Tryd.pinned (.plain (OpenSpec.upto chapRightSpec)) chapRightUptoCard

/-- THE SECOND FORM's CARD OF 'quaymasterkeep.GatherMany'. -/
def gatherManyUptoCard : Claim7 := { stood := { row := gatherManyUptoRow, standIns := [], harness := (true, "67426ded957797222ac4ec9ef664dcf9bfcbd39336bf60f91e3abb6af7a7523a"), looks := true }, kinds := [], alts := [], laidByText := true, laidKinds := [.handle], laidTests := true, laidLooks := .later }
def GatherManyUptoCardSaid : Prop := Claim7.holds Tryd.pinned (.plain (OpenSpec.upto gatherManySpec)) gatherManyUptoCard

/-- THE SECOND FORM's CARD OF 'quaymasterkeep.PairsFind'. -/
def pairsFindUptoCard : Claim7 := { stood := { row := pairsFindUptoRow, standIns := [], harness := (true, "67426ded957797222ac4ec9ef664dcf9bfcbd39336bf60f91e3abb6af7a7523a"), looks := true }, kinds := [], alts := [], laidByText := true, laidKinds := [.handle], laidTests := true, laidLooks := .later }
def PairsFindUptoCardSaid : Prop := Claim7.holds Tryd.pinned (.plain (OpenSpec.upto pairsFindSpec)) pairsFindUptoCard

/-- THE SECOND FORM's CARD OF 'quaymasterkeep.GatherSplit'. -/
def gatherSplitUptoCard : Claim7 := { stood := { row := gatherSplitUptoRow, standIns := [], harness := (true, "67426ded957797222ac4ec9ef664dcf9bfcbd39336bf60f91e3abb6af7a7523a"), looks := true }, kinds := [], alts := [], laidByText := true, laidKinds := [.handle], laidTests := true, laidLooks := .later }
def GatherSplitUptoCardSaid : Prop := Claim7.holds Tryd.pinned (.plain (OpenSpec.upto gatherSplitSpec)) gatherSplitUptoCard

/-- THE SECOND FORM's CARD OF 'quaymasterkeep.BinaryOnly'. -/
def binaryOnlyUptoCard : Claim7 := { stood := { row := binaryOnlyUptoRow, standIns := [], harness := (true, "67426ded957797222ac4ec9ef664dcf9bfcbd39336bf60f91e3abb6af7a7523a"), looks := true }, kinds := [], alts := [], laidByText := true, laidKinds := [.data, .handle, .data, .data, .pinned, .pinned], laidTests := true, laidLooks := .later }
def BinaryOnlyUptoCardSaid : Prop := Claim7.holds Tryd.pinned (.plain (OpenSpec.upto binaryOnlySpec)) binaryOnlyUptoCard

/-- THE SECOND FORM's CARD OF 'quaymasterkeep.BinaryCases'. -/
def binaryCasesUptoCard : Claim7 := { stood := { row := binaryCasesUptoRow, standIns := [], harness := (true, "67426ded957797222ac4ec9ef664dcf9bfcbd39336bf60f91e3abb6af7a7523a"), looks := true }, kinds := [], alts := [], laidByText := true, laidKinds := [.data, .handle, .pinned, .pinned], laidTests := true, laidLooks := .later }
def BinaryCasesUptoCardSaid : Prop := Claim7.holds Tryd.pinned (.plain (OpenSpec.upto binaryCasesSpec)) binaryCasesUptoCard
end Rows
end Go.Proofs.YtlbojhmhcaecjaaDoor
