/-
  DERIVED. GIVEN WITH THE SEED: THE CARDS: each row of YtddjpddafpfngaaDoorRows.lean that lists a variable, with what it lists TIED to the program's text (the seventh form; the later family's looks); each row that meets fmt, with fmt's text TOLD by the authors' own Lean function (tested against real Go, not proved from fmt's source: count such statements apart). THE CARD IS WHAT COUNTS. Prove the row's statement (the work); the ties are given (YtddjpddafpfngaaDoorTie.lean); close each card by the builder's one call (the guide's Derived/Test/ToyasCard.lean, 'card_holds'). Laid BY PROGRAM, IN A SANDBOX (cutbox-door.mjs). By AI agents, Wed Nov 11 2026. No macro, syntax, notation, axiom, sorry.
-/
import Derived.Test.YtddjpddafpfngaaDoorRows
import GoSem.ClaimSeven
namespace Go.Proofs.YtddjpddafpfngaaDoor
namespace Rows

/-- THE TIED CARD OF 'quaymasterkeep.AhsOnly'. -/
def ahsOnlyCard : Claim7 := { stood := { row := ahsOnlyRow, standIns := [], harness := (true, "8c5d9a61ae583d6d770c82ccc3891589f13faa04b5dc3995aa9442010fbf2384"), looks := true }, kinds := [], alts := [], laidByText := true, laidKinds := [.handle], laidTests := true, laidLooks := .later }
def AhsOnlyCardSaid : Prop := Claim7.holds Tryd.pinned (.plain (OpenSpec.ofChange ahsOnlySpec)) ahsOnlyCard

/-- THE TIED CARD OF 'quaymasterkeep.BinaryBack'. -/
def binaryBackCard : Claim7 := { stood := { row := binaryBackRow, standIns := [], harness := (true, "8c5d9a61ae583d6d770c82ccc3891589f13faa04b5dc3995aa9442010fbf2384"), looks := true }, kinds := [], alts := [], laidByText := true, laidKinds := [.handle], laidTests := true, laidLooks := .later }
def BinaryBackCardSaid : Prop := Claim7.holds Tryd.pinned (.plain (OpenSpec.ofChange binaryBackSpec)) binaryBackCard

/-- THE TIED CARD OF 'quaymasterkeep.BinaryJoins'. -/
def binaryJoinsCard : Claim7 := { stood := { row := binaryJoinsRow, standIns := [], harness := (true, "8c5d9a61ae583d6d770c82ccc3891589f13faa04b5dc3995aa9442010fbf2384"), looks := true }, kinds := [], alts := [], laidByText := true, laidKinds := [.handle], laidTests := true, laidLooks := .later }
def BinaryJoinsCardSaid : Prop := Claim7.holds Tryd.pinned (.plain (OpenSpec.ofChange binaryJoinsSpec)) binaryJoinsCard

/-- THE TIED CARD OF 'quaymasterkeep.BinaryCut'. -/
def binaryCutCard : Claim7 := { stood := { row := binaryCutRow, standIns := [], harness := (true, "8c5d9a61ae583d6d770c82ccc3891589f13faa04b5dc3995aa9442010fbf2384"), looks := true }, kinds := [], alts := [], laidByText := true, laidKinds := [.handle], laidTests := true, laidLooks := .later }
def BinaryCutCardSaid : Prop := Claim7.holds Tryd.pinned (.plain (OpenSpec.ofChange binaryCutSpec)) binaryCutCard

/-- THE TIED CARD OF 'quaymasterkeep.AhsBack'. -/
def ahsBackCard : Claim7 := { stood := { row := ahsBackRow, standIns := [], harness := (true, "8c5d9a61ae583d6d770c82ccc3891589f13faa04b5dc3995aa9442010fbf2384"), looks := true }, kinds := [], alts := [], laidByText := true, laidKinds := [.handle], laidTests := true, laidLooks := .later }
def AhsBackCardSaid : Prop := Claim7.holds Tryd.pinned (.plain (OpenSpec.ofChange ahsBackSpec)) ahsBackCard

/-- THE TIED CARD OF 'quaymasterkeep.AhsCut'. -/
def ahsCutCard : Claim7 := { stood := { row := ahsCutRow, standIns := [], harness := (true, "8c5d9a61ae583d6d770c82ccc3891589f13faa04b5dc3995aa9442010fbf2384"), looks := true }, kinds := [], alts := [], laidByText := true, laidKinds := [.handle], laidTests := true, laidLooks := .later }
def AhsCutCardSaid : Prop := Claim7.holds Tryd.pinned (.plain (OpenSpec.ofChange ahsCutSpec)) ahsCutCard

/-- THE TIED CARD OF 'quaymasterkeep.AhsJoins'. -/
def ahsJoinsCard : Claim7 := { stood := { row := ahsJoinsRow, standIns := [], harness := (true, "8c5d9a61ae583d6d770c82ccc3891589f13faa04b5dc3995aa9442010fbf2384"), looks := true }, kinds := [], alts := [], laidByText := true, laidKinds := [.handle], laidTests := true, laidLooks := .later }
def AhsJoinsCardSaid : Prop := Claim7.holds Tryd.pinned (.plain (OpenSpec.ofChange ahsJoinsSpec)) ahsJoinsCard

/-- THE TIED CARD OF 'quaymasterkeep.AhsRoom'. -/
def ahsRoomCard : Claim7 := { stood := { row := ahsRoomRow, standIns := [], harness := (true, "8c5d9a61ae583d6d770c82ccc3891589f13faa04b5dc3995aa9442010fbf2384"), looks := true }, kinds := [], alts := [], laidByText := true, laidKinds := [.handle], laidTests := true, laidLooks := .later }
def AhsRoomCardSaid : Prop := Claim7.holds Tryd.pinned (.plain (OpenSpec.ofChange ahsRoomSpec)) ahsRoomCard

/-- THE TIED CARD OF 'quaymasterkeep.ChapLong'. -/
def chapLongCard : Claim7 := { stood := { row := chapLongRow, standIns := [], harness := (true, "8c5d9a61ae583d6d770c82ccc3891589f13faa04b5dc3995aa9442010fbf2384"), looks := true }, kinds := [], alts := [], laidByText := true, laidKinds := [.handle], laidTests := true, laidLooks := .later }
def ChapLongCardSaid : Prop := Claim7.holds Tryd.pinned (.plain (OpenSpec.ofChange chapLongSpec)) chapLongCard

/-- THE TIED CARD OF 'quaymasterkeep.ChapUsers'. -/
def chapUsersCard : Claim7 := { stood := { row := chapUsersRow, standIns := [], harness := (true, "8c5d9a61ae583d6d770c82ccc3891589f13faa04b5dc3995aa9442010fbf2384"), looks := true }, kinds := [], alts := [], laidByText := true, laidKinds := [.handle], laidTests := true, laidLooks := .later }
def ChapUsersCardSaid : Prop := Claim7.holds Tryd.pinned (.plain (OpenSpec.ofChange chapUsersSpec)) chapUsersCard

/-- THE TIED CARD OF 'quaymasterkeep.ChapRight'. -/
def chapRightCard : Claim7 := { stood := { row := chapRightRow, standIns := [], harness := (true, "8c5d9a61ae583d6d770c82ccc3891589f13faa04b5dc3995aa9442010fbf2384"), looks := true }, kinds := [], alts := [], laidByText := true, laidKinds := [.handle], laidTests := true, laidLooks := .later }
def ChapRightCardSaid : Prop := Claim7.holds Tryd.pinned (.plain (OpenSpec.ofChange chapRightSpec)) chapRightCard

/-- THE TIED CARD OF 'quaymasterkeep.GatherFull'. -/
def gatherFullCard : Claim7 := { stood := { row := gatherFullRow, standIns := [], harness := (true, "8c5d9a61ae583d6d770c82ccc3891589f13faa04b5dc3995aa9442010fbf2384"), looks := true }, kinds := [], alts := [], laidByText := true, laidKinds := [.handle], laidTests := true, laidLooks := .later }
def GatherFullCardSaid : Prop := Claim7.holds Tryd.pinned (.plain (OpenSpec.ofChange gatherFullSpec)) gatherFullCard

/-- THE SECOND FORM's CARD OF 'quaymasterkeep.AhsOnly'. -/
def ahsOnlyUptoCard : Claim7 := { stood := { row := ahsOnlyUptoRow, standIns := [], harness := (true, "8c5d9a61ae583d6d770c82ccc3891589f13faa04b5dc3995aa9442010fbf2384"), looks := true }, kinds := [], alts := [], laidByText := true, laidKinds := [.handle], laidTests := true, laidLooks := .later }
def AhsOnlyUptoCardSaid : Prop := Claim7.holds Tryd.pinned (.plain (OpenSpec.upto ahsOnlySpec)) ahsOnlyUptoCard

/-- THE SECOND FORM's CARD OF 'quaymasterkeep.BinaryBack'. -/
def binaryBackUptoCard : Claim7 := { stood := { row := binaryBackUptoRow, standIns := [], harness := (true, "8c5d9a61ae583d6d770c82ccc3891589f13faa04b5dc3995aa9442010fbf2384"), looks := true }, kinds := [], alts := [], laidByText := true, laidKinds := [.handle], laidTests := true, laidLooks := .later }
def BinaryBackUptoCardSaid : Prop := Claim7.holds Tryd.pinned (.plain (OpenSpec.upto binaryBackSpec)) binaryBackUptoCard

/-- THE SECOND FORM's CARD OF 'quaymasterkeep.BinaryJoins'. -/
def binaryJoinsUptoCard : Claim7 := { stood := { row := binaryJoinsUptoRow, standIns := [], harness := (true, "8c5d9a61ae583d6d770c82ccc3891589f13faa04b5dc3995aa9442010fbf2384"), looks := true }, kinds := [], alts := [], laidByText := true, laidKinds := [.handle], laidTests := true, laidLooks := .later }
def BinaryJoinsUptoCardSaid : Prop := Claim7.holds Tryd.pinned (.plain (OpenSpec.upto binaryJoinsSpec)) binaryJoinsUptoCard

/-- THE SECOND FORM's CARD OF 'quaymasterkeep.BinaryCut'. -/
def binaryCutUptoCard : Claim7 := { stood := { row := binaryCutUptoRow, standIns := [], harness := (true, "8c5d9a61ae583d6d770c82ccc3891589f13faa04b5dc3995aa9442010fbf2384"), looks := true }, kinds := [], alts := [], laidByText := true, laidKinds := [.handle], laidTests := true, laidLooks := .later }
def BinaryCutUptoCardSaid : Prop := Claim7.holds Tryd.pinned (.plain (OpenSpec.upto binaryCutSpec)) binaryCutUptoCard

/-- THE SECOND FORM's CARD OF 'quaymasterkeep.AhsBack'. -/
def ahsBackUptoCard : Claim7 := { stood := { row := ahsBackUptoRow, standIns := [], harness := (true, "8c5d9a61ae583d6d770c82ccc3891589f13faa04b5dc3995aa9442010fbf2384"), looks := true }, kinds := [], alts := [], laidByText := true, laidKinds := [.handle], laidTests := true, laidLooks := .later }
def AhsBackUptoCardSaid : Prop := Claim7.holds Tryd.pinned (.plain (OpenSpec.upto ahsBackSpec)) ahsBackUptoCard

/-- THE SECOND FORM's CARD OF 'quaymasterkeep.AhsCut'. -/
def ahsCutUptoCard : Claim7 := { stood := { row := ahsCutUptoRow, standIns := [], harness := (true, "8c5d9a61ae583d6d770c82ccc3891589f13faa04b5dc3995aa9442010fbf2384"), looks := true }, kinds := [], alts := [], laidByText := true, laidKinds := [.handle], laidTests := true, laidLooks := .later }
def AhsCutUptoCardSaid : Prop := Claim7.holds Tryd.pinned (.plain (OpenSpec.upto ahsCutSpec)) ahsCutUptoCard

/-- THE SECOND FORM's CARD OF 'quaymasterkeep.AhsJoins'. -/
def ahsJoinsUptoCard : Claim7 := { stood := { row := ahsJoinsUptoRow, standIns := [], harness := (true, "8c5d9a61ae583d6d770c82ccc3891589f13faa04b5dc3995aa9442010fbf2384"), looks := true }, kinds := [], alts := [], laidByText := true, laidKinds := [.handle], laidTests := true, laidLooks := .later }
def AhsJoinsUptoCardSaid : Prop := Claim7.holds Tryd.pinned (.plain (OpenSpec.upto ahsJoinsSpec)) ahsJoinsUptoCard

/-- THE SECOND FORM's CARD OF 'quaymasterkeep.AhsRoom'. -/
def ahsRoomUptoCard : Claim7 := { stood := { row := ahsRoomUptoRow, standIns := [], harness := (true, "8c5d9a61ae583d6d770c82ccc3891589f13faa04b5dc3995aa9442010fbf2384"), looks := true }, kinds := [], alts := [], laidByText := true, laidKinds := [.handle], laidTests := true, laidLooks := .later }
def AhsRoomUptoCardSaid : Prop := Claim7.holds Tryd.pinned (.plain (OpenSpec.upto ahsRoomSpec)) ahsRoomUptoCard

/-- THE SECOND FORM's CARD OF 'quaymasterkeep.ChapLong'. -/
def chapLongUptoCard : Claim7 := { stood := { row := chapLongUptoRow, standIns := [], harness := (true, "8c5d9a61ae583d6d770c82ccc3891589f13faa04b5dc3995aa9442010fbf2384"), looks := true }, kinds := [], alts := [], laidByText := true, laidKinds := [.handle], laidTests := true, laidLooks := .later }
def ChapLongUptoCardSaid : Prop := Claim7.holds Tryd.pinned (.plain (OpenSpec.upto chapLongSpec)) chapLongUptoCard

/-- THE SECOND FORM's CARD OF 'quaymasterkeep.ChapUsers'. -/
def chapUsersUptoCard : Claim7 := { stood := { row := chapUsersUptoRow, standIns := [], harness := (true, "8c5d9a61ae583d6d770c82ccc3891589f13faa04b5dc3995aa9442010fbf2384"), looks := true }, kinds := [], alts := [], laidByText := true, laidKinds := [.handle], laidTests := true, laidLooks := .later }
def ChapUsersUptoCardSaid : Prop := Claim7.holds Tryd.pinned (.plain (OpenSpec.upto chapUsersSpec)) chapUsersUptoCard

/-- THE SECOND FORM's CARD OF 'quaymasterkeep.ChapRight'. -/
def chapRightUptoCard : Claim7 := { stood := { row := chapRightUptoRow, standIns := [], harness := (true, "8c5d9a61ae583d6d770c82ccc3891589f13faa04b5dc3995aa9442010fbf2384"), looks := true }, kinds := [], alts := [], laidByText := true, laidKinds := [.handle], laidTests := true, laidLooks := .later }
def ChapRightUptoCardSaid : Prop := Claim7.holds Tryd.pinned (.plain (OpenSpec.upto chapRightSpec)) chapRightUptoCard

/-- THE SECOND FORM's CARD OF 'quaymasterkeep.GatherFull'. -/
def gatherFullUptoCard : Claim7 := { stood := { row := gatherFullUptoRow, standIns := [], harness := (true, "8c5d9a61ae583d6d770c82ccc3891589f13faa04b5dc3995aa9442010fbf2384"), looks := true }, kinds := [], alts := [], laidByText := true, laidKinds := [.handle], laidTests := true, laidLooks := .later }
def GatherFullUptoCardSaid : Prop := Claim7.holds Tryd.pinned (.plain (OpenSpec.upto gatherFullSpec)) gatherFullUptoCard
end Rows
end Go.Proofs.YtddjpddafpfngaaDoor
