/-
  DERIVED. GIVEN WITH THE SEED: THE CARDS: each row of YtehellmpghfopaaGreatDoorRows.lean that lists a variable, with what it lists TIED to the program's text (the seventh form; the later family's looks); each row that meets fmt, with fmt's text TOLD by the authors' own Lean function (tested against real Go, not proved from fmt's source: count such statements apart). THE CARD IS WHAT COUNTS. Prove the row's statement (the work); the ties are given (YtehellmpghfopaaGreatDoorTie.lean); close each card by the builder's one call (the guide's Derived/Test/ToyasCard.lean, 'card_holds'). Laid BY PROGRAM, IN A SANDBOX (cutbox-door.mjs). By AI agents, Wed Nov 11 2026. No macro, syntax, notation, axiom, sorry.
-/
import Derived.Test.YtehellmpghfopaaGreatDoorRows
import GoSem.ClaimSeven
namespace Go.Proofs.YtehellmpghfopaaGreatDoor
namespace Rows

/-- THE TIED CARD OF 'quaymasterkeep.PduBack'. -/
def pduBackCard : Claim7 := { stood := { row := pduBackRow, standIns := [], harness := (true, "10a3544ee44488cfe2a41a61651966ac959e41b79ca31cd17e38d0f895794217"), looks := true }, kinds := [], alts := [], laidByText := true, laidKinds := [.data, .data, .data, .data, .handle, .sentinel, .sentinel, .listed, .data, .pinned], laidTests := true, laidLooks := .later }
def PduBackCardSaid : Prop := Claim7.holds Tryz.pinned (.plain (OpenSpec.ofChange pduBackSpec)) pduBackCard

/-- THE TIED CARD OF 'quaymasterkeep.PduOnly'. -/
def pduOnlyCard : Claim7 := { stood := { row := pduOnlyRow, standIns := [], harness := (true, "10a3544ee44488cfe2a41a61651966ac959e41b79ca31cd17e38d0f895794217"), looks := true }, kinds := [], alts := [], laidByText := true, laidKinds := [.data, .data, .data, .data, .handle, .sentinel, .sentinel, .listed, .data, .pinned], laidTests := true, laidLooks := .later }
def PduOnlyCardSaid : Prop := Claim7.holds Tryz.pinned (.plain (OpenSpec.ofChange pduOnlySpec)) pduOnlyCard

/-- THE TIED CARD OF 'quaymasterkeep.PduCut'. -/
def pduCutCard : Claim7 := { stood := { row := pduCutRow, standIns := [], harness := (true, "10a3544ee44488cfe2a41a61651966ac959e41b79ca31cd17e38d0f895794217"), looks := true }, kinds := [], alts := [], laidByText := true, laidKinds := [.data, .data, .data, .data, .handle, .sentinel, .sentinel, .listed, .data, .pinned], laidTests := true, laidLooks := .later }
def PduCutCardSaid : Prop := Claim7.holds Tryz.pinned (.plain (OpenSpec.ofChange pduCutSpec)) pduCutCard

/-- THE TIED CARD OF 'quaymasterkeep.PduTurned'. -/
def pduTurnedCard : Claim7 := { stood := { row := pduTurnedRow, standIns := [], harness := (true, "10a3544ee44488cfe2a41a61651966ac959e41b79ca31cd17e38d0f895794217"), looks := true }, kinds := [], alts := [], laidByText := true, laidKinds := [.data, .data, .data, .data, .handle, .sentinel, .sentinel, .listed, .data, .pinned], laidTests := true, laidLooks := .later }
def PduTurnedCardSaid : Prop := Claim7.holds Tryz.pinned (.plain (OpenSpec.ofChange pduTurnedSpec)) pduTurnedCard

/-- THE TIED CARD OF 'quaymasterkeep.PduLong'. -/
def pduLongCard : Claim7 := { stood := { row := pduLongRow, standIns := [], harness := (true, "10a3544ee44488cfe2a41a61651966ac959e41b79ca31cd17e38d0f895794217"), looks := true }, kinds := [], alts := [], laidByText := true, laidKinds := [.data, .data, .data, .data, .handle, .sentinel, .sentinel, .listed, .data, .pinned], laidTests := true, laidLooks := .later }
def PduLongCardSaid : Prop := Claim7.holds Tryz.pinned (.plain (OpenSpec.ofChange pduLongSpec)) pduLongCard

/-- THE TIED CARD OF 'quaymasterkeep.PduHead'. -/
def pduHeadCard : Claim7 := { stood := { row := pduHeadRow, standIns := [], harness := (true, "10a3544ee44488cfe2a41a61651966ac959e41b79ca31cd17e38d0f895794217"), looks := true }, kinds := [], alts := [], laidByText := true, laidKinds := [.data, .data, .data, .data, .handle, .sentinel, .sentinel, .listed, .data, .pinned], laidTests := true, laidLooks := .later }
def PduHeadCardSaid : Prop := Claim7.holds Tryz.pinned (.plain (OpenSpec.ofChange pduHeadSpec)) pduHeadCard

/-- THE TIED CARD OF 'quaymasterkeep.KeysTold'. -/
def keysToldCard : Claim7 := { stood := { row := keysToldRow, standIns := [], harness := (true, "10a3544ee44488cfe2a41a61651966ac959e41b79ca31cd17e38d0f895794217"), looks := true }, kinds := [], alts := [], laidByText := true, laidKinds := [.data, .data, .data, .data, .handle, .sentinel, .sentinel, .listed, .data, .pinned], laidTests := true, laidLooks := .later }
def KeysToldCardSaid : Prop := Claim7.holds Tryz.pinned (.plain (OpenSpec.ofChange keysToldSpec)) keysToldCard

/-- THE TIED CARD OF 'quaymasterkeep.KeysBoth'. -/
def keysBothCard : Claim7 := { stood := { row := keysBothRow, standIns := [], harness := (true, "10a3544ee44488cfe2a41a61651966ac959e41b79ca31cd17e38d0f895794217"), looks := true }, kinds := [], alts := [], laidByText := true, laidKinds := [.data, .data, .data, .data, .handle, .sentinel, .sentinel, .listed, .data, .pinned], laidTests := true, laidLooks := .later }
def KeysBothCardSaid : Prop := Claim7.holds Tryz.pinned (.plain (OpenSpec.ofChange keysBothSpec)) keysBothCard

/-- THE TIED CARD OF 'quaymasterkeep.KeysAgain'. -/
def keysAgainCard : Claim7 := { stood := { row := keysAgainRow, standIns := [], harness := (true, "10a3544ee44488cfe2a41a61651966ac959e41b79ca31cd17e38d0f895794217"), looks := true }, kinds := [], alts := [], laidByText := true, laidKinds := [.data, .data, .data, .data, .handle, .sentinel, .sentinel, .listed, .data, .pinned], laidTests := true, laidLooks := .later }
def KeysAgainCardSaid : Prop := Claim7.holds Tryz.pinned (.plain (OpenSpec.ofChange keysAgainSpec)) keysAgainCard

/-- THE TIED CARD OF 'quaymasterkeep.KeysBetween'. -/
def keysBetweenCard : Claim7 := { stood := { row := keysBetweenRow, standIns := [], harness := (true, "10a3544ee44488cfe2a41a61651966ac959e41b79ca31cd17e38d0f895794217"), looks := true }, kinds := [], alts := [], laidByText := true, laidKinds := [.data, .data, .data, .data, .handle, .sentinel, .sentinel, .listed, .data, .pinned], laidTests := true, laidLooks := .later }
def KeysBetweenCardSaid : Prop := Claim7.holds Tryz.pinned (.plain (OpenSpec.ofChange keysBetweenSpec)) keysBetweenCard

/-- THE SECOND FORM's CARD OF 'quaymasterkeep.PduBack'. -/
def pduBackUptoCard : Claim7 := { stood := { row := pduBackUptoRow, standIns := [], harness := (true, "10a3544ee44488cfe2a41a61651966ac959e41b79ca31cd17e38d0f895794217"), looks := true }, kinds := [], alts := [], laidByText := true, laidKinds := [.data, .data, .data, .data, .handle, .sentinel, .sentinel, .listed, .data, .pinned], laidTests := true, laidLooks := .later }
def PduBackUptoCardSaid : Prop := Claim7.holds Tryz.pinned (.plain (OpenSpec.upto pduBackSpec)) pduBackUptoCard

/-- THE SECOND FORM's CARD OF 'quaymasterkeep.PduOnly'. -/
def pduOnlyUptoCard : Claim7 := { stood := { row := pduOnlyUptoRow, standIns := [], harness := (true, "10a3544ee44488cfe2a41a61651966ac959e41b79ca31cd17e38d0f895794217"), looks := true }, kinds := [], alts := [], laidByText := true, laidKinds := [.data, .data, .data, .data, .handle, .sentinel, .sentinel, .listed, .data, .pinned], laidTests := true, laidLooks := .later }
def PduOnlyUptoCardSaid : Prop := Claim7.holds Tryz.pinned (.plain (OpenSpec.upto pduOnlySpec)) pduOnlyUptoCard

/-- THE SECOND FORM's CARD OF 'quaymasterkeep.PduCut'. -/
def pduCutUptoCard : Claim7 := { stood := { row := pduCutUptoRow, standIns := [], harness := (true, "10a3544ee44488cfe2a41a61651966ac959e41b79ca31cd17e38d0f895794217"), looks := true }, kinds := [], alts := [], laidByText := true, laidKinds := [.data, .data, .data, .data, .handle, .sentinel, .sentinel, .listed, .data, .pinned], laidTests := true, laidLooks := .later }
def PduCutUptoCardSaid : Prop := Claim7.holds Tryz.pinned (.plain (OpenSpec.upto pduCutSpec)) pduCutUptoCard

/-- THE SECOND FORM's CARD OF 'quaymasterkeep.PduTurned'. -/
def pduTurnedUptoCard : Claim7 := { stood := { row := pduTurnedUptoRow, standIns := [], harness := (true, "10a3544ee44488cfe2a41a61651966ac959e41b79ca31cd17e38d0f895794217"), looks := true }, kinds := [], alts := [], laidByText := true, laidKinds := [.data, .data, .data, .data, .handle, .sentinel, .sentinel, .listed, .data, .pinned], laidTests := true, laidLooks := .later }
def PduTurnedUptoCardSaid : Prop := Claim7.holds Tryz.pinned (.plain (OpenSpec.upto pduTurnedSpec)) pduTurnedUptoCard

/-- THE SECOND FORM's CARD OF 'quaymasterkeep.PduLong'. -/
def pduLongUptoCard : Claim7 := { stood := { row := pduLongUptoRow, standIns := [], harness := (true, "10a3544ee44488cfe2a41a61651966ac959e41b79ca31cd17e38d0f895794217"), looks := true }, kinds := [], alts := [], laidByText := true, laidKinds := [.data, .data, .data, .data, .handle, .sentinel, .sentinel, .listed, .data, .pinned], laidTests := true, laidLooks := .later }
def PduLongUptoCardSaid : Prop := Claim7.holds Tryz.pinned (.plain (OpenSpec.upto pduLongSpec)) pduLongUptoCard

/-- THE SECOND FORM's CARD OF 'quaymasterkeep.PduHead'. -/
def pduHeadUptoCard : Claim7 := { stood := { row := pduHeadUptoRow, standIns := [], harness := (true, "10a3544ee44488cfe2a41a61651966ac959e41b79ca31cd17e38d0f895794217"), looks := true }, kinds := [], alts := [], laidByText := true, laidKinds := [.data, .data, .data, .data, .handle, .sentinel, .sentinel, .listed, .data, .pinned], laidTests := true, laidLooks := .later }
def PduHeadUptoCardSaid : Prop := Claim7.holds Tryz.pinned (.plain (OpenSpec.upto pduHeadSpec)) pduHeadUptoCard

/-- THE SECOND FORM's CARD OF 'quaymasterkeep.KeysTold'. -/
def keysToldUptoCard : Claim7 := { stood := { row := keysToldUptoRow, standIns := [], harness := (true, "10a3544ee44488cfe2a41a61651966ac959e41b79ca31cd17e38d0f895794217"), looks := true }, kinds := [], alts := [], laidByText := true, laidKinds := [.data, .data, .data, .data, .handle, .sentinel, .sentinel, .listed, .data, .pinned], laidTests := true, laidLooks := .later }
def KeysToldUptoCardSaid : Prop := Claim7.holds Tryz.pinned (.plain (OpenSpec.upto keysToldSpec)) keysToldUptoCard

/-- THE SECOND FORM's CARD OF 'quaymasterkeep.KeysBoth'. -/
def keysBothUptoCard : Claim7 := { stood := { row := keysBothUptoRow, standIns := [], harness := (true, "10a3544ee44488cfe2a41a61651966ac959e41b79ca31cd17e38d0f895794217"), looks := true }, kinds := [], alts := [], laidByText := true, laidKinds := [.data, .data, .data, .data, .handle, .sentinel, .sentinel, .listed, .data, .pinned], laidTests := true, laidLooks := .later }
def KeysBothUptoCardSaid : Prop := Claim7.holds Tryz.pinned (.plain (OpenSpec.upto keysBothSpec)) keysBothUptoCard

/-- THE SECOND FORM's CARD OF 'quaymasterkeep.KeysAgain'. -/
def keysAgainUptoCard : Claim7 := { stood := { row := keysAgainUptoRow, standIns := [], harness := (true, "10a3544ee44488cfe2a41a61651966ac959e41b79ca31cd17e38d0f895794217"), looks := true }, kinds := [], alts := [], laidByText := true, laidKinds := [.data, .data, .data, .data, .handle, .sentinel, .sentinel, .listed, .data, .pinned], laidTests := true, laidLooks := .later }
def KeysAgainUptoCardSaid : Prop := Claim7.holds Tryz.pinned (.plain (OpenSpec.upto keysAgainSpec)) keysAgainUptoCard

/-- THE SECOND FORM's CARD OF 'quaymasterkeep.KeysBetween'. -/
def keysBetweenUptoCard : Claim7 := { stood := { row := keysBetweenUptoRow, standIns := [], harness := (true, "10a3544ee44488cfe2a41a61651966ac959e41b79ca31cd17e38d0f895794217"), looks := true }, kinds := [], alts := [], laidByText := true, laidKinds := [.data, .data, .data, .data, .handle, .sentinel, .sentinel, .listed, .data, .pinned], laidTests := true, laidLooks := .later }
def KeysBetweenUptoCardSaid : Prop := Claim7.holds Tryz.pinned (.plain (OpenSpec.upto keysBetweenSpec)) keysBetweenUptoCard
end Rows
end Go.Proofs.YtehellmpghfopaaGreatDoor
