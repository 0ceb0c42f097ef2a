/-
  DERIVED. GIVEN WITH THE SEED: THE CARDS: each row of YtecembemhjjdhaaGreatDoorRows.lean that lists a variable, with what it lists TIED to the program's text (the seventh form; the later family's looks); each row that meets fmt, with fmt's text TOLD by the authors' own Lean function (tested against real Go, not proved from fmt's source: count such statements apart). THE CARD IS WHAT COUNTS. Prove the row's statement (the work); the ties are given (YtecembemhjjdhaaGreatDoorTie.lean); close each card by the builder's one call (the guide's Derived/Test/ToyasCard.lean, 'card_holds'). Laid BY PROGRAM, IN A SANDBOX (cutbox-door.mjs). By AI agents, Wed Nov 11 2026. No macro, syntax, notation, axiom, sorry.
-/
import Derived.Test.YtecembemhjjdhaaGreatDoorRows
import GoSem.ClaimSeven
namespace Go.Proofs.YtecembemhjjdhaaGreatDoor
namespace Rows

/-- THE TIED CARD OF 'quaymasterkeep.KeysTold'. -/
def keysToldCard : Claim7 := { stood := { row := keysToldRow, standIns := [], harness := (true, "aad58fb5fb0c4bc589ab0a7b63a362e3d2944d68ce931331cee320ef56e0f490"), looks := true }, kinds := [], alts := [], laidByText := true, laidKinds := [.data, .data, .data, .data, .handle, .sentinel, .sentinel, .listed, .data, .pinned], laidTests := true, laidLooks := .later }
def KeysToldCardSaid : Prop := Claim7.holds Tryz.pinned (.plain (OpenSpec.ofChange keysToldSpec)) keysToldCard

/-- THE TIED CARD OF 'quaymasterkeep.KeysBoth'. -/
def keysBothCard : Claim7 := { stood := { row := keysBothRow, standIns := [], harness := (true, "aad58fb5fb0c4bc589ab0a7b63a362e3d2944d68ce931331cee320ef56e0f490"), looks := true }, kinds := [], alts := [], laidByText := true, laidKinds := [.data, .data, .data, .data, .handle, .sentinel, .sentinel, .listed, .data, .pinned], laidTests := true, laidLooks := .later }
def KeysBothCardSaid : Prop := Claim7.holds Tryz.pinned (.plain (OpenSpec.ofChange keysBothSpec)) keysBothCard

/-- THE TIED CARD OF 'quaymasterkeep.KeysAgain'. -/
def keysAgainCard : Claim7 := { stood := { row := keysAgainRow, standIns := [], harness := (true, "aad58fb5fb0c4bc589ab0a7b63a362e3d2944d68ce931331cee320ef56e0f490"), looks := true }, kinds := [], alts := [], laidByText := true, laidKinds := [.data, .data, .data, .data, .handle, .sentinel, .sentinel, .listed, .data, .pinned], laidTests := true, laidLooks := .later }
def KeysAgainCardSaid : Prop := Claim7.holds Tryz.pinned (.plain (OpenSpec.ofChange keysAgainSpec)) keysAgainCard

/-- THE TIED CARD OF 'quaymasterkeep.KeysBetween'. -/
def keysBetweenCard : Claim7 := { stood := { row := keysBetweenRow, standIns := [], harness := (true, "aad58fb5fb0c4bc589ab0a7b63a362e3d2944d68ce931331cee320ef56e0f490"), looks := true }, kinds := [], alts := [], laidByText := true, laidKinds := [.data, .data, .data, .data, .handle, .sentinel, .sentinel, .listed, .data, .pinned], laidTests := true, laidLooks := .later }
def KeysBetweenCardSaid : Prop := Claim7.holds Tryz.pinned (.plain (OpenSpec.ofChange keysBetweenSpec)) keysBetweenCard

/-- THE TIED CARD OF 'quaymasterkeep.KeysYes'. -/
def keysYesCard : Claim7 := { stood := { row := keysYesRow, standIns := [], harness := (true, "aad58fb5fb0c4bc589ab0a7b63a362e3d2944d68ce931331cee320ef56e0f490"), looks := true }, kinds := [], alts := [], laidByText := true, laidKinds := [.data, .data, .data, .data, .handle, .sentinel, .sentinel, .listed, .data, .pinned], laidTests := true, laidLooks := .later }
def KeysYesCardSaid : Prop := Claim7.holds Tryz.pinned (.plain (OpenSpec.ofChange keysYesSpec)) keysYesCard

/-- THE TIED CARD OF 'quaymasterkeep.KeysFirst'. -/
def keysFirstCard : Claim7 := { stood := { row := keysFirstRow, standIns := [], harness := (true, "aad58fb5fb0c4bc589ab0a7b63a362e3d2944d68ce931331cee320ef56e0f490"), looks := true }, kinds := [], alts := [], laidByText := true, laidKinds := [.data, .data, .data, .data, .handle, .sentinel, .sentinel, .listed, .data, .pinned], laidTests := true, laidLooks := .later }
def KeysFirstCardSaid : Prop := Claim7.holds Tryz.pinned (.plain (OpenSpec.ofChange keysFirstSpec)) keysFirstCard

/-- THE TIED CARD OF 'quaymasterkeep.KeysLists'. -/
def keysListsCard : Claim7 := { stood := { row := keysListsRow, standIns := [], harness := (true, "aad58fb5fb0c4bc589ab0a7b63a362e3d2944d68ce931331cee320ef56e0f490"), looks := true }, kinds := [], alts := [], laidByText := true, laidKinds := [.data, .data, .data, .data, .handle, .sentinel, .sentinel, .listed, .data, .pinned], laidTests := true, laidLooks := .later }
def KeysListsCardSaid : Prop := Claim7.holds Tryz.pinned (.plain (OpenSpec.ofChange keysListsSpec)) keysListsCard

/-- THE TIED CARD OF 'quaymasterkeep.KeysDefaults'. -/
def keysDefaultsCard : Claim7 := { stood := { row := keysDefaultsRow, standIns := [], harness := (true, "aad58fb5fb0c4bc589ab0a7b63a362e3d2944d68ce931331cee320ef56e0f490"), looks := true }, kinds := [], alts := [], laidByText := true, laidKinds := [.data, .data, .data, .data, .handle, .sentinel, .sentinel, .listed, .data, .pinned], laidTests := true, laidLooks := .later }
def KeysDefaultsCardSaid : Prop := Claim7.holds Tryz.pinned (.plain (OpenSpec.ofChange keysDefaultsSpec)) keysDefaultsCard

/-- THE TIED CARD OF 'quaymasterkeep.KeysNumbers'. -/
def keysNumbersCard : Claim7 := { stood := { row := keysNumbersRow, standIns := [], harness := (true, "aad58fb5fb0c4bc589ab0a7b63a362e3d2944d68ce931331cee320ef56e0f490"), looks := true }, kinds := [], alts := [], laidByText := true, laidKinds := [.data, .data, .data, .data, .handle, .sentinel, .sentinel, .listed, .data, .pinned, .pinned], laidTests := true, laidLooks := .later }
def KeysNumbersCardSaid : Prop := Claim7.holds Tryz.pinned (.plain (OpenSpec.ofChange keysNumbersSpec)) keysNumbersCard

/-- THE TIED CARD OF 'quaymasterkeep.TargetHas'. -/
def targetHasCard : Claim7 := { stood := { row := targetHasRow, standIns := [], harness := (true, "aad58fb5fb0c4bc589ab0a7b63a362e3d2944d68ce931331cee320ef56e0f490"), looks := true }, kinds := [], alts := [], laidByText := true, laidKinds := [.data, .data, .data, .data, .handle, .sentinel, .sentinel, .listed, .data, .pinned], laidTests := true, laidLooks := .later }
def TargetHasCardSaid : Prop := Claim7.holds Tryz.pinned (.plain (OpenSpec.ofChange targetHasSpec)) targetHasCard

/-- THE TIED CARD OF 'quaymasterkeep.TargetNone'. -/
def targetNoneCard : Claim7 := { stood := { row := targetNoneRow, standIns := [], harness := (true, "aad58fb5fb0c4bc589ab0a7b63a362e3d2944d68ce931331cee320ef56e0f490"), looks := true }, kinds := [], alts := [], laidByText := true, laidKinds := [.data, .data, .data, .data, .handle, .sentinel, .sentinel, .listed, .data, .pinned], laidTests := true, laidLooks := .later }
def TargetNoneCardSaid : Prop := Claim7.holds Tryz.pinned (.plain (OpenSpec.ofChange targetNoneSpec)) targetNoneCard

/-- THE TIED CARD OF 'quaymasterkeep.TargetLess'. -/
def targetLessCard : Claim7 := { stood := { row := targetLessRow, standIns := [], harness := (true, "aad58fb5fb0c4bc589ab0a7b63a362e3d2944d68ce931331cee320ef56e0f490"), looks := true }, kinds := [], alts := [], laidByText := true, laidKinds := [.data, .data, .data, .data, .handle, .sentinel, .sentinel, .listed, .data, .pinned], laidTests := true, laidLooks := .later }
def TargetLessCardSaid : Prop := Claim7.holds Tryz.pinned (.plain (OpenSpec.ofChange targetLessSpec)) targetLessCard

/-- THE TIED CARD OF 'quaymasterkeep.TargetAll'. -/
def targetAllCard : Claim7 := { stood := { row := targetAllRow, standIns := [], harness := (true, "aad58fb5fb0c4bc589ab0a7b63a362e3d2944d68ce931331cee320ef56e0f490"), looks := true }, kinds := [], alts := [], laidByText := true, laidKinds := [.data, .data, .data, .data, .handle, .sentinel, .sentinel, .listed, .data, .pinned], laidTests := true, laidLooks := .later }
def TargetAllCardSaid : Prop := Claim7.holds Tryz.pinned (.plain (OpenSpec.ofChange targetAllSpec)) targetAllCard

/-- THE TIED CARD OF 'quaymasterkeep.FeedStops'. -/
def feedStopsCard : Claim7 := { stood := { row := feedStopsRow, standIns := [], harness := (true, "aad58fb5fb0c4bc589ab0a7b63a362e3d2944d68ce931331cee320ef56e0f490"), looks := true }, kinds := [], alts := [], laidByText := true, laidKinds := [.data, .data, .data, .data, .handle, .sentinel, .sentinel, .listed, .data, .pinned], laidTests := true, laidLooks := .later }
def FeedStopsCardSaid : Prop := Claim7.holds Tryz.pinned (.plain (OpenSpec.ofChange feedStopsSpec)) feedStopsCard

/-- THE TIED CARD OF 'quaymasterkeep.FeedSpoilt'. -/
def feedSpoiltCard : Claim7 := { stood := { row := feedSpoiltRow, standIns := [], harness := (true, "aad58fb5fb0c4bc589ab0a7b63a362e3d2944d68ce931331cee320ef56e0f490"), looks := true }, kinds := [], alts := [], laidByText := true, laidKinds := [.data, .data, .data, .data, .handle, .sentinel, .sentinel, .listed, .data, .pinned], laidTests := true, laidLooks := .later }
def FeedSpoiltCardSaid : Prop := Claim7.holds Tryz.pinned (.plain (OpenSpec.ofChange feedSpoiltSpec)) feedSpoiltCard

/-- THE TIED CARD OF 'quaymasterkeep.FeedOne'. -/
def feedOneCard : Claim7 := { stood := { row := feedOneRow, standIns := [], harness := (true, "aad58fb5fb0c4bc589ab0a7b63a362e3d2944d68ce931331cee320ef56e0f490"), looks := true }, kinds := [], alts := [], laidByText := true, laidKinds := [.data, .data, .data, .data, .handle, .sentinel, .sentinel, .listed, .data, .pinned], laidTests := true, laidLooks := .later }
def FeedOneCardSaid : Prop := Claim7.holds Tryz.pinned (.plain (OpenSpec.ofChange feedOneSpec)) feedOneCard

/-- THE TIED CARD OF 'quaymasterkeep.FeedBack'. -/
def feedBackCard : Claim7 := { stood := { row := feedBackRow, standIns := [], harness := (true, "aad58fb5fb0c4bc589ab0a7b63a362e3d2944d68ce931331cee320ef56e0f490"), looks := true }, kinds := [], alts := [], laidByText := true, laidKinds := [.data, .data, .data, .data, .handle, .sentinel, .sentinel, .listed, .data, .pinned], laidTests := true, laidLooks := .later }
def FeedBackCardSaid : Prop := Claim7.holds Tryz.pinned (.plain (OpenSpec.ofChange feedBackSpec)) feedBackCard

/-- THE TIED CARD OF 'quaymasterkeep.FeedCuts'. -/
def feedCutsCard : Claim7 := { stood := { row := feedCutsRow, standIns := [], harness := (true, "aad58fb5fb0c4bc589ab0a7b63a362e3d2944d68ce931331cee320ef56e0f490"), looks := true }, kinds := [], alts := [], laidByText := true, laidKinds := [.data, .data, .data, .data, .handle, .sentinel, .sentinel, .listed, .data, .pinned], laidTests := true, laidLooks := .later }
def FeedCutsCardSaid : Prop := Claim7.holds Tryz.pinned (.plain (OpenSpec.ofChange feedCutsSpec)) feedCutsCard

/-- THE TIED CARD OF 'quaymasterkeep.FeedLimit'. -/
def feedLimitCard : Claim7 := { stood := { row := feedLimitRow, standIns := [], harness := (true, "aad58fb5fb0c4bc589ab0a7b63a362e3d2944d68ce931331cee320ef56e0f490"), looks := true }, kinds := [], alts := [], laidByText := true, laidKinds := [.data, .data, .data, .data, .handle, .sentinel, .sentinel, .listed, .data, .pinned], laidTests := true, laidLooks := .later }
def FeedLimitCardSaid : Prop := Claim7.holds Tryz.pinned (.plain (OpenSpec.ofChange feedLimitSpec)) feedLimitCard

/-- THE SECOND FORM's CARD OF 'quaymasterkeep.KeysTold'. -/
def keysToldUptoCard : Claim7 := { stood := { row := keysToldUptoRow, standIns := [], harness := (true, "aad58fb5fb0c4bc589ab0a7b63a362e3d2944d68ce931331cee320ef56e0f490"), looks := true }, kinds := [], alts := [], laidByText := true, laidKinds := [.data, .data, .data, .data, .handle, .sentinel, .sentinel, .listed, .data, .pinned], laidTests := true, laidLooks := .later }
def KeysToldUptoCardSaid : Prop := Claim7.holds Tryz.pinned (.plain (OpenSpec.upto keysToldSpec)) keysToldUptoCard

/-- THE SECOND FORM's CARD OF 'quaymasterkeep.KeysBoth'. -/
def keysBothUptoCard : Claim7 := { stood := { row := keysBothUptoRow, standIns := [], harness := (true, "aad58fb5fb0c4bc589ab0a7b63a362e3d2944d68ce931331cee320ef56e0f490"), looks := true }, kinds := [], alts := [], laidByText := true, laidKinds := [.data, .data, .data, .data, .handle, .sentinel, .sentinel, .listed, .data, .pinned], laidTests := true, laidLooks := .later }
def KeysBothUptoCardSaid : Prop := Claim7.holds Tryz.pinned (.plain (OpenSpec.upto keysBothSpec)) keysBothUptoCard

/-- THE SECOND FORM's CARD OF 'quaymasterkeep.KeysAgain'. -/
def keysAgainUptoCard : Claim7 := { stood := { row := keysAgainUptoRow, standIns := [], harness := (true, "aad58fb5fb0c4bc589ab0a7b63a362e3d2944d68ce931331cee320ef56e0f490"), looks := true }, kinds := [], alts := [], laidByText := true, laidKinds := [.data, .data, .data, .data, .handle, .sentinel, .sentinel, .listed, .data, .pinned], laidTests := true, laidLooks := .later }
def KeysAgainUptoCardSaid : Prop := Claim7.holds Tryz.pinned (.plain (OpenSpec.upto keysAgainSpec)) keysAgainUptoCard

/-- THE SECOND FORM's CARD OF 'quaymasterkeep.KeysBetween'. -/
def keysBetweenUptoCard : Claim7 := { stood := { row := keysBetweenUptoRow, standIns := [], harness := (true, "aad58fb5fb0c4bc589ab0a7b63a362e3d2944d68ce931331cee320ef56e0f490"), looks := true }, kinds := [], alts := [], laidByText := true, laidKinds := [.data, .data, .data, .data, .handle, .sentinel, .sentinel, .listed, .data, .pinned], laidTests := true, laidLooks := .later }
def KeysBetweenUptoCardSaid : Prop := Claim7.holds Tryz.pinned (.plain (OpenSpec.upto keysBetweenSpec)) keysBetweenUptoCard

/-- THE SECOND FORM's CARD OF 'quaymasterkeep.KeysYes'. -/
def keysYesUptoCard : Claim7 := { stood := { row := keysYesUptoRow, standIns := [], harness := (true, "aad58fb5fb0c4bc589ab0a7b63a362e3d2944d68ce931331cee320ef56e0f490"), looks := true }, kinds := [], alts := [], laidByText := true, laidKinds := [.data, .data, .data, .data, .handle, .sentinel, .sentinel, .listed, .data, .pinned], laidTests := true, laidLooks := .later }
def KeysYesUptoCardSaid : Prop := Claim7.holds Tryz.pinned (.plain (OpenSpec.upto keysYesSpec)) keysYesUptoCard

/-- THE SECOND FORM's CARD OF 'quaymasterkeep.KeysFirst'. -/
def keysFirstUptoCard : Claim7 := { stood := { row := keysFirstUptoRow, standIns := [], harness := (true, "aad58fb5fb0c4bc589ab0a7b63a362e3d2944d68ce931331cee320ef56e0f490"), looks := true }, kinds := [], alts := [], laidByText := true, laidKinds := [.data, .data, .data, .data, .handle, .sentinel, .sentinel, .listed, .data, .pinned], laidTests := true, laidLooks := .later }
def KeysFirstUptoCardSaid : Prop := Claim7.holds Tryz.pinned (.plain (OpenSpec.upto keysFirstSpec)) keysFirstUptoCard

/-- THE SECOND FORM's CARD OF 'quaymasterkeep.KeysLists'. -/
def keysListsUptoCard : Claim7 := { stood := { row := keysListsUptoRow, standIns := [], harness := (true, "aad58fb5fb0c4bc589ab0a7b63a362e3d2944d68ce931331cee320ef56e0f490"), looks := true }, kinds := [], alts := [], laidByText := true, laidKinds := [.data, .data, .data, .data, .handle, .sentinel, .sentinel, .listed, .data, .pinned], laidTests := true, laidLooks := .later }
def KeysListsUptoCardSaid : Prop := Claim7.holds Tryz.pinned (.plain (OpenSpec.upto keysListsSpec)) keysListsUptoCard

/-- THE SECOND FORM's CARD OF 'quaymasterkeep.KeysDefaults'. -/
def keysDefaultsUptoCard : Claim7 := { stood := { row := keysDefaultsUptoRow, standIns := [], harness := (true, "aad58fb5fb0c4bc589ab0a7b63a362e3d2944d68ce931331cee320ef56e0f490"), looks := true }, kinds := [], alts := [], laidByText := true, laidKinds := [.data, .data, .data, .data, .handle, .sentinel, .sentinel, .listed, .data, .pinned], laidTests := true, laidLooks := .later }
def KeysDefaultsUptoCardSaid : Prop := Claim7.holds Tryz.pinned (.plain (OpenSpec.upto keysDefaultsSpec)) keysDefaultsUptoCard

/-- THE SECOND FORM's CARD OF 'quaymasterkeep.KeysNumbers'. -/
def keysNumbersUptoCard : Claim7 := { stood := { row := keysNumbersUptoRow, standIns := [], harness := (true, "aad58fb5fb0c4bc589ab0a7b63a362e3d2944d68ce931331cee320ef56e0f490"), looks := true }, kinds := [], alts := [], laidByText := true, laidKinds := [.data, .data, .data, .data, .handle, .sentinel, .sentinel, .listed, .data, .pinned, .pinned], laidTests := true, laidLooks := .later }
def KeysNumbersUptoCardSaid : Prop := Claim7.holds Tryz.pinned (.plain (OpenSpec.upto keysNumbersSpec)) keysNumbersUptoCard

/-- THE SECOND FORM's CARD OF 'quaymasterkeep.TargetHas'. -/
def targetHasUptoCard : Claim7 := { stood := { row := targetHasUptoRow, standIns := [], harness := (true, "aad58fb5fb0c4bc589ab0a7b63a362e3d2944d68ce931331cee320ef56e0f490"), looks := true }, kinds := [], alts := [], laidByText := true, laidKinds := [.data, .data, .data, .data, .handle, .sentinel, .sentinel, .listed, .data, .pinned], laidTests := true, laidLooks := .later }
def TargetHasUptoCardSaid : Prop := Claim7.holds Tryz.pinned (.plain (OpenSpec.upto targetHasSpec)) targetHasUptoCard

/-- THE SECOND FORM's CARD OF 'quaymasterkeep.TargetNone'. -/
def targetNoneUptoCard : Claim7 := { stood := { row := targetNoneUptoRow, standIns := [], harness := (true, "aad58fb5fb0c4bc589ab0a7b63a362e3d2944d68ce931331cee320ef56e0f490"), looks := true }, kinds := [], alts := [], laidByText := true, laidKinds := [.data, .data, .data, .data, .handle, .sentinel, .sentinel, .listed, .data, .pinned], laidTests := true, laidLooks := .later }
def TargetNoneUptoCardSaid : Prop := Claim7.holds Tryz.pinned (.plain (OpenSpec.upto targetNoneSpec)) targetNoneUptoCard

/-- THE SECOND FORM's CARD OF 'quaymasterkeep.TargetLess'. -/
def targetLessUptoCard : Claim7 := { stood := { row := targetLessUptoRow, standIns := [], harness := (true, "aad58fb5fb0c4bc589ab0a7b63a362e3d2944d68ce931331cee320ef56e0f490"), looks := true }, kinds := [], alts := [], laidByText := true, laidKinds := [.data, .data, .data, .data, .handle, .sentinel, .sentinel, .listed, .data, .pinned], laidTests := true, laidLooks := .later }
def TargetLessUptoCardSaid : Prop := Claim7.holds Tryz.pinned (.plain (OpenSpec.upto targetLessSpec)) targetLessUptoCard

/-- THE SECOND FORM's CARD OF 'quaymasterkeep.TargetAll'. -/
def targetAllUptoCard : Claim7 := { stood := { row := targetAllUptoRow, standIns := [], harness := (true, "aad58fb5fb0c4bc589ab0a7b63a362e3d2944d68ce931331cee320ef56e0f490"), looks := true }, kinds := [], alts := [], laidByText := true, laidKinds := [.data, .data, .data, .data, .handle, .sentinel, .sentinel, .listed, .data, .pinned], laidTests := true, laidLooks := .later }
def TargetAllUptoCardSaid : Prop := Claim7.holds Tryz.pinned (.plain (OpenSpec.upto targetAllSpec)) targetAllUptoCard

/-- THE SECOND FORM's CARD OF 'quaymasterkeep.FeedStops'. -/
def feedStopsUptoCard : Claim7 := { stood := { row := feedStopsUptoRow, standIns := [], harness := (true, "aad58fb5fb0c4bc589ab0a7b63a362e3d2944d68ce931331cee320ef56e0f490"), looks := true }, kinds := [], alts := [], laidByText := true, laidKinds := [.data, .data, .data, .data, .handle, .sentinel, .sentinel, .listed, .data, .pinned], laidTests := true, laidLooks := .later }
def FeedStopsUptoCardSaid : Prop := Claim7.holds Tryz.pinned (.plain (OpenSpec.upto feedStopsSpec)) feedStopsUptoCard

/-- THE SECOND FORM's CARD OF 'quaymasterkeep.FeedSpoilt'. -/
def feedSpoiltUptoCard : Claim7 := { stood := { row := feedSpoiltUptoRow, standIns := [], harness := (true, "aad58fb5fb0c4bc589ab0a7b63a362e3d2944d68ce931331cee320ef56e0f490"), looks := true }, kinds := [], alts := [], laidByText := true, laidKinds := [.data, .data, .data, .data, .handle, .sentinel, .sentinel, .listed, .data, .pinned], laidTests := true, laidLooks := .later }
def FeedSpoiltUptoCardSaid : Prop := Claim7.holds Tryz.pinned (.plain (OpenSpec.upto feedSpoiltSpec)) feedSpoiltUptoCard

/-- THE SECOND FORM's CARD OF 'quaymasterkeep.FeedOne'. -/
def feedOneUptoCard : Claim7 := { stood := { row := feedOneUptoRow, standIns := [], harness := (true, "aad58fb5fb0c4bc589ab0a7b63a362e3d2944d68ce931331cee320ef56e0f490"), looks := true }, kinds := [], alts := [], laidByText := true, laidKinds := [.data, .data, .data, .data, .handle, .sentinel, .sentinel, .listed, .data, .pinned], laidTests := true, laidLooks := .later }
def FeedOneUptoCardSaid : Prop := Claim7.holds Tryz.pinned (.plain (OpenSpec.upto feedOneSpec)) feedOneUptoCard

/-- THE SECOND FORM's CARD OF 'quaymasterkeep.FeedBack'. -/
def feedBackUptoCard : Claim7 := { stood := { row := feedBackUptoRow, standIns := [], harness := (true, "aad58fb5fb0c4bc589ab0a7b63a362e3d2944d68ce931331cee320ef56e0f490"), looks := true }, kinds := [], alts := [], laidByText := true, laidKinds := [.data, .data, .data, .data, .handle, .sentinel, .sentinel, .listed, .data, .pinned], laidTests := true, laidLooks := .later }
def FeedBackUptoCardSaid : Prop := Claim7.holds Tryz.pinned (.plain (OpenSpec.upto feedBackSpec)) feedBackUptoCard

/-- THE SECOND FORM's CARD OF 'quaymasterkeep.FeedCuts'. -/
def feedCutsUptoCard : Claim7 := { stood := { row := feedCutsUptoRow, standIns := [], harness := (true, "aad58fb5fb0c4bc589ab0a7b63a362e3d2944d68ce931331cee320ef56e0f490"), looks := true }, kinds := [], alts := [], laidByText := true, laidKinds := [.data, .data, .data, .data, .handle, .sentinel, .sentinel, .listed, .data, .pinned], laidTests := true, laidLooks := .later }
def FeedCutsUptoCardSaid : Prop := Claim7.holds Tryz.pinned (.plain (OpenSpec.upto feedCutsSpec)) feedCutsUptoCard

/-- THE SECOND FORM's CARD OF 'quaymasterkeep.FeedLimit'. -/
def feedLimitUptoCard : Claim7 := { stood := { row := feedLimitUptoRow, standIns := [], harness := (true, "aad58fb5fb0c4bc589ab0a7b63a362e3d2944d68ce931331cee320ef56e0f490"), looks := true }, kinds := [], alts := [], laidByText := true, laidKinds := [.data, .data, .data, .data, .handle, .sentinel, .sentinel, .listed, .data, .pinned], laidTests := true, laidLooks := .later }
def FeedLimitUptoCardSaid : Prop := Claim7.holds Tryz.pinned (.plain (OpenSpec.upto feedLimitSpec)) feedLimitUptoCard
end Rows
end Go.Proofs.YtecembemhjjdhaaGreatDoor
