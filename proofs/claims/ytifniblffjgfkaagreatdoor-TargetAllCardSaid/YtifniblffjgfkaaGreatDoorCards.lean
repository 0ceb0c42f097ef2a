/-
  DERIVED. GIVEN WITH THE SEED: THE CARDS: each row of YtifniblffjgfkaaGreatDoorRows.lean that lists a variable, with what it lists TIED to the program's text (the seventh form; the later family's looks); each row that meets fmt, with fmt's text TOLD by the authors' own Lean function (tested against real Go, not proved from fmt's source: count such statements apart). THE CARD IS WHAT COUNTS. Prove the row's statement (the work); the ties are given (YtifniblffjgfkaaGreatDoorTie.lean); close each card by the builder's one call (the guide's Derived/Test/ToyasCard.lean, 'card_holds'). Laid BY PROGRAM, IN A SANDBOX (cutbox-door.mjs). By AI agents, Wed Nov 11 2026. No macro, syntax, notation, axiom, sorry.
-/
import Derived.Test.YtifniblffjgfkaaGreatDoorRows
import GoSem.ClaimSeven
namespace Go.Proofs.YtifniblffjgfkaaGreatDoor
namespace Rows

/-- THE TIED CARD OF 'quaymasterkeep.FeedStops'. -/
def feedStopsCard : Claim7 := { stood := { row := feedStopsRow, standIns := [], harness := (true, "8a1528320fb5612123319c0a34c45356fad563928598becf0b402f7bc7a6df6d"), looks := true }, kinds := [], alts := [], laidByText := true, laidKinds := [.data, .data, .data, .data, .handle, .sentinel, .sentinel, .listed, .data, .pinned], laidTests := true, laidLooks := .later }
def FeedStopsCardSaid : Prop := Claim7.holds Tryz.pinned (.plain (OpenSpec.ofChange feedStopsSpec)) feedStopsCard

/-- THE TIED CARD OF 'quaymasterkeep.FeedSpoilt'. -/
def feedSpoiltCard : Claim7 := { stood := { row := feedSpoiltRow, standIns := [], harness := (true, "8a1528320fb5612123319c0a34c45356fad563928598becf0b402f7bc7a6df6d"), looks := true }, kinds := [], alts := [], laidByText := true, laidKinds := [.data, .data, .data, .data, .handle, .sentinel, .sentinel, .listed, .data, .pinned], laidTests := true, laidLooks := .later }
def FeedSpoiltCardSaid : Prop := Claim7.holds Tryz.pinned (.plain (OpenSpec.ofChange feedSpoiltSpec)) feedSpoiltCard

/-- THE TIED CARD OF 'quaymasterkeep.FeedOne'. -/
def feedOneCard : Claim7 := { stood := { row := feedOneRow, standIns := [], harness := (true, "8a1528320fb5612123319c0a34c45356fad563928598becf0b402f7bc7a6df6d"), looks := true }, kinds := [], alts := [], laidByText := true, laidKinds := [.data, .data, .data, .data, .handle, .sentinel, .sentinel, .listed, .data, .pinned], laidTests := true, laidLooks := .later }
def FeedOneCardSaid : Prop := Claim7.holds Tryz.pinned (.plain (OpenSpec.ofChange feedOneSpec)) feedOneCard

/-- THE TIED CARD OF 'quaymasterkeep.FeedBack'. -/
def feedBackCard : Claim7 := { stood := { row := feedBackRow, standIns := [], harness := (true, "8a1528320fb5612123319c0a34c45356fad563928598becf0b402f7bc7a6df6d"), looks := true }, kinds := [], alts := [], laidByText := true, laidKinds := [.data, .data, .data, .data, .handle, .sentinel, .sentinel, .listed, .data, .pinned], laidTests := true, laidLooks := .later }
def FeedBackCardSaid : Prop := Claim7.holds Tryz.pinned (.plain (OpenSpec.ofChange feedBackSpec)) feedBackCard

/-- THE TIED CARD OF 'quaymasterkeep.FeedCuts'. -/
def feedCutsCard : Claim7 := { stood := { row := feedCutsRow, standIns := [], harness := (true, "8a1528320fb5612123319c0a34c45356fad563928598becf0b402f7bc7a6df6d"), looks := true }, kinds := [], alts := [], laidByText := true, laidKinds := [.data, .data, .data, .data, .handle, .sentinel, .sentinel, .listed, .data, .pinned], laidTests := true, laidLooks := .later }
def FeedCutsCardSaid : Prop := Claim7.holds Tryz.pinned (.plain (OpenSpec.ofChange feedCutsSpec)) feedCutsCard

/-- THE TIED CARD OF 'quaymasterkeep.FeedLimit'. -/
def feedLimitCard : Claim7 := { stood := { row := feedLimitRow, standIns := [], harness := (true, "8a1528320fb5612123319c0a34c45356fad563928598becf0b402f7bc7a6df6d"), looks := true }, kinds := [], alts := [], laidByText := true, laidKinds := [.data, .data, .data, .data, .handle, .sentinel, .sentinel, .listed, .data, .pinned], laidTests := true, laidLooks := .later }
def FeedLimitCardSaid : Prop := Claim7.holds Tryz.pinned (.plain (OpenSpec.ofChange feedLimitSpec)) feedLimitCard

/-- THE TIED CARD OF 'quaymasterkeep.TargetHas'. -/
def targetHasCard : Claim7 := { stood := { row := targetHasRow, standIns := [], harness := (true, "8a1528320fb5612123319c0a34c45356fad563928598becf0b402f7bc7a6df6d"), looks := true }, kinds := [], alts := [], laidByText := true, laidKinds := [.data, .data, .data, .data, .handle, .sentinel, .sentinel, .listed, .data, .pinned], laidTests := true, laidLooks := .later }
def TargetHasCardSaid : Prop := Claim7.holds Tryz.pinned (.plain (OpenSpec.ofChange targetHasSpec)) targetHasCard

/-- THE TIED CARD OF 'quaymasterkeep.TargetNone'. -/
def targetNoneCard : Claim7 := { stood := { row := targetNoneRow, standIns := [], harness := (true, "8a1528320fb5612123319c0a34c45356fad563928598becf0b402f7bc7a6df6d"), looks := true }, kinds := [], alts := [], laidByText := true, laidKinds := [.data, .data, .data, .data, .handle, .sentinel, .sentinel, .listed, .data, .pinned], laidTests := true, laidLooks := .later }
def TargetNoneCardSaid : Prop := Claim7.holds Tryz.pinned (.plain (OpenSpec.ofChange targetNoneSpec)) targetNoneCard

/-- THE TIED CARD OF 'quaymasterkeep.TargetLess'. -/
def targetLessCard : Claim7 := { stood := { row := targetLessRow, standIns := [], harness := (true, "8a1528320fb5612123319c0a34c45356fad563928598becf0b402f7bc7a6df6d"), looks := true }, kinds := [], alts := [], laidByText := true, laidKinds := [.data, .data, .data, .data, .handle, .sentinel, .sentinel, .listed, .data, .pinned], laidTests := true, laidLooks := .later }
def TargetLessCardSaid : Prop := Claim7.holds Tryz.pinned (.plain (OpenSpec.ofChange targetLessSpec)) targetLessCard

/-- THE TIED CARD OF 'quaymasterkeep.TargetAll'. -/
def targetAllCard : Claim7 := { stood := { row := targetAllRow, standIns := [], harness := (true, "8a1528320fb5612123319c0a34c45356fad563928598becf0b402f7bc7a6df6d"), looks := true }, kinds := [], alts := [], laidByText := true, laidKinds := [.data, .data, .data, .data, .handle, .sentinel, .sentinel, .listed, .data, .pinned], laidTests := true, laidLooks := .later }
def TargetAllCardSaid : Prop := Claim7.holds Tryz.pinned (.plain (OpenSpec.ofChange targetAllSpec)) targetAllCard

/-- THE SECOND FORM's CARD OF 'quaymasterkeep.FeedStops'. -/
def feedStopsUptoCard : Claim7 := { stood := { row := feedStopsUptoRow, standIns := [], harness := (true, "8a1528320fb5612123319c0a34c45356fad563928598becf0b402f7bc7a6df6d"), looks := true }, kinds := [], alts := [], laidByText := true, laidKinds := [.data, .data, .data, .data, .handle, .sentinel, .sentinel, .listed, .data, .pinned], laidTests := true, laidLooks := .later }
def FeedStopsUptoCardSaid : Prop := Claim7.holds Tryz.pinned (.plain (OpenSpec.upto feedStopsSpec)) feedStopsUptoCard

/-- THE SECOND FORM's CARD OF 'quaymasterkeep.FeedSpoilt'. -/
def feedSpoiltUptoCard : Claim7 := { stood := { row := feedSpoiltUptoRow, standIns := [], harness := (true, "8a1528320fb5612123319c0a34c45356fad563928598becf0b402f7bc7a6df6d"), looks := true }, kinds := [], alts := [], laidByText := true, laidKinds := [.data, .data, .data, .data, .handle, .sentinel, .sentinel, .listed, .data, .pinned], laidTests := true, laidLooks := .later }
def FeedSpoiltUptoCardSaid : Prop := Claim7.holds Tryz.pinned (.plain (OpenSpec.upto feedSpoiltSpec)) feedSpoiltUptoCard

/-- THE SECOND FORM's CARD OF 'quaymasterkeep.FeedOne'. -/
def feedOneUptoCard : Claim7 := { stood := { row := feedOneUptoRow, standIns := [], harness := (true, "8a1528320fb5612123319c0a34c45356fad563928598becf0b402f7bc7a6df6d"), looks := true }, kinds := [], alts := [], laidByText := true, laidKinds := [.data, .data, .data, .data, .handle, .sentinel, .sentinel, .listed, .data, .pinned], laidTests := true, laidLooks := .later }
def FeedOneUptoCardSaid : Prop := Claim7.holds Tryz.pinned (.plain (OpenSpec.upto feedOneSpec)) feedOneUptoCard

/-- THE SECOND FORM's CARD OF 'quaymasterkeep.FeedBack'. -/
def feedBackUptoCard : Claim7 := { stood := { row := feedBackUptoRow, standIns := [], harness := (true, "8a1528320fb5612123319c0a34c45356fad563928598becf0b402f7bc7a6df6d"), looks := true }, kinds := [], alts := [], laidByText := true, laidKinds := [.data, .data, .data, .data, .handle, .sentinel, .sentinel, .listed, .data, .pinned], laidTests := true, laidLooks := .later }
def FeedBackUptoCardSaid : Prop := Claim7.holds Tryz.pinned (.plain (OpenSpec.upto feedBackSpec)) feedBackUptoCard

/-- THE SECOND FORM's CARD OF 'quaymasterkeep.FeedCuts'. -/
def feedCutsUptoCard : Claim7 := { stood := { row := feedCutsUptoRow, standIns := [], harness := (true, "8a1528320fb5612123319c0a34c45356fad563928598becf0b402f7bc7a6df6d"), looks := true }, kinds := [], alts := [], laidByText := true, laidKinds := [.data, .data, .data, .data, .handle, .sentinel, .sentinel, .listed, .data, .pinned], laidTests := true, laidLooks := .later }
def FeedCutsUptoCardSaid : Prop := Claim7.holds Tryz.pinned (.plain (OpenSpec.upto feedCutsSpec)) feedCutsUptoCard

/-- THE SECOND FORM's CARD OF 'quaymasterkeep.FeedLimit'. -/
def feedLimitUptoCard : Claim7 := { stood := { row := feedLimitUptoRow, standIns := [], harness := (true, "8a1528320fb5612123319c0a34c45356fad563928598becf0b402f7bc7a6df6d"), looks := true }, kinds := [], alts := [], laidByText := true, laidKinds := [.data, .data, .data, .data, .handle, .sentinel, .sentinel, .listed, .data, .pinned], laidTests := true, laidLooks := .later }
def FeedLimitUptoCardSaid : Prop := Claim7.holds Tryz.pinned (.plain (OpenSpec.upto feedLimitSpec)) feedLimitUptoCard

/-- THE SECOND FORM's CARD OF 'quaymasterkeep.TargetHas'. -/
def targetHasUptoCard : Claim7 := { stood := { row := targetHasUptoRow, standIns := [], harness := (true, "8a1528320fb5612123319c0a34c45356fad563928598becf0b402f7bc7a6df6d"), looks := true }, kinds := [], alts := [], laidByText := true, laidKinds := [.data, .data, .data, .data, .handle, .sentinel, .sentinel, .listed, .data, .pinned], laidTests := true, laidLooks := .later }
def TargetHasUptoCardSaid : Prop := Claim7.holds Tryz.pinned (.plain (OpenSpec.upto targetHasSpec)) targetHasUptoCard

/-- THE SECOND FORM's CARD OF 'quaymasterkeep.TargetNone'. -/
def targetNoneUptoCard : Claim7 := { stood := { row := targetNoneUptoRow, standIns := [], harness := (true, "8a1528320fb5612123319c0a34c45356fad563928598becf0b402f7bc7a6df6d"), looks := true }, kinds := [], alts := [], laidByText := true, laidKinds := [.data, .data, .data, .data, .handle, .sentinel, .sentinel, .listed, .data, .pinned], laidTests := true, laidLooks := .later }
def TargetNoneUptoCardSaid : Prop := Claim7.holds Tryz.pinned (.plain (OpenSpec.upto targetNoneSpec)) targetNoneUptoCard

/-- THE SECOND FORM's CARD OF 'quaymasterkeep.TargetLess'. -/
def targetLessUptoCard : Claim7 := { stood := { row := targetLessUptoRow, standIns := [], harness := (true, "8a1528320fb5612123319c0a34c45356fad563928598becf0b402f7bc7a6df6d"), looks := true }, kinds := [], alts := [], laidByText := true, laidKinds := [.data, .data, .data, .data, .handle, .sentinel, .sentinel, .listed, .data, .pinned], laidTests := true, laidLooks := .later }
def TargetLessUptoCardSaid : Prop := Claim7.holds Tryz.pinned (.plain (OpenSpec.upto targetLessSpec)) targetLessUptoCard

/-- THE SECOND FORM's CARD OF 'quaymasterkeep.TargetAll'. -/
def targetAllUptoCard : Claim7 := { stood := { row := targetAllUptoRow, standIns := [], harness := (true, "8a1528320fb5612123319c0a34c45356fad563928598becf0b402f7bc7a6df6d"), looks := true }, kinds := [], alts := [], laidByText := true, laidKinds := [.data, .data, .data, .data, .handle, .sentinel, .sentinel, .listed, .data, .pinned], laidTests := true, laidLooks := .later }
def TargetAllUptoCardSaid : Prop := Claim7.holds Tryz.pinned (.plain (OpenSpec.upto targetAllSpec)) targetAllUptoCard
end Rows
end Go.Proofs.YtifniblffjgfkaaGreatDoor
