/-
  DERIVED. GIVEN WITH THE SEED: THE CARDS: each row of YtadhlnpegigadaaGreatDoorRows.lean that lists a variable, with what it lists TIED to the program's text (the seventh form; the later family's looks); each row that meets fmt, with fmt's text TOLD by the authors' own Lean function (tested against real Go, not proved from fmt's source: count such statements apart). THE CARD IS WHAT COUNTS. Prove the row's statement (the work); the ties are given (YtadhlnpegigadaaGreatDoorTie.lean); close each card by the builder's one call (the guide's Derived/Test/ToyasCard.lean, 'card_holds'). Laid BY PROGRAM, IN A SANDBOX (cutbox-door.mjs). By AI agents, Wed Nov 11 2026. No macro, syntax, notation, axiom, sorry.
-/
import Derived.Test.YtadhlnpegigadaaGreatDoorRows
import GoSem.ClaimSeven
namespace Go.Proofs.YtadhlnpegigadaaGreatDoor
namespace Rows

/-- THE TIED CARD OF 'quaymasterkeep.TargetLess'. -/
def targetLessCard : Claim7 := { stood := { row := targetLessRow, standIns := [], harness := (true, "33a2cf3aab00ed1e328a28d3f65fe9932c5ce2ccd3d235564a5617f87dd5d631"), looks := true }, kinds := [], alts := [], laidByText := true, laidKinds := [.data, .data, .data, .data, .handle, .sentinel, .sentinel, .listed, .data, .pinned], laidTests := true, laidLooks := .later }
def TargetLessCardSaid : Prop := Claim7.holds Tryz.pinned (.plain (OpenSpec.ofChange targetLessSpec)) targetLessCard

/-- THE TIED CARD OF 'quaymasterkeep.NegoTwice'. -/
def negoTwiceCard : Claim7 := { stood := { row := negoTwiceRow, standIns := [], harness := (true, "33a2cf3aab00ed1e328a28d3f65fe9932c5ce2ccd3d235564a5617f87dd5d631"), looks := true }, kinds := [], alts := [], laidByText := true, laidKinds := [.data, .data, .data, .data, .handle, .sentinel, .sentinel, .listed, .data, .pinned], laidTests := true, laidLooks := .later }
def NegoTwiceCardSaid : Prop := Claim7.holds Tryz.pinned (.plain (OpenSpec.ofChange negoTwiceSpec)) negoTwiceCard

/-- THE TIED CARD OF 'quaymasterkeep.NegoSays'. -/
def negoSaysCard : Claim7 := { stood := { row := negoSaysRow, standIns := [], harness := (true, "33a2cf3aab00ed1e328a28d3f65fe9932c5ce2ccd3d235564a5617f87dd5d631"), looks := true }, kinds := [], alts := [], laidByText := true, laidKinds := [.data, .data, .data, .data, .handle, .sentinel, .sentinel, .listed, .data, .pinned], laidTests := true, laidLooks := .later }
def NegoSaysCardSaid : Prop := Claim7.holds Tryz.pinned (.plain (OpenSpec.ofChange negoSaysSpec)) negoSaysCard

/-- THE TIED CARD OF 'quaymasterkeep.NegoDiscovery'. -/
def negoDiscoveryCard : Claim7 := { stood := { row := negoDiscoveryRow, standIns := [], harness := (true, "33a2cf3aab00ed1e328a28d3f65fe9932c5ce2ccd3d235564a5617f87dd5d631"), looks := true }, kinds := [], alts := [], laidByText := true, laidKinds := [.data, .data, .data, .data, .handle, .sentinel, .sentinel, .listed, .data, .pinned], laidTests := true, laidLooks := .later }
def NegoDiscoveryCardSaid : Prop := Claim7.holds Tryz.pinned (.plain (OpenSpec.ofChange negoDiscoverySpec)) negoDiscoveryCard

/-- THE TIED CARD OF 'quaymasterkeep.NegoLater'. -/
def negoLaterCard : Claim7 := { stood := { row := negoLaterRow, standIns := [], harness := (true, "33a2cf3aab00ed1e328a28d3f65fe9932c5ce2ccd3d235564a5617f87dd5d631"), looks := true }, kinds := [], alts := [], laidByText := true, laidKinds := [.data, .data, .data, .data, .handle, .sentinel, .sentinel, .listed, .data, .pinned], laidTests := true, laidLooks := .later }
def NegoLaterCardSaid : Prop := Claim7.holds Tryz.pinned (.plain (OpenSpec.ofChange negoLaterSpec)) negoLaterCard

/-- THE TIED CARD OF 'quaymasterkeep.NegoDigests'. -/
def negoDigestsCard : Claim7 := { stood := { row := negoDigestsRow, standIns := [], harness := (true, "33a2cf3aab00ed1e328a28d3f65fe9932c5ce2ccd3d235564a5617f87dd5d631"), looks := true }, kinds := [], alts := [], laidByText := true, laidKinds := [.data, .data, .data, .data, .handle, .sentinel, .sentinel, .listed, .data, .pinned], laidTests := true, laidLooks := .later }
def NegoDigestsCardSaid : Prop := Claim7.holds Tryz.pinned (.plain (OpenSpec.ofChange negoDigestsSpec)) negoDigestsCard

/-- THE TIED CARD OF 'quaymasterkeep.NegoNothing'. -/
def negoNothingCard : Claim7 := { stood := { row := negoNothingRow, standIns := [], harness := (true, "33a2cf3aab00ed1e328a28d3f65fe9932c5ce2ccd3d235564a5617f87dd5d631"), looks := true }, kinds := [], alts := [], laidByText := true, laidKinds := [.data, .data, .data, .data, .handle, .sentinel, .sentinel, .listed, .data, .pinned], laidTests := true, laidLooks := .later }
def NegoNothingCardSaid : Prop := Claim7.holds Tryz.pinned (.plain (OpenSpec.ofChange negoNothingSpec)) negoNothingCard

/-- THE TIED CARD OF 'quaymasterkeep.NegoRecord'. -/
def negoRecordCard : Claim7 := { stood := { row := negoRecordRow, standIns := [], harness := (true, "33a2cf3aab00ed1e328a28d3f65fe9932c5ce2ccd3d235564a5617f87dd5d631"), looks := true }, kinds := [], alts := [], laidByText := true, laidKinds := [.data, .data, .data, .data, .handle, .sentinel, .sentinel, .listed, .data, .pinned], laidTests := true, laidLooks := .later }
def NegoRecordCardSaid : Prop := Claim7.holds Tryz.pinned (.plain (OpenSpec.ofChange negoRecordSpec)) negoRecordCard

/-- THE TIED CARD OF 'quaymasterkeep.NegoOwn'. -/
def negoOwnCard : Claim7 := { stood := { row := negoOwnRow, standIns := [], harness := (true, "33a2cf3aab00ed1e328a28d3f65fe9932c5ce2ccd3d235564a5617f87dd5d631"), looks := true }, kinds := [], alts := [], laidByText := true, laidKinds := [.data, .data, .data, .data, .handle, .sentinel, .sentinel, .listed, .data, .pinned], laidTests := true, laidLooks := .later }
def NegoOwnCardSaid : Prop := Claim7.holds Tryz.pinned (.plain (OpenSpec.ofChange negoOwnSpec)) negoOwnCard

/-- THE TIED CARD OF 'quaymasterkeep.NegoFresh'. -/
def negoFreshCard : Claim7 := { stood := { row := negoFreshRow, standIns := [], harness := (true, "33a2cf3aab00ed1e328a28d3f65fe9932c5ce2ccd3d235564a5617f87dd5d631"), looks := true }, kinds := [], alts := [], laidByText := true, laidKinds := [.data, .data, .data, .data, .handle, .sentinel, .sentinel, .listed, .data, .pinned], laidTests := true, laidLooks := .later }
def NegoFreshCardSaid : Prop := Claim7.holds Tryz.pinned (.plain (OpenSpec.ofChange negoFreshSpec)) negoFreshCard

/-- THE TIED CARD OF 'quaymasterkeep.NegoOrder'. -/
def negoOrderCard : Claim7 := { stood := { row := negoOrderRow, standIns := [], harness := (true, "33a2cf3aab00ed1e328a28d3f65fe9932c5ce2ccd3d235564a5617f87dd5d631"), looks := true }, kinds := [], alts := [], laidByText := true, laidKinds := [.data, .data, .data, .data, .handle, .sentinel, .sentinel, .listed, .data, .pinned], laidTests := true, laidLooks := .later }
def NegoOrderCardSaid : Prop := Claim7.holds Tryz.pinned (.plain (OpenSpec.ofChange negoOrderSpec)) negoOrderCard

/-- THE TIED CARD OF 'quaymasterkeep.NegoParts'. -/
def negoPartsCard : Claim7 := { stood := { row := negoPartsRow, standIns := [], harness := (true, "33a2cf3aab00ed1e328a28d3f65fe9932c5ce2ccd3d235564a5617f87dd5d631"), looks := true }, kinds := [], alts := [], laidByText := true, laidKinds := [.data, .data, .data, .data, .handle, .sentinel, .sentinel, .listed, .data, .pinned], laidTests := true, laidLooks := .later }
def NegoPartsCardSaid : Prop := Claim7.holds Tryz.pinned (.plain (OpenSpec.ofChange negoPartsSpec)) negoPartsCard

/-- THE TIED CARD OF 'quaymasterkeep.NegoAlone'. -/
def negoAloneCard : Claim7 := { stood := { row := negoAloneRow, standIns := [], harness := (true, "33a2cf3aab00ed1e328a28d3f65fe9932c5ce2ccd3d235564a5617f87dd5d631"), looks := true }, kinds := [], alts := [], laidByText := true, laidKinds := [.data, .data, .data, .data, .handle, .sentinel, .sentinel, .listed, .data, .pinned], laidTests := true, laidLooks := .later }
def NegoAloneCardSaid : Prop := Claim7.holds Tryz.pinned (.plain (OpenSpec.ofChange negoAloneSpec)) negoAloneCard

/-- THE TIED CARD OF 'quaymasterkeep.NegoMade'. -/
def negoMadeCard : Claim7 := { stood := { row := negoMadeRow, standIns := [], harness := (true, "33a2cf3aab00ed1e328a28d3f65fe9932c5ce2ccd3d235564a5617f87dd5d631"), looks := true }, kinds := [], alts := [], laidByText := true, laidKinds := [.data, .data, .data, .data, .handle, .sentinel, .sentinel, .listed, .data, .pinned], laidTests := true, laidLooks := .later }
def NegoMadeCardSaid : Prop := Claim7.holds Tryz.pinned (.plain (OpenSpec.ofChange negoMadeSpec)) negoMadeCard

/-- THE SECOND FORM's CARD OF 'quaymasterkeep.TargetLess'. -/
def targetLessUptoCard : Claim7 := { stood := { row := targetLessUptoRow, standIns := [], harness := (true, "33a2cf3aab00ed1e328a28d3f65fe9932c5ce2ccd3d235564a5617f87dd5d631"), looks := true }, kinds := [], alts := [], laidByText := true, laidKinds := [.data, .data, .data, .data, .handle, .sentinel, .sentinel, .listed, .data, .pinned], laidTests := true, laidLooks := .later }
def TargetLessUptoCardSaid : Prop := Claim7.holds Tryz.pinned (.plain (OpenSpec.upto targetLessSpec)) targetLessUptoCard

/-- THE SECOND FORM's CARD OF 'quaymasterkeep.NegoTwice'. -/
def negoTwiceUptoCard : Claim7 := { stood := { row := negoTwiceUptoRow, standIns := [], harness := (true, "33a2cf3aab00ed1e328a28d3f65fe9932c5ce2ccd3d235564a5617f87dd5d631"), looks := true }, kinds := [], alts := [], laidByText := true, laidKinds := [.data, .data, .data, .data, .handle, .sentinel, .sentinel, .listed, .data, .pinned], laidTests := true, laidLooks := .later }
def NegoTwiceUptoCardSaid : Prop := Claim7.holds Tryz.pinned (.plain (OpenSpec.upto negoTwiceSpec)) negoTwiceUptoCard

/-- THE SECOND FORM's CARD OF 'quaymasterkeep.NegoSays'. -/
def negoSaysUptoCard : Claim7 := { stood := { row := negoSaysUptoRow, standIns := [], harness := (true, "33a2cf3aab00ed1e328a28d3f65fe9932c5ce2ccd3d235564a5617f87dd5d631"), looks := true }, kinds := [], alts := [], laidByText := true, laidKinds := [.data, .data, .data, .data, .handle, .sentinel, .sentinel, .listed, .data, .pinned], laidTests := true, laidLooks := .later }
def NegoSaysUptoCardSaid : Prop := Claim7.holds Tryz.pinned (.plain (OpenSpec.upto negoSaysSpec)) negoSaysUptoCard

/-- THE SECOND FORM's CARD OF 'quaymasterkeep.NegoDiscovery'. -/
def negoDiscoveryUptoCard : Claim7 := { stood := { row := negoDiscoveryUptoRow, standIns := [], harness := (true, "33a2cf3aab00ed1e328a28d3f65fe9932c5ce2ccd3d235564a5617f87dd5d631"), looks := true }, kinds := [], alts := [], laidByText := true, laidKinds := [.data, .data, .data, .data, .handle, .sentinel, .sentinel, .listed, .data, .pinned], laidTests := true, laidLooks := .later }
def NegoDiscoveryUptoCardSaid : Prop := Claim7.holds Tryz.pinned (.plain (OpenSpec.upto negoDiscoverySpec)) negoDiscoveryUptoCard

/-- THE SECOND FORM's CARD OF 'quaymasterkeep.NegoLater'. -/
def negoLaterUptoCard : Claim7 := { stood := { row := negoLaterUptoRow, standIns := [], harness := (true, "33a2cf3aab00ed1e328a28d3f65fe9932c5ce2ccd3d235564a5617f87dd5d631"), looks := true }, kinds := [], alts := [], laidByText := true, laidKinds := [.data, .data, .data, .data, .handle, .sentinel, .sentinel, .listed, .data, .pinned], laidTests := true, laidLooks := .later }
def NegoLaterUptoCardSaid : Prop := Claim7.holds Tryz.pinned (.plain (OpenSpec.upto negoLaterSpec)) negoLaterUptoCard

/-- THE SECOND FORM's CARD OF 'quaymasterkeep.NegoDigests'. -/
def negoDigestsUptoCard : Claim7 := { stood := { row := negoDigestsUptoRow, standIns := [], harness := (true, "33a2cf3aab00ed1e328a28d3f65fe9932c5ce2ccd3d235564a5617f87dd5d631"), looks := true }, kinds := [], alts := [], laidByText := true, laidKinds := [.data, .data, .data, .data, .handle, .sentinel, .sentinel, .listed, .data, .pinned], laidTests := true, laidLooks := .later }
def NegoDigestsUptoCardSaid : Prop := Claim7.holds Tryz.pinned (.plain (OpenSpec.upto negoDigestsSpec)) negoDigestsUptoCard

/-- THE SECOND FORM's CARD OF 'quaymasterkeep.NegoNothing'. -/
def negoNothingUptoCard : Claim7 := { stood := { row := negoNothingUptoRow, standIns := [], harness := (true, "33a2cf3aab00ed1e328a28d3f65fe9932c5ce2ccd3d235564a5617f87dd5d631"), looks := true }, kinds := [], alts := [], laidByText := true, laidKinds := [.data, .data, .data, .data, .handle, .sentinel, .sentinel, .listed, .data, .pinned], laidTests := true, laidLooks := .later }
def NegoNothingUptoCardSaid : Prop := Claim7.holds Tryz.pinned (.plain (OpenSpec.upto negoNothingSpec)) negoNothingUptoCard

/-- THE SECOND FORM's CARD OF 'quaymasterkeep.NegoRecord'. -/
def negoRecordUptoCard : Claim7 := { stood := { row := negoRecordUptoRow, standIns := [], harness := (true, "33a2cf3aab00ed1e328a28d3f65fe9932c5ce2ccd3d235564a5617f87dd5d631"), looks := true }, kinds := [], alts := [], laidByText := true, laidKinds := [.data, .data, .data, .data, .handle, .sentinel, .sentinel, .listed, .data, .pinned], laidTests := true, laidLooks := .later }
def NegoRecordUptoCardSaid : Prop := Claim7.holds Tryz.pinned (.plain (OpenSpec.upto negoRecordSpec)) negoRecordUptoCard

/-- THE SECOND FORM's CARD OF 'quaymasterkeep.NegoOwn'. -/
def negoOwnUptoCard : Claim7 := { stood := { row := negoOwnUptoRow, standIns := [], harness := (true, "33a2cf3aab00ed1e328a28d3f65fe9932c5ce2ccd3d235564a5617f87dd5d631"), looks := true }, kinds := [], alts := [], laidByText := true, laidKinds := [.data, .data, .data, .data, .handle, .sentinel, .sentinel, .listed, .data, .pinned], laidTests := true, laidLooks := .later }
def NegoOwnUptoCardSaid : Prop := Claim7.holds Tryz.pinned (.plain (OpenSpec.upto negoOwnSpec)) negoOwnUptoCard

/-- THE SECOND FORM's CARD OF 'quaymasterkeep.NegoFresh'. -/
def negoFreshUptoCard : Claim7 := { stood := { row := negoFreshUptoRow, standIns := [], harness := (true, "33a2cf3aab00ed1e328a28d3f65fe9932c5ce2ccd3d235564a5617f87dd5d631"), looks := true }, kinds := [], alts := [], laidByText := true, laidKinds := [.data, .data, .data, .data, .handle, .sentinel, .sentinel, .listed, .data, .pinned], laidTests := true, laidLooks := .later }
def NegoFreshUptoCardSaid : Prop := Claim7.holds Tryz.pinned (.plain (OpenSpec.upto negoFreshSpec)) negoFreshUptoCard

/-- THE SECOND FORM's CARD OF 'quaymasterkeep.NegoOrder'. -/
def negoOrderUptoCard : Claim7 := { stood := { row := negoOrderUptoRow, standIns := [], harness := (true, "33a2cf3aab00ed1e328a28d3f65fe9932c5ce2ccd3d235564a5617f87dd5d631"), looks := true }, kinds := [], alts := [], laidByText := true, laidKinds := [.data, .data, .data, .data, .handle, .sentinel, .sentinel, .listed, .data, .pinned], laidTests := true, laidLooks := .later }
def NegoOrderUptoCardSaid : Prop := Claim7.holds Tryz.pinned (.plain (OpenSpec.upto negoOrderSpec)) negoOrderUptoCard

/-- THE SECOND FORM's CARD OF 'quaymasterkeep.NegoParts'. -/
def negoPartsUptoCard : Claim7 := { stood := { row := negoPartsUptoRow, standIns := [], harness := (true, "33a2cf3aab00ed1e328a28d3f65fe9932c5ce2ccd3d235564a5617f87dd5d631"), looks := true }, kinds := [], alts := [], laidByText := true, laidKinds := [.data, .data, .data, .data, .handle, .sentinel, .sentinel, .listed, .data, .pinned], laidTests := true, laidLooks := .later }
def NegoPartsUptoCardSaid : Prop := Claim7.holds Tryz.pinned (.plain (OpenSpec.upto negoPartsSpec)) negoPartsUptoCard

/-- THE SECOND FORM's CARD OF 'quaymasterkeep.NegoAlone'. -/
def negoAloneUptoCard : Claim7 := { stood := { row := negoAloneUptoRow, standIns := [], harness := (true, "33a2cf3aab00ed1e328a28d3f65fe9932c5ce2ccd3d235564a5617f87dd5d631"), looks := true }, kinds := [], alts := [], laidByText := true, laidKinds := [.data, .data, .data, .data, .handle, .sentinel, .sentinel, .listed, .data, .pinned], laidTests := true, laidLooks := .later }
def NegoAloneUptoCardSaid : Prop := Claim7.holds Tryz.pinned (.plain (OpenSpec.upto negoAloneSpec)) negoAloneUptoCard

/-- THE SECOND FORM's CARD OF 'quaymasterkeep.NegoMade'. -/
def negoMadeUptoCard : Claim7 := { stood := { row := negoMadeUptoRow, standIns := [], harness := (true, "33a2cf3aab00ed1e328a28d3f65fe9932c5ce2ccd3d235564a5617f87dd5d631"), looks := true }, kinds := [], alts := [], laidByText := true, laidKinds := [.data, .data, .data, .data, .handle, .sentinel, .sentinel, .listed, .data, .pinned], laidTests := true, laidLooks := .later }
def NegoMadeUptoCardSaid : Prop := Claim7.holds Tryz.pinned (.plain (OpenSpec.upto negoMadeSpec)) negoMadeUptoCard
end Rows
end Go.Proofs.YtadhlnpegigadaaGreatDoor
