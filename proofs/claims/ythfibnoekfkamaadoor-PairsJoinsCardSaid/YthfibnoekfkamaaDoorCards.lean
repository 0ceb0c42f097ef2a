/-
  DERIVED. GIVEN WITH THE SEED: THE CARDS: each row of YthfibnoekfkamaaDoorRows.lean that lists a variable, with what it lists TIED to the program's text (the seventh form; the later family's looks); each row that meets fmt, with fmt's text TOLD by the authors' own Lean function (tested against real Go, not proved from fmt's source: count such statements apart). THE CARD IS WHAT COUNTS. Prove the row's statement (the work); the ties are given (YthfibnoekfkamaaDoorTie.lean); close each card by the builder's one call (the guide's Derived/Test/ToyasCard.lean, 'card_holds'). Laid BY PROGRAM, IN A SANDBOX (cutbox-door.mjs). By AI agents, Wed Nov 11 2026. No macro, syntax, notation, axiom, sorry.
-/
import Derived.Test.YthfibnoekfkamaaDoorRows
import GoSem.ClaimSeven
namespace Go.Proofs.YthfibnoekfkamaaDoor
namespace Rows

/-- THE TIED CARD OF 'quaymasterkeep.PairsOnly'. -/
def pairsOnlyCard : Claim7 := { stood := { row := pairsOnlyRow, standIns := [], harness := (true, "711122113673105fb1982f703fac691908ef17b53efc9ec79364534240c8e25b"), looks := true }, kinds := [], alts := [], laidByText := true, laidKinds := [.handle], laidTests := true, laidLooks := .later }
def PairsOnlyCardSaid : Prop := Claim7.holds Tryd.pinned (.plain (OpenSpec.ofChange pairsOnlySpec)) pairsOnlyCard

/-- THE TIED CARD OF 'quaymasterkeep.PairsLetters'. -/
def pairsLettersCard : Claim7 := { stood := { row := pairsLettersRow, standIns := [], harness := (true, "711122113673105fb1982f703fac691908ef17b53efc9ec79364534240c8e25b"), looks := true }, kinds := [], alts := [], laidByText := true, laidKinds := [.handle], laidTests := true, laidLooks := .later }
def PairsLettersCardSaid : Prop := Claim7.holds Tryd.pinned (.plain (OpenSpec.ofChange pairsLettersSpec)) pairsLettersCard

/-- THE TIED CARD OF 'quaymasterkeep.PairsLong'. -/
def pairsLongCard : Claim7 := { stood := { row := pairsLongRow, standIns := [], harness := (true, "711122113673105fb1982f703fac691908ef17b53efc9ec79364534240c8e25b"), looks := true }, kinds := [], alts := [], laidByText := true, laidKinds := [.handle], laidTests := true, laidLooks := .later }
def PairsLongCardSaid : Prop := Claim7.holds Tryd.pinned (.plain (OpenSpec.ofChange pairsLongSpec)) pairsLongCard

/-- THE TIED CARD OF 'quaymasterkeep.GatherMany'. -/
def gatherManyCard : Claim7 := { stood := { row := gatherManyRow, standIns := [], harness := (true, "711122113673105fb1982f703fac691908ef17b53efc9ec79364534240c8e25b"), looks := true }, kinds := [], alts := [], laidByText := true, laidKinds := [.handle], laidTests := true, laidLooks := .later }
def GatherManyCardSaid : Prop := Claim7.holds Tryd.pinned (.plain (OpenSpec.ofChange gatherManySpec)) gatherManyCard

/-- THE TIED CARD OF 'quaymasterkeep.PairsCut'. -/
def pairsCutCard : Claim7 := { stood := { row := pairsCutRow, standIns := [], harness := (true, "711122113673105fb1982f703fac691908ef17b53efc9ec79364534240c8e25b"), looks := true }, kinds := [], alts := [], laidByText := true, laidKinds := [.handle], laidTests := true, laidLooks := .later }
def PairsCutCardSaid : Prop := Claim7.holds Tryd.pinned (.plain (OpenSpec.ofChange pairsCutSpec)) pairsCutCard

/-- THE TIED CARD OF 'quaymasterkeep.PairsFind'. -/
def pairsFindCard : Claim7 := { stood := { row := pairsFindRow, standIns := [], harness := (true, "711122113673105fb1982f703fac691908ef17b53efc9ec79364534240c8e25b"), looks := true }, kinds := [], alts := [], laidByText := true, laidKinds := [.handle], laidTests := true, laidLooks := .later }
def PairsFindCardSaid : Prop := Claim7.holds Tryd.pinned (.plain (OpenSpec.ofChange pairsFindSpec)) pairsFindCard

/-- THE TIED CARD OF 'quaymasterkeep.GatherTwice'. -/
def gatherTwiceCard : Claim7 := { stood := { row := gatherTwiceRow, standIns := [], harness := (true, "711122113673105fb1982f703fac691908ef17b53efc9ec79364534240c8e25b"), looks := true }, kinds := [], alts := [], laidByText := true, laidKinds := [.handle], laidTests := true, laidLooks := .later }
def GatherTwiceCardSaid : Prop := Claim7.holds Tryd.pinned (.plain (OpenSpec.ofChange gatherTwiceSpec)) gatherTwiceCard

/-- THE TIED CARD OF 'quaymasterkeep.GatherParts'. -/
def gatherPartsCard : Claim7 := { stood := { row := gatherPartsRow, standIns := [], harness := (true, "711122113673105fb1982f703fac691908ef17b53efc9ec79364534240c8e25b"), looks := true }, kinds := [], alts := [], laidByText := true, laidKinds := [.handle], laidTests := true, laidLooks := .later }
def GatherPartsCardSaid : Prop := Claim7.holds Tryd.pinned (.plain (OpenSpec.ofChange gatherPartsSpec)) gatherPartsCard

/-- THE TIED CARD OF 'quaymasterkeep.PairsBack'. -/
def pairsBackCard : Claim7 := { stood := { row := pairsBackRow, standIns := [], harness := (true, "711122113673105fb1982f703fac691908ef17b53efc9ec79364534240c8e25b"), looks := true }, kinds := [], alts := [], laidByText := true, laidKinds := [.handle], laidTests := true, laidLooks := .later }
def PairsBackCardSaid : Prop := Claim7.holds Tryd.pinned (.plain (OpenSpec.ofChange pairsBackSpec)) pairsBackCard

/-- THE TIED CARD OF 'quaymasterkeep.PairsJoins'. -/
def pairsJoinsCard : Claim7 := { stood := { row := pairsJoinsRow, standIns := [], harness := (true, "711122113673105fb1982f703fac691908ef17b53efc9ec79364534240c8e25b"), looks := true }, kinds := [], alts := [], laidByText := true, laidKinds := [.handle], laidTests := true, laidLooks := .later }
def PairsJoinsCardSaid : Prop := Claim7.holds Tryd.pinned (.plain (OpenSpec.ofChange pairsJoinsSpec)) pairsJoinsCard

/-- THE TIED CARD OF 'quaymasterkeep.GatherSplit'. -/
def gatherSplitCard : Claim7 := { stood := { row := gatherSplitRow, standIns := [], harness := (true, "711122113673105fb1982f703fac691908ef17b53efc9ec79364534240c8e25b"), looks := true }, kinds := [], alts := [], laidByText := true, laidKinds := [.handle], laidTests := true, laidLooks := .later }
def GatherSplitCardSaid : Prop := Claim7.holds Tryd.pinned (.plain (OpenSpec.ofChange gatherSplitSpec)) gatherSplitCard

/-- THE TIED CARD OF 'quaymasterkeep.BinaryOnly'. -/
def binaryOnlyCard : Claim7 := { stood := { row := binaryOnlyRow, standIns := [], harness := (true, "711122113673105fb1982f703fac691908ef17b53efc9ec79364534240c8e25b"), looks := true }, kinds := [], alts := [], laidByText := true, laidKinds := [.data, .handle, .data, .data, .pinned, .pinned], laidTests := true, laidLooks := .later }
def BinaryOnlyCardSaid : Prop := Claim7.holds Tryd.pinned (.plain (OpenSpec.ofChange binaryOnlySpec)) binaryOnlyCard

/-- THE SECOND FORM's CARD OF 'quaymasterkeep.PairsOnly'. -/
def pairsOnlyUptoCard : Claim7 := { stood := { row := pairsOnlyUptoRow, standIns := [], harness := (true, "711122113673105fb1982f703fac691908ef17b53efc9ec79364534240c8e25b"), looks := true }, kinds := [], alts := [], laidByText := true, laidKinds := [.handle], laidTests := true, laidLooks := .later }
def PairsOnlyUptoCardSaid : Prop := Claim7.holds Tryd.pinned (.plain (OpenSpec.upto pairsOnlySpec)) pairsOnlyUptoCard

/-- THE SECOND FORM's CARD OF 'quaymasterkeep.PairsLetters'. -/
def pairsLettersUptoCard : Claim7 := { stood := { row := pairsLettersUptoRow, standIns := [], harness := (true, "711122113673105fb1982f703fac691908ef17b53efc9ec79364534240c8e25b"), looks := true }, kinds := [], alts := [], laidByText := true, laidKinds := [.handle], laidTests := true, laidLooks := .later }
def PairsLettersUptoCardSaid : Prop := Claim7.holds Tryd.pinned (.plain (OpenSpec.upto pairsLettersSpec)) pairsLettersUptoCard

/-- THE SECOND FORM's CARD OF 'quaymasterkeep.PairsLong'. -/
def pairsLongUptoCard : Claim7 := { stood := { row := pairsLongUptoRow, standIns := [], harness := (true, "711122113673105fb1982f703fac691908ef17b53efc9ec79364534240c8e25b"), looks := true }, kinds := [], alts := [], laidByText := true, laidKinds := [.handle], laidTests := true, laidLooks := .later }
def PairsLongUptoCardSaid : Prop := Claim7.holds Tryd.pinned (.plain (OpenSpec.upto pairsLongSpec)) pairsLongUptoCard

/-- THE SECOND FORM's CARD OF 'quaymasterkeep.GatherMany'. -/
def gatherManyUptoCard : Claim7 := { stood := { row := gatherManyUptoRow, standIns := [], harness := (true, "711122113673105fb1982f703fac691908ef17b53efc9ec79364534240c8e25b"), looks := true }, kinds := [], alts := [], laidByText := true, laidKinds := [.handle], laidTests := true, laidLooks := .later }
def GatherManyUptoCardSaid : Prop := Claim7.holds Tryd.pinned (.plain (OpenSpec.upto gatherManySpec)) gatherManyUptoCard

/-- THE SECOND FORM's CARD OF 'quaymasterkeep.PairsCut'. -/
def pairsCutUptoCard : Claim7 := { stood := { row := pairsCutUptoRow, standIns := [], harness := (true, "711122113673105fb1982f703fac691908ef17b53efc9ec79364534240c8e25b"), looks := true }, kinds := [], alts := [], laidByText := true, laidKinds := [.handle], laidTests := true, laidLooks := .later }
def PairsCutUptoCardSaid : Prop := Claim7.holds Tryd.pinned (.plain (OpenSpec.upto pairsCutSpec)) pairsCutUptoCard

/-- THE SECOND FORM's CARD OF 'quaymasterkeep.PairsFind'. -/
def pairsFindUptoCard : Claim7 := { stood := { row := pairsFindUptoRow, standIns := [], harness := (true, "711122113673105fb1982f703fac691908ef17b53efc9ec79364534240c8e25b"), looks := true }, kinds := [], alts := [], laidByText := true, laidKinds := [.handle], laidTests := true, laidLooks := .later }
def PairsFindUptoCardSaid : Prop := Claim7.holds Tryd.pinned (.plain (OpenSpec.upto pairsFindSpec)) pairsFindUptoCard

/-- THE SECOND FORM's CARD OF 'quaymasterkeep.GatherTwice'. -/
def gatherTwiceUptoCard : Claim7 := { stood := { row := gatherTwiceUptoRow, standIns := [], harness := (true, "711122113673105fb1982f703fac691908ef17b53efc9ec79364534240c8e25b"), looks := true }, kinds := [], alts := [], laidByText := true, laidKinds := [.handle], laidTests := true, laidLooks := .later }
def GatherTwiceUptoCardSaid : Prop := Claim7.holds Tryd.pinned (.plain (OpenSpec.upto gatherTwiceSpec)) gatherTwiceUptoCard

/-- THE SECOND FORM's CARD OF 'quaymasterkeep.GatherParts'. -/
def gatherPartsUptoCard : Claim7 := { stood := { row := gatherPartsUptoRow, standIns := [], harness := (true, "711122113673105fb1982f703fac691908ef17b53efc9ec79364534240c8e25b"), looks := true }, kinds := [], alts := [], laidByText := true, laidKinds := [.handle], laidTests := true, laidLooks := .later }
def GatherPartsUptoCardSaid : Prop := Claim7.holds Tryd.pinned (.plain (OpenSpec.upto gatherPartsSpec)) gatherPartsUptoCard

/-- THE SECOND FORM's CARD OF 'quaymasterkeep.PairsBack'. -/
def pairsBackUptoCard : Claim7 := { stood := { row := pairsBackUptoRow, standIns := [], harness := (true, "711122113673105fb1982f703fac691908ef17b53efc9ec79364534240c8e25b"), looks := true }, kinds := [], alts := [], laidByText := true, laidKinds := [.handle], laidTests := true, laidLooks := .later }
def PairsBackUptoCardSaid : Prop := Claim7.holds Tryd.pinned (.plain (OpenSpec.upto pairsBackSpec)) pairsBackUptoCard

/-- THE SECOND FORM's CARD OF 'quaymasterkeep.PairsJoins'. -/
def pairsJoinsUptoCard : Claim7 := { stood := { row := pairsJoinsUptoRow, standIns := [], harness := (true, "711122113673105fb1982f703fac691908ef17b53efc9ec79364534240c8e25b"), looks := true }, kinds := [], alts := [], laidByText := true, laidKinds := [.handle], laidTests := true, laidLooks := .later }
def PairsJoinsUptoCardSaid : Prop := Claim7.holds Tryd.pinned (.plain (OpenSpec.upto pairsJoinsSpec)) pairsJoinsUptoCard

/-- THE SECOND FORM's CARD OF 'quaymasterkeep.GatherSplit'. -/
def gatherSplitUptoCard : Claim7 := { stood := { row := gatherSplitUptoRow, standIns := [], harness := (true, "711122113673105fb1982f703fac691908ef17b53efc9ec79364534240c8e25b"), looks := true }, kinds := [], alts := [], laidByText := true, laidKinds := [.handle], laidTests := true, laidLooks := .later }
def GatherSplitUptoCardSaid : Prop := Claim7.holds Tryd.pinned (.plain (OpenSpec.upto gatherSplitSpec)) gatherSplitUptoCard

/-- THE SECOND FORM's CARD OF 'quaymasterkeep.BinaryOnly'. -/
def binaryOnlyUptoCard : Claim7 := { stood := { row := binaryOnlyUptoRow, standIns := [], harness := (true, "711122113673105fb1982f703fac691908ef17b53efc9ec79364534240c8e25b"), looks := true }, kinds := [], alts := [], laidByText := true, laidKinds := [.data, .handle, .data, .data, .pinned, .pinned], laidTests := true, laidLooks := .later }
def BinaryOnlyUptoCardSaid : Prop := Claim7.holds Tryd.pinned (.plain (OpenSpec.upto binaryOnlySpec)) binaryOnlyUptoCard
end Rows
end Go.Proofs.YthfibnoekfkamaaDoor
