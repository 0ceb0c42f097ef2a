/-
  DERIVED. GIVEN WITH THE SEED: THE CARDS: each row of YtefhgikpghpijaaDoorRows.lean that lists a variable, with what it lists TIED to the program's text (the seventh form; the later family's looks); each row that meets fmt, with fmt's text TOLD by the authors' own Lean function (tested against real Go, not proved from fmt's source: count such statements apart). THE CARD IS WHAT COUNTS. Prove the row's statement (the work); the ties are given (YtefhgikpghpijaaDoorTie.lean); close each card by the builder's one call (the guide's Derived/Test/ToyasCard.lean, 'card_holds'). Laid BY PROGRAM, IN A SANDBOX (cutbox-door.mjs). By AI agents, Wed Nov 11 2026. No macro, syntax, notation, axiom, sorry.
-/
import Derived.Test.YtefhgikpghpijaaDoorRows
import GoSem.ClaimSeven
namespace Go.Proofs.YtefhgikpghpijaaDoor
namespace Rows

/-- THE TIED CARD OF 'quaymasterkeep.HeadBack'. -/
def headBackCard : Claim7 := { stood := { row := headBackRow, standIns := [], harness := (true, "5be133ec5c7b8a380360fe205da16fee78ce3343ede7f16dea8509aa14acd413"), looks := true }, kinds := [], alts := [], laidByText := true, laidKinds := [.data, .data, .data, .data, .sentinel, .sentinel, .listed, .data, .pinned], laidTests := true, laidLooks := .later }
def HeadBackCardSaid : Prop := Claim7.holds Tryd.pinned (.plain (OpenSpec.ofChange headBackSpec)) headBackCard

/-- THE TIED CARD OF 'quaymasterkeep.HeadOnly'. -/
def headOnlyCard : Claim7 := { stood := { row := headOnlyRow, standIns := [], harness := (true, "5be133ec5c7b8a380360fe205da16fee78ce3343ede7f16dea8509aa14acd413"), looks := true }, kinds := [], alts := [], laidByText := true, laidKinds := [.data, .data, .data, .data, .sentinel, .sentinel, .listed, .data, .pinned], laidTests := true, laidLooks := .later }
def HeadOnlyCardSaid : Prop := Claim7.holds Tryd.pinned (.plain (OpenSpec.ofChange headOnlySpec)) headOnlyCard

/-- THE TIED CARD OF 'quaymasterkeep.HeadNow'. -/
def headNowCard : Claim7 := { stood := { row := headNowRow, standIns := [], harness := (true, "5be133ec5c7b8a380360fe205da16fee78ce3343ede7f16dea8509aa14acd413"), looks := true }, kinds := [], alts := [], laidByText := true, laidKinds := [.data, .data, .data, .data, .sentinel, .sentinel, .listed, .data, .pinned], laidTests := true, laidLooks := .later }
def HeadNowCardSaid : Prop := Claim7.holds Tryd.pinned (.plain (OpenSpec.ofChange headNowSpec)) headNowCard

/-- THE TIED CARD OF 'quaymasterkeep.HeadFields'. -/
def headFieldsCard : Claim7 := { stood := { row := headFieldsRow, standIns := [], harness := (true, "5be133ec5c7b8a380360fe205da16fee78ce3343ede7f16dea8509aa14acd413"), looks := true }, kinds := [], alts := [], laidByText := true, laidKinds := [.data, .data, .data, .data, .sentinel, .sentinel, .listed, .data, .pinned], laidTests := true, laidLooks := .later }
def HeadFieldsCardSaid : Prop := Claim7.holds Tryd.pinned (.plain (OpenSpec.ofChange headFieldsSpec)) headFieldsCard

/-- THE TIED CARD OF 'quaymasterkeep.HeadNames'. -/
def headNamesCard : Claim7 := { stood := { row := headNamesRow, standIns := [], harness := (true, "5be133ec5c7b8a380360fe205da16fee78ce3343ede7f16dea8509aa14acd413"), looks := true }, kinds := [], alts := [], laidByText := true, laidKinds := [.data, .data, .data, .data, .sentinel, .sentinel, .listed, .data, .pinned], laidTests := true, laidLooks := .later }
def HeadNamesCardSaid : Prop := Claim7.holds Tryd.pinned (.plain (OpenSpec.ofChange headNamesSpec)) headNamesCard

/-- THE TIED CARD OF 'quaymasterkeep.HeadZeros'. -/
def headZerosCard : Claim7 := { stood := { row := headZerosRow, standIns := [], harness := (true, "5be133ec5c7b8a380360fe205da16fee78ce3343ede7f16dea8509aa14acd413"), looks := true }, kinds := [], alts := [], laidByText := true, laidKinds := [.data, .data, .data, .data, .sentinel, .sentinel, .listed, .data, .pinned], laidTests := true, laidLooks := .later }
def HeadZerosCardSaid : Prop := Claim7.holds Tryd.pinned (.plain (OpenSpec.ofChange headZerosSpec)) headZerosCard

/-- THE TIED CARD OF 'quaymasterkeep.HeadValues'. -/
def headValuesCard : Claim7 := { stood := { row := headValuesRow, standIns := [], harness := (true, "5be133ec5c7b8a380360fe205da16fee78ce3343ede7f16dea8509aa14acd413"), looks := true }, kinds := [], alts := [], laidByText := true, laidKinds := [.data, .data, .data, .data, .sentinel, .sentinel, .listed, .data, .pinned], laidTests := true, laidLooks := .later }
def HeadValuesCardSaid : Prop := Claim7.holds Tryd.pinned (.plain (OpenSpec.ofChange headValuesSpec)) headValuesCard

/-- THE TIED CARD OF 'quaymasterkeep.HeadFlags'. -/
def headFlagsCard : Claim7 := { stood := { row := headFlagsRow, standIns := [], harness := (true, "5be133ec5c7b8a380360fe205da16fee78ce3343ede7f16dea8509aa14acd413"), looks := true }, kinds := [], alts := [], laidByText := true, laidKinds := [.data, .data, .data, .data, .handle, .sentinel, .sentinel, .listed, .data, .pinned], laidTests := true, laidLooks := .later }
def HeadFlagsCardSaid : Prop := Claim7.holds Tryd.pinned (.plain (OpenSpec.ofChange headFlagsSpec)) headFlagsCard

/-- THE TIED CARD OF 'quaymasterkeep.HeadCount'. -/
def headCountCard : Claim7 := { stood := { row := headCountRow, standIns := [], harness := (true, "5be133ec5c7b8a380360fe205da16fee78ce3343ede7f16dea8509aa14acd413"), looks := true }, kinds := [], alts := [], laidByText := true, laidKinds := [.data, .data, .data, .data, .handle, .sentinel, .sentinel, .listed, .data, .pinned], laidTests := true, laidLooks := .later }
def HeadCountCardSaid : Prop := Claim7.holds Tryd.pinned (.plain (OpenSpec.ofChange headCountSpec)) headCountCard

/-- THE SECOND FORM's CARD OF 'quaymasterkeep.HeadBack'. -/
def headBackUptoCard : Claim7 := { stood := { row := headBackUptoRow, standIns := [], harness := (true, "5be133ec5c7b8a380360fe205da16fee78ce3343ede7f16dea8509aa14acd413"), looks := true }, kinds := [], alts := [], laidByText := true, laidKinds := [.data, .data, .data, .data, .sentinel, .sentinel, .listed, .data, .pinned], laidTests := true, laidLooks := .later }
def HeadBackUptoCardSaid : Prop := Claim7.holds Tryd.pinned (.plain (OpenSpec.upto headBackSpec)) headBackUptoCard

/-- THE SECOND FORM's CARD OF 'quaymasterkeep.HeadOnly'. -/
def headOnlyUptoCard : Claim7 := { stood := { row := headOnlyUptoRow, standIns := [], harness := (true, "5be133ec5c7b8a380360fe205da16fee78ce3343ede7f16dea8509aa14acd413"), looks := true }, kinds := [], alts := [], laidByText := true, laidKinds := [.data, .data, .data, .data, .sentinel, .sentinel, .listed, .data, .pinned], laidTests := true, laidLooks := .later }
def HeadOnlyUptoCardSaid : Prop := Claim7.holds Tryd.pinned (.plain (OpenSpec.upto headOnlySpec)) headOnlyUptoCard

/-- THE SECOND FORM's CARD OF 'quaymasterkeep.HeadNow'. -/
def headNowUptoCard : Claim7 := { stood := { row := headNowUptoRow, standIns := [], harness := (true, "5be133ec5c7b8a380360fe205da16fee78ce3343ede7f16dea8509aa14acd413"), looks := true }, kinds := [], alts := [], laidByText := true, laidKinds := [.data, .data, .data, .data, .sentinel, .sentinel, .listed, .data, .pinned], laidTests := true, laidLooks := .later }
def HeadNowUptoCardSaid : Prop := Claim7.holds Tryd.pinned (.plain (OpenSpec.upto headNowSpec)) headNowUptoCard

/-- THE SECOND FORM's CARD OF 'quaymasterkeep.HeadFields'. -/
def headFieldsUptoCard : Claim7 := { stood := { row := headFieldsUptoRow, standIns := [], harness := (true, "5be133ec5c7b8a380360fe205da16fee78ce3343ede7f16dea8509aa14acd413"), looks := true }, kinds := [], alts := [], laidByText := true, laidKinds := [.data, .data, .data, .data, .sentinel, .sentinel, .listed, .data, .pinned], laidTests := true, laidLooks := .later }
def HeadFieldsUptoCardSaid : Prop := Claim7.holds Tryd.pinned (.plain (OpenSpec.upto headFieldsSpec)) headFieldsUptoCard

/-- THE SECOND FORM's CARD OF 'quaymasterkeep.HeadNames'. -/
def headNamesUptoCard : Claim7 := { stood := { row := headNamesUptoRow, standIns := [], harness := (true, "5be133ec5c7b8a380360fe205da16fee78ce3343ede7f16dea8509aa14acd413"), looks := true }, kinds := [], alts := [], laidByText := true, laidKinds := [.data, .data, .data, .data, .sentinel, .sentinel, .listed, .data, .pinned], laidTests := true, laidLooks := .later }
def HeadNamesUptoCardSaid : Prop := Claim7.holds Tryd.pinned (.plain (OpenSpec.upto headNamesSpec)) headNamesUptoCard

/-- THE SECOND FORM's CARD OF 'quaymasterkeep.HeadZeros'. -/
def headZerosUptoCard : Claim7 := { stood := { row := headZerosUptoRow, standIns := [], harness := (true, "5be133ec5c7b8a380360fe205da16fee78ce3343ede7f16dea8509aa14acd413"), looks := true }, kinds := [], alts := [], laidByText := true, laidKinds := [.data, .data, .data, .data, .sentinel, .sentinel, .listed, .data, .pinned], laidTests := true, laidLooks := .later }
def HeadZerosUptoCardSaid : Prop := Claim7.holds Tryd.pinned (.plain (OpenSpec.upto headZerosSpec)) headZerosUptoCard

/-- THE SECOND FORM's CARD OF 'quaymasterkeep.HeadValues'. -/
def headValuesUptoCard : Claim7 := { stood := { row := headValuesUptoRow, standIns := [], harness := (true, "5be133ec5c7b8a380360fe205da16fee78ce3343ede7f16dea8509aa14acd413"), looks := true }, kinds := [], alts := [], laidByText := true, laidKinds := [.data, .data, .data, .data, .sentinel, .sentinel, .listed, .data, .pinned], laidTests := true, laidLooks := .later }
def HeadValuesUptoCardSaid : Prop := Claim7.holds Tryd.pinned (.plain (OpenSpec.upto headValuesSpec)) headValuesUptoCard

/-- THE SECOND FORM's CARD OF 'quaymasterkeep.HeadFlags'. -/
def headFlagsUptoCard : Claim7 := { stood := { row := headFlagsUptoRow, standIns := [], harness := (true, "5be133ec5c7b8a380360fe205da16fee78ce3343ede7f16dea8509aa14acd413"), looks := true }, kinds := [], alts := [], laidByText := true, laidKinds := [.data, .data, .data, .data, .handle, .sentinel, .sentinel, .listed, .data, .pinned], laidTests := true, laidLooks := .later }
def HeadFlagsUptoCardSaid : Prop := Claim7.holds Tryd.pinned (.plain (OpenSpec.upto headFlagsSpec)) headFlagsUptoCard

/-- THE SECOND FORM's CARD OF 'quaymasterkeep.HeadCount'. -/
def headCountUptoCard : Claim7 := { stood := { row := headCountUptoRow, standIns := [], harness := (true, "5be133ec5c7b8a380360fe205da16fee78ce3343ede7f16dea8509aa14acd413"), looks := true }, kinds := [], alts := [], laidByText := true, laidKinds := [.data, .data, .data, .data, .handle, .sentinel, .sentinel, .listed, .data, .pinned], laidTests := true, laidLooks := .later }
def HeadCountUptoCardSaid : Prop := Claim7.holds Tryd.pinned (.plain (OpenSpec.upto headCountSpec)) headCountUptoCard
end Rows
end Go.Proofs.YtefhgikpghpijaaDoor
