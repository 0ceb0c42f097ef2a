/-
  DERIVED. GIVEN WITH THE SEED: THE CARDS: each row of YtacijaejdgpjaaaDoorRows.lean that lists a variable, with what it lists TIED to the program's text (the seventh form; the later family's looks); each row that meets fmt, with fmt's text TOLD by the authors' own Lean function (tested against real Go, not proved from fmt's source: count such statements apart). THE CARD IS WHAT COUNTS. Prove the row's statement (the work); the ties are given (YtacijaejdgpjaaaDoorTie.lean); close each card by the builder's one call (the guide's Derived/Test/ToyasCard.lean, 'card_holds'). Laid BY PROGRAM, IN A SANDBOX (cutbox-door.mjs). By AI agents, Wed Nov 11 2026. No macro, syntax, notation, axiom, sorry.
-/
import Derived.Test.YtacijaejdgpjaaaDoorRows
import GoSem.ClaimSeven
namespace Go.Proofs.YtacijaejdgpjaaaDoor
namespace Rows

/-- THE TIED CARD OF 'quaymasterkeep.FieldBack'. -/
def fieldBackCard : Claim7 := { stood := { row := fieldBackRow, standIns := [], harness := (true, "71d5d185394e6124c8fdb6d8f00691e34a9649647030c736228986598c7b263d"), looks := true }, kinds := [], alts := [], laidByText := true, laidKinds := [.handle], laidTests := true, laidLooks := .later }
def FieldBackCardSaid : Prop := Claim7.holds Tryd.pinned (.plain (OpenSpec.ofChange fieldBackSpec)) fieldBackCard

/-- THE TIED CARD OF 'quaymasterkeep.FieldOnly'. -/
def fieldOnlyCard : Claim7 := { stood := { row := fieldOnlyRow, standIns := [], harness := (true, "71d5d185394e6124c8fdb6d8f00691e34a9649647030c736228986598c7b263d"), looks := true }, kinds := [], alts := [], laidByText := true, laidKinds := [.handle], laidTests := true, laidLooks := .later }
def FieldOnlyCardSaid : Prop := Claim7.holds Tryd.pinned (.plain (OpenSpec.ofChange fieldOnlySpec)) fieldOnlyCard

/-- THE TIED CARD OF 'quaymasterkeep.FieldSpoilt'. -/
def fieldSpoiltCard : Claim7 := { stood := { row := fieldSpoiltRow, standIns := [], harness := (true, "71d5d185394e6124c8fdb6d8f00691e34a9649647030c736228986598c7b263d"), looks := true }, kinds := [], alts := [], laidByText := true, laidKinds := [.handle], laidTests := true, laidLooks := .later }
def FieldSpoiltCardSaid : Prop := Claim7.holds Tryd.pinned (.plain (OpenSpec.ofChange fieldSpoiltSpec)) fieldSpoiltCard

/-- THE SECOND FORM's CARD OF 'quaymasterkeep.FieldBack'. -/
def fieldBackUptoCard : Claim7 := { stood := { row := fieldBackUptoRow, standIns := [], harness := (true, "71d5d185394e6124c8fdb6d8f00691e34a9649647030c736228986598c7b263d"), looks := true }, kinds := [], alts := [], laidByText := true, laidKinds := [.handle], laidTests := true, laidLooks := .later }
def FieldBackUptoCardSaid : Prop := Claim7.holds Tryd.pinned (.plain (OpenSpec.upto fieldBackSpec)) fieldBackUptoCard

/-- THE SECOND FORM's CARD OF 'quaymasterkeep.FieldOnly'. -/
def fieldOnlyUptoCard : Claim7 := { stood := { row := fieldOnlyUptoRow, standIns := [], harness := (true, "71d5d185394e6124c8fdb6d8f00691e34a9649647030c736228986598c7b263d"), looks := true }, kinds := [], alts := [], laidByText := true, laidKinds := [.handle], laidTests := true, laidLooks := .later }
def FieldOnlyUptoCardSaid : Prop := Claim7.holds Tryd.pinned (.plain (OpenSpec.upto fieldOnlySpec)) fieldOnlyUptoCard

/-- THE SECOND FORM's CARD OF 'quaymasterkeep.FieldSpoilt'. -/
def fieldSpoiltUptoCard : Claim7 := { stood := { row := fieldSpoiltUptoRow, standIns := [], harness := (true, "71d5d185394e6124c8fdb6d8f00691e34a9649647030c736228986598c7b263d"), looks := true }, kinds := [], alts := [], laidByText := true, laidKinds := [.handle], laidTests := true, laidLooks := .later }
def FieldSpoiltUptoCardSaid : Prop := Claim7.holds Tryd.pinned (.plain (OpenSpec.upto fieldSpoiltSpec)) fieldSpoiltUptoCard
end Rows
end Go.Proofs.YtacijaejdgpjaaaDoor
