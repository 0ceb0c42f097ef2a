/-
  No cell of these rows narrows 'for every input' (looked for: loops, veiled, ifaces, maps, wideKeys, modest, calm, conditions, laid).
  DERIVED. THE GIVEN ROWS OF THIS SEAT. 9 by the template 'for every input the law returns true; each argument reads behind the call as it read before'; 0 by the template 'total and deterministic' (their statements: YtacijaejdgpjaaaTotals.lean).
  GIVEN WITH THE SEED: the statements are not yours to turn. If you find one false, say at which input.
  Laid BY PROGRAM, IN A SANDBOX (cutbox-rows.mjs): the forced cells as the released guide's own fill.sh prints them over the translation 3020661a10a2b971… (all of the seat's roots in one cut). By AI agents, Wed Nov 11 2026. No macro, syntax, notation, axiom, sorry.
-/
import Derived.Test.YtacijaejdgpjaaaChecked
import GoSem.Claim
import GoSem.ClaimJoined
import GoSem.ClaimMapViews
import Derived.JoinedTies
import Derived.KernelRfl
namespace Go.Proofs.Ytacijaejdgpjaaa
/- THE CELL 'sum', in the pinned program and in every row, IS THE sha256 OF THE DUMP (.gsa) THAT YtacijaejdgpjaaaProg.lean LOADS. Nothing in Lean hashes anything: it is a label: what it is worth is what the hold of that sum in a sandbox is worth. -/
noncomputable def Try.pinned : Pinned := { name := "ytacijaejdgpjaaa", sum := "3020661a10a2b9715916ed32c73b807d74dc8db6d7acc29b22ad37d669ed8dbd", checked := Try.checked }
namespace Rows
def none {H : Type} : Left H := { results := [], args := [] }

/-- 'quaymasterkeep.SerialOrder': WHATEVER THE INPUT: true; the input reads as it did. -/
def serialOrderSpec : ChangeSpec := { name := "serialOrder", fn := fun _ => fun
  | [d1, d2] => { results := [.lit (.bool true)], args := [d1, d2] }
  | _ => none }
def serialOrderRow : OpenClaim := { program := "ytacijaejdgpjaaa", sum := "3020661a10a2b9715916ed32c73b807d74dc8db6d7acc29b22ad37d669ed8dbd", func := "quaymaster/quaymasterkeep.SerialOrder", spec := "serialOrder", apart := false }
def SerialOrderSaid : Prop := serialOrderRow.holds Try.pinned (OpenSpec.ofChange serialOrderSpec)

/-- ITS FALSE NEIGHBOUR: 'it returns false'. Refute it at one input. -/
def serialOrderWrong : ChangeSpec := { name := "serialOrder", fn := fun _ => fun
  | [d1, d2] => { results := [.lit (.bool false)], args := [d1, d2] }
  | _ => none }
def SerialOrderWrongFalsely : Prop := serialOrderRow.holds Try.pinned (OpenSpec.ofChange serialOrderWrong)

/-- 'quaymasterkeep.SerialAfter': WHATEVER THE INPUT: true; the input reads as it did. -/
def serialAfterSpec : ChangeSpec := { name := "serialAfter", fn := fun _ => fun
  | [d1, d2, d3] => { results := [.lit (.bool true)], args := [d1, d2, d3] }
  | _ => none }
def serialAfterRow : OpenClaim := { program := "ytacijaejdgpjaaa", sum := "3020661a10a2b9715916ed32c73b807d74dc8db6d7acc29b22ad37d669ed8dbd", func := "quaymaster/quaymasterkeep.SerialAfter", spec := "serialAfter", apart := false }
def SerialAfterSaid : Prop := serialAfterRow.holds Try.pinned (OpenSpec.ofChange serialAfterSpec)

/-- ITS FALSE NEIGHBOUR: 'it returns false'. Refute it at one input. -/
def serialAfterWrong : ChangeSpec := { name := "serialAfter", fn := fun _ => fun
  | [d1, d2, d3] => { results := [.lit (.bool false)], args := [d1, d2, d3] }
  | _ => none }
def SerialAfterWrongFalsely : Prop := serialAfterRow.holds Try.pinned (OpenSpec.ofChange serialAfterWrong)

/-- 'quaymasterkeep.SerialWithin': WHATEVER THE INPUT: true; the input reads as it did. -/
def serialWithinSpec : ChangeSpec := { name := "serialWithin", fn := fun _ => fun
  | [d1, d2, d3] => { results := [.lit (.bool true)], args := [d1, d2, d3] }
  | _ => none }
def serialWithinRow : OpenClaim := { program := "ytacijaejdgpjaaa", sum := "3020661a10a2b9715916ed32c73b807d74dc8db6d7acc29b22ad37d669ed8dbd", func := "quaymaster/quaymasterkeep.SerialWithin", spec := "serialWithin", apart := false }
def SerialWithinSaid : Prop := serialWithinRow.holds Try.pinned (OpenSpec.ofChange serialWithinSpec)

/-- ITS FALSE NEIGHBOUR: 'it returns false'. Refute it at one input. -/
def serialWithinWrong : ChangeSpec := { name := "serialWithin", fn := fun _ => fun
  | [d1, d2, d3] => { results := [.lit (.bool false)], args := [d1, d2, d3] }
  | _ => none }
def SerialWithinWrongFalsely : Prop := serialWithinRow.holds Try.pinned (OpenSpec.ofChange serialWithinWrong)

/-- 'quaymasterkeep.CrcBurst': WHATEVER THE INPUT: true; the input reads as it did. -/
def crcBurstSpec : ChangeSpec := { name := "crcBurst", fn := fun _ => fun
  | [d1, d2, d3] => { results := [.lit (.bool true)], args := [d1, d2, d3] }
  | _ => none }
def crcBurstRow : OpenClaim := { program := "ytacijaejdgpjaaa", sum := "3020661a10a2b9715916ed32c73b807d74dc8db6d7acc29b22ad37d669ed8dbd", func := "quaymaster/quaymasterkeep.CrcBurst", spec := "crcBurst", apart := false }
def CrcBurstSaid : Prop := crcBurstRow.holds Try.pinned (OpenSpec.ofChange crcBurstSpec)

/-- ITS FALSE NEIGHBOUR: 'it returns false'. Refute it at one input. -/
def crcBurstWrong : ChangeSpec := { name := "crcBurst", fn := fun _ => fun
  | [d1, d2, d3] => { results := [.lit (.bool false)], args := [d1, d2, d3] }
  | _ => none }
def CrcBurstWrongFalsely : Prop := crcBurstRow.holds Try.pinned (OpenSpec.ofChange crcBurstWrong)

/-- 'quaymasterkeep.CrcEven': WHATEVER THE INPUT: true; the input reads as it did. -/
def crcEvenSpec : ChangeSpec := { name := "crcEven", fn := fun _ => fun
  | [d1, d2, d3] => { results := [.lit (.bool true)], args := [d1, d2, d3] }
  | _ => none }
def crcEvenRow : OpenClaim := { program := "ytacijaejdgpjaaa", sum := "3020661a10a2b9715916ed32c73b807d74dc8db6d7acc29b22ad37d669ed8dbd", func := "quaymaster/quaymasterkeep.CrcEven", spec := "crcEven", apart := false }
def CrcEvenSaid : Prop := crcEvenRow.holds Try.pinned (OpenSpec.ofChange crcEvenSpec)

/-- ITS FALSE NEIGHBOUR: 'it returns false'. Refute it at one input. -/
def crcEvenWrong : ChangeSpec := { name := "crcEven", fn := fun _ => fun
  | [d1, d2, d3] => { results := [.lit (.bool false)], args := [d1, d2, d3] }
  | _ => none }
def CrcEvenWrongFalsely : Prop := crcEvenRow.holds Try.pinned (OpenSpec.ofChange crcEvenWrong)

/-- 'quaymasterkeep.FieldOrder': WHATEVER THE INPUT: true; the input reads as it did. -/
def fieldOrderSpec : ChangeSpec := { name := "fieldOrder", fn := fun _ => fun
  | [d1, d2] => { results := [.lit (.bool true)], args := [d1, d2] }
  | _ => none }
def fieldOrderRow : OpenClaim := { program := "ytacijaejdgpjaaa", sum := "3020661a10a2b9715916ed32c73b807d74dc8db6d7acc29b22ad37d669ed8dbd", func := "quaymaster/quaymasterkeep.FieldOrder", spec := "fieldOrder", apart := false }
def FieldOrderSaid : Prop := fieldOrderRow.holds Try.pinned (OpenSpec.ofChange fieldOrderSpec)

/-- ITS FALSE NEIGHBOUR: 'it returns false'. Refute it at one input. -/
def fieldOrderWrong : ChangeSpec := { name := "fieldOrder", fn := fun _ => fun
  | [d1, d2] => { results := [.lit (.bool false)], args := [d1, d2] }
  | _ => none }
def FieldOrderWrongFalsely : Prop := fieldOrderRow.holds Try.pinned (OpenSpec.ofChange fieldOrderWrong)

/-- 'quaymasterkeep.FieldPad': WHATEVER THE INPUT: true; the input reads as it did. -/
def fieldPadSpec : ChangeSpec := { name := "fieldPad", fn := fun _ => fun
  | [d1, d2] => { results := [.lit (.bool true)], args := [d1, d2] }
  | _ => none }
def fieldPadRow : OpenClaim := { program := "ytacijaejdgpjaaa", sum := "3020661a10a2b9715916ed32c73b807d74dc8db6d7acc29b22ad37d669ed8dbd", func := "quaymaster/quaymasterkeep.FieldPad", spec := "fieldPad", apart := false }
def FieldPadSaid : Prop := fieldPadRow.holds Try.pinned (OpenSpec.ofChange fieldPadSpec)

/-- ITS FALSE NEIGHBOUR: 'it returns false'. Refute it at one input. -/
def fieldPadWrong : ChangeSpec := { name := "fieldPad", fn := fun _ => fun
  | [d1, d2] => { results := [.lit (.bool false)], args := [d1, d2] }
  | _ => none }
def FieldPadWrongFalsely : Prop := fieldPadRow.holds Try.pinned (OpenSpec.ofChange fieldPadWrong)

/-- 'quaymasterkeep.Md5Known': WHATEVER THE INPUT: true; the input reads as it did. -/
def md5KnownSpec : ChangeSpec := { name := "md5Known", fn := fun _ => fun
  | [d1, d2] => { results := [.lit (.bool true)], args := [d1, d2] }
  | _ => none }
def md5KnownRow : OpenClaim := { program := "ytacijaejdgpjaaa", sum := "3020661a10a2b9715916ed32c73b807d74dc8db6d7acc29b22ad37d669ed8dbd", func := "quaymaster/quaymasterkeep.Md5Known", spec := "md5Known", apart := false }
def Md5KnownSaid : Prop := md5KnownRow.holds Try.pinned (OpenSpec.ofChange md5KnownSpec)

/-- ITS FALSE NEIGHBOUR: 'it returns false'. Refute it at one input. -/
def md5KnownWrong : ChangeSpec := { name := "md5Known", fn := fun _ => fun
  | [d1, d2] => { results := [.lit (.bool false)], args := [d1, d2] }
  | _ => none }
def Md5KnownWrongFalsely : Prop := md5KnownRow.holds Try.pinned (OpenSpec.ofChange md5KnownWrong)

/-- 'quaymasterkeep.FieldWide': WHATEVER THE INPUT: true; the input reads as it did. -/
def fieldWideSpec : ChangeSpec := { name := "fieldWide", fn := fun _ => fun
  | [d1, d2, d3] => { results := [.lit (.bool true)], args := [d1, d2, d3] }
  | _ => none }
def fieldWideRow : OpenClaim := { program := "ytacijaejdgpjaaa", sum := "3020661a10a2b9715916ed32c73b807d74dc8db6d7acc29b22ad37d669ed8dbd", func := "quaymaster/quaymasterkeep.FieldWide", spec := "fieldWide", inPlace := ["internal/abi.NoEscape", "internal/bytealg.MakeNoZero"], apart := false }
def FieldWideSaid : Prop := fieldWideRow.holds Try.pinned (OpenSpec.ofChange fieldWideSpec)

/-- ITS FALSE NEIGHBOUR: 'it returns false'. Refute it at one input. -/
def fieldWideWrong : ChangeSpec := { name := "fieldWide", fn := fun _ => fun
  | [d1, d2, d3] => { results := [.lit (.bool false)], args := [d1, d2, d3] }
  | _ => none }
def FieldWideWrongFalsely : Prop := fieldWideRow.holds Try.pinned (OpenSpec.ofChange fieldWideWrong)

/- THE SECOND FORM. 'bulk': how many values and letters a reading holds, each counted each time it is reached (what is shared counts as often as it is met; a slice's spare places count too). A statement '..UptoSaid' is the law's where the arguments, and the package variables that the reading takes, are together of bulk at most 1048576: NARROWER than '..Said'. Prove '..Said' where nothing that the law and all that it calls make is longer than what came in: it says more and counts as full. Else prove '..UptoSaid'. A law counts once. -/
mutual
def uptoBulk {H : Type} : DataW H → Nat
  | .lit (.string bytes) => bytes.length + 1
  | .lit _ => 1
  | .nil => 1
  | .ptr d => uptoBulk d + 1
  | .slice elems spare => uptoBulkAll elems + uptoBulkAll spare + 1
  | .agg parts => uptoBulkAll parts + 1
  | .iface _ d => uptoBulk d + 1
  | .map entries => uptoBulkEntries entries + 1
  | .held _ => 1
def uptoBulkAll {H : Type} : List (DataW H) → Nat
  | [] => 0
  | d :: r => uptoBulk d + uptoBulkAll r
def uptoBulkEntries {H : Type} : List (Lit × DataW H) → Nat
  | [] => 0
  | x :: r => uptoBulkEntry x + uptoBulkEntries r
def uptoBulkEntry {H : Type} : Lit × DataW H → Nat
  | (.string bytes, d) => bytes.length + uptoBulk d + 1
  | (_, d) => uptoBulk d + 1
 end
def uptoSmall : (H : Type) → List (DataW H) → Bool := fun _ ds => decide (uptoBulkAll ds ≤ 1048576)
def OpenSpec.upto (s : _root_.Go.ChangeSpec) : _root_.Go.OpenSpec := { _root_.Go.OpenSpec.ofChange s with cond := some uptoSmall }

/-- 'quaymasterkeep.SerialOrder', WHERE WHAT IT READS IS OF BULK AT MOST 1048576: true; the input reads as it did. -/
def serialOrderUptoRow : OpenClaim := { program := "ytacijaejdgpjaaa", sum := "3020661a10a2b9715916ed32c73b807d74dc8db6d7acc29b22ad37d669ed8dbd", func := "quaymaster/quaymasterkeep.SerialOrder", spec := "serialOrder", apart := false, narrowed := true }
def SerialOrderUptoSaid : Prop := serialOrderUptoRow.holds Try.pinned (OpenSpec.upto serialOrderSpec)

/-- 'quaymasterkeep.SerialAfter', WHERE WHAT IT READS IS OF BULK AT MOST 1048576: true; the input reads as it did. -/
def serialAfterUptoRow : OpenClaim := { program := "ytacijaejdgpjaaa", sum := "3020661a10a2b9715916ed32c73b807d74dc8db6d7acc29b22ad37d669ed8dbd", func := "quaymaster/quaymasterkeep.SerialAfter", spec := "serialAfter", apart := false, narrowed := true }
def SerialAfterUptoSaid : Prop := serialAfterUptoRow.holds Try.pinned (OpenSpec.upto serialAfterSpec)

/-- 'quaymasterkeep.SerialWithin', WHERE WHAT IT READS IS OF BULK AT MOST 1048576: true; the input reads as it did. -/
def serialWithinUptoRow : OpenClaim := { program := "ytacijaejdgpjaaa", sum := "3020661a10a2b9715916ed32c73b807d74dc8db6d7acc29b22ad37d669ed8dbd", func := "quaymaster/quaymasterkeep.SerialWithin", spec := "serialWithin", apart := false, narrowed := true }
def SerialWithinUptoSaid : Prop := serialWithinUptoRow.holds Try.pinned (OpenSpec.upto serialWithinSpec)

/-- 'quaymasterkeep.CrcBurst', WHERE WHAT IT READS IS OF BULK AT MOST 1048576: true; the input reads as it did. -/
def crcBurstUptoRow : OpenClaim := { program := "ytacijaejdgpjaaa", sum := "3020661a10a2b9715916ed32c73b807d74dc8db6d7acc29b22ad37d669ed8dbd", func := "quaymaster/quaymasterkeep.CrcBurst", spec := "crcBurst", apart := false, narrowed := true }
def CrcBurstUptoSaid : Prop := crcBurstUptoRow.holds Try.pinned (OpenSpec.upto crcBurstSpec)

/-- 'quaymasterkeep.CrcEven', WHERE WHAT IT READS IS OF BULK AT MOST 1048576: true; the input reads as it did. -/
def crcEvenUptoRow : OpenClaim := { program := "ytacijaejdgpjaaa", sum := "3020661a10a2b9715916ed32c73b807d74dc8db6d7acc29b22ad37d669ed8dbd", func := "quaymaster/quaymasterkeep.CrcEven", spec := "crcEven", apart := false, narrowed := true }
def CrcEvenUptoSaid : Prop := crcEvenUptoRow.holds Try.pinned (OpenSpec.upto crcEvenSpec)

/-- 'quaymasterkeep.FieldOrder', WHERE WHAT IT READS IS OF BULK AT MOST 1048576: true; the input reads as it did. -/
def fieldOrderUptoRow : OpenClaim := { program := "ytacijaejdgpjaaa", sum := "3020661a10a2b9715916ed32c73b807d74dc8db6d7acc29b22ad37d669ed8dbd", func := "quaymaster/quaymasterkeep.FieldOrder", spec := "fieldOrder", apart := false, narrowed := true }
def FieldOrderUptoSaid : Prop := fieldOrderUptoRow.holds Try.pinned (OpenSpec.upto fieldOrderSpec)

/-- 'quaymasterkeep.FieldPad', WHERE WHAT IT READS IS OF BULK AT MOST 1048576: true; the input reads as it did. -/
def fieldPadUptoRow : OpenClaim := { program := "ytacijaejdgpjaaa", sum := "3020661a10a2b9715916ed32c73b807d74dc8db6d7acc29b22ad37d669ed8dbd", func := "quaymaster/quaymasterkeep.FieldPad", spec := "fieldPad", apart := false, narrowed := true }
def FieldPadUptoSaid : Prop := fieldPadUptoRow.holds Try.pinned (OpenSpec.upto fieldPadSpec)

/-- 'quaymasterkeep.Md5Known', WHERE WHAT IT READS IS OF BULK AT MOST 1048576: true; the input reads as it did. -/
def md5KnownUptoRow : OpenClaim := { program := "ytacijaejdgpjaaa", sum := "3020661a10a2b9715916ed32c73b807d74dc8db6d7acc29b22ad37d669ed8dbd", func := "quaymaster/quaymasterkeep.Md5Known", spec := "md5Known", apart := false, narrowed := true }
def Md5KnownUptoSaid : Prop := md5KnownUptoRow.holds Try.pinned (OpenSpec.upto md5KnownSpec)

/-- 'quaymasterkeep.FieldWide', WHERE WHAT IT READS IS OF BULK AT MOST 1048576: true; the input reads as it did. -/
def fieldWideUptoRow : OpenClaim := { program := "ytacijaejdgpjaaa", sum := "3020661a10a2b9715916ed32c73b807d74dc8db6d7acc29b22ad37d669ed8dbd", func := "quaymaster/quaymasterkeep.FieldWide", spec := "fieldWide", inPlace := ["internal/abi.NoEscape", "internal/bytealg.MakeNoZero"], apart := false, narrowed := true }
def FieldWideUptoSaid : Prop := fieldWideUptoRow.holds Try.pinned (OpenSpec.upto fieldWideSpec)

end Rows
end Go.Proofs.Ytacijaejdgpjaaa
