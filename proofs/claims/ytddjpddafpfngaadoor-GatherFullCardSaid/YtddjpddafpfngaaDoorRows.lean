/-
  NARROWER THAN 'FOR EVERY INPUT', by the rows' own cells (each row's printed sentence says how): AhsOnly: laid · BinaryBack: laid · BinaryJoins: laid · BinaryCut: laid · AhsBack: laid · AhsCut: laid · AhsJoins: laid · AhsRoom: laid · ChapLong: laid · ChapUsers: laid · ChapRight: laid · GatherFull: laid.
  DERIVED. THE GIVEN ROWS OF THIS SEAT. 12 by the template 'for every input the law returns true; each argument reads behind the call as it read before'; 0 by the template 'total and deterministic' (their statements: YtddjpddafpfngaaDoorTotals.lean).
  GIVEN WITH THE SEED: the statements are not yours to turn. If you find one false, say at which input.
  Laid BY PROGRAM, IN A SANDBOX (cutbox-rows.mjs): the forced cells as the released guide's own fill.sh prints them over the translation 63dda724d22b9545… (all of the seat's roots in one cut). By AI agents, Wed Nov 11 2026. No macro, syntax, notation, axiom, sorry.
-/
import Derived.Test.YtddjpddafpfngaaDoorChecked
import GoSem.Claim
import GoSem.ClaimJoined
import GoSem.ClaimMapViews
import Derived.JoinedTies
import Derived.KernelRfl
namespace Go.Proofs.YtddjpddafpfngaaDoor
/- THE CELL 'sum', in the pinned program and in every row, IS THE sha256 OF THE DUMP (.gsa) THAT YtddjpddafpfngaaDoorProg.lean LOADS. Nothing in Lean hashes anything: it is a label: what it is worth is what the hold of that sum in a sandbox is worth. -/
noncomputable def Tryd.pinned : Pinned := { name := "ytddjpddafpfngaadoor", sum := "63dda724d22b9545134adbc1d4eb52f1e811abdcf7bf72ba061e01365cfbebfa", checked := Tryd.checked }
namespace Rows
def none {H : Type} : Left H := { results := [], args := [] }

/- WHAT THE LISTED PACKAGE-LEVEL VARIABLES READ AS WHEN THE CALL BEGINS. Each datum BY PROGRAM (the guide's laid-datum.mjs) off the statement by which the dump's own 'gosem.cut.vars' lays the variable. In a bare row this is a premise. The card (YtddjpddafpfngaaDoorCards.lean) ties it to the program's text. -/
def laid_errors_errorType {H : Type} : DataW H := .iface "internal/reflectlite.rtype" (.agg [.ptr (.lit (.string [101, 114, 114, 111, 114]))])

/-- 'quaymasterkeep.AhsOnly': WHATEVER THE INPUT: true; the input reads as it did. -/
def ahsOnlySpec : ChangeSpec := { name := "ahsOnly", fn := fun _ => fun
  | [d] => { results := [.lit (.bool true)], args := [d] }
  | _ => none }
def ahsOnlyRow : OpenClaim := { program := "ytddjpddafpfngaadoor", sum := "63dda724d22b9545134adbc1d4eb52f1e811abdcf7bf72ba061e01365cfbebfa", func := "quaymaster/quaymasterkeep.AhsOnly", spec := "ahsOnly", inPlace := ["internal/reflectlite.ValueOf", "(internal/reflectlite.Value).Type", "(internal/reflectlite.Value).IsNil", "internal/reflectlite.TypeOf", "(internal/reflectlite.Value).Elem", "(internal/reflectlite.Value).Set"], unfollowed := true, recurses := true, named := ["errors.errorType"], apart := false, laid := [("errors.errorType", laid_errors_errorType)] }
def AhsOnlySaid : Prop := ahsOnlyRow.holds Tryd.pinned (OpenSpec.ofChange ahsOnlySpec)

/-- ITS FALSE NEIGHBOUR: 'it returns false'. Refute it at one input. -/
def ahsOnlyWrong : ChangeSpec := { name := "ahsOnly", fn := fun _ => fun
  | [d] => { results := [.lit (.bool false)], args := [d] }
  | _ => none }
def AhsOnlyWrongFalsely : Prop := ahsOnlyRow.holds Tryd.pinned (OpenSpec.ofChange ahsOnlyWrong)

/-- 'quaymasterkeep.BinaryBack': WHATEVER THE INPUT: true; the input reads as it did. -/
def binaryBackSpec : ChangeSpec := { name := "binaryBack", fn := fun _ => fun
  | [d] => { results := [.lit (.bool true)], args := [d] }
  | _ => none }
def binaryBackRow : OpenClaim := { program := "ytddjpddafpfngaadoor", sum := "63dda724d22b9545134adbc1d4eb52f1e811abdcf7bf72ba061e01365cfbebfa", func := "quaymaster/quaymasterkeep.BinaryBack", spec := "binaryBack", inPlace := ["internal/bytealg.IndexByteString", "internal/reflectlite.ValueOf", "(internal/reflectlite.Value).Type", "(internal/reflectlite.Value).IsNil", "internal/reflectlite.TypeOf", "(internal/reflectlite.Value).Elem", "(internal/reflectlite.Value).Set"], unfollowed := true, recurses := true, named := ["errors.errorType"], apart := false, laid := [("errors.errorType", laid_errors_errorType)] }
def BinaryBackSaid : Prop := binaryBackRow.holds Tryd.pinned (OpenSpec.ofChange binaryBackSpec)

/-- ITS FALSE NEIGHBOUR: 'it returns false'. Refute it at one input. -/
def binaryBackWrong : ChangeSpec := { name := "binaryBack", fn := fun _ => fun
  | [d] => { results := [.lit (.bool false)], args := [d] }
  | _ => none }
def BinaryBackWrongFalsely : Prop := binaryBackRow.holds Tryd.pinned (OpenSpec.ofChange binaryBackWrong)

/-- 'quaymasterkeep.BinaryJoins': WHATEVER THE INPUT: true; the input reads as it did. -/
def binaryJoinsSpec : ChangeSpec := { name := "binaryJoins", fn := fun _ => fun
  | [d1, d2] => { results := [.lit (.bool true)], args := [d1, d2] }
  | _ => none }
def binaryJoinsRow : OpenClaim := { program := "ytddjpddafpfngaadoor", sum := "63dda724d22b9545134adbc1d4eb52f1e811abdcf7bf72ba061e01365cfbebfa", func := "quaymaster/quaymasterkeep.BinaryJoins", spec := "binaryJoins", inPlace := ["internal/bytealg.IndexByteString", "internal/reflectlite.ValueOf", "(internal/reflectlite.Value).Type", "(internal/reflectlite.Value).IsNil", "internal/reflectlite.TypeOf", "(internal/reflectlite.Value).Elem", "(internal/reflectlite.Value).Set"], unfollowed := true, recurses := true, named := ["errors.errorType"], apart := false, laid := [("errors.errorType", laid_errors_errorType)] }
def BinaryJoinsSaid : Prop := binaryJoinsRow.holds Tryd.pinned (OpenSpec.ofChange binaryJoinsSpec)

/-- ITS FALSE NEIGHBOUR: 'it returns false'. Refute it at one input. -/
def binaryJoinsWrong : ChangeSpec := { name := "binaryJoins", fn := fun _ => fun
  | [d1, d2] => { results := [.lit (.bool false)], args := [d1, d2] }
  | _ => none }
def BinaryJoinsWrongFalsely : Prop := binaryJoinsRow.holds Tryd.pinned (OpenSpec.ofChange binaryJoinsWrong)

/-- 'quaymasterkeep.BinaryCut': WHATEVER THE INPUT: true; the input reads as it did. -/
def binaryCutSpec : ChangeSpec := { name := "binaryCut", fn := fun _ => fun
  | [d] => { results := [.lit (.bool true)], args := [d] }
  | _ => none }
def binaryCutRow : OpenClaim := { program := "ytddjpddafpfngaadoor", sum := "63dda724d22b9545134adbc1d4eb52f1e811abdcf7bf72ba061e01365cfbebfa", func := "quaymaster/quaymasterkeep.BinaryCut", spec := "binaryCut", inPlace := ["internal/bytealg.IndexByteString", "internal/reflectlite.ValueOf", "(internal/reflectlite.Value).Type", "(internal/reflectlite.Value).IsNil", "internal/reflectlite.TypeOf", "(internal/reflectlite.Value).Elem", "(internal/reflectlite.Value).Set"], unfollowed := true, recurses := true, named := ["errors.errorType"], apart := false, laid := [("errors.errorType", laid_errors_errorType)] }
def BinaryCutSaid : Prop := binaryCutRow.holds Tryd.pinned (OpenSpec.ofChange binaryCutSpec)

/-- ITS FALSE NEIGHBOUR: 'it returns false'. Refute it at one input. -/
def binaryCutWrong : ChangeSpec := { name := "binaryCut", fn := fun _ => fun
  | [d] => { results := [.lit (.bool false)], args := [d] }
  | _ => none }
def BinaryCutWrongFalsely : Prop := binaryCutRow.holds Tryd.pinned (OpenSpec.ofChange binaryCutWrong)

/-- 'quaymasterkeep.AhsBack': WHATEVER THE INPUT: true; the input reads as it did. -/
def ahsBackSpec : ChangeSpec := { name := "ahsBack", fn := fun _ => fun
  | [d] => { results := [.lit (.bool true)], args := [d] }
  | _ => none }
def ahsBackRow : OpenClaim := { program := "ytddjpddafpfngaadoor", sum := "63dda724d22b9545134adbc1d4eb52f1e811abdcf7bf72ba061e01365cfbebfa", func := "quaymaster/quaymasterkeep.AhsBack", spec := "ahsBack", inPlace := ["internal/reflectlite.ValueOf", "(internal/reflectlite.Value).Type", "(internal/reflectlite.Value).IsNil", "internal/reflectlite.TypeOf", "(internal/reflectlite.Value).Elem", "(internal/reflectlite.Value).Set"], unfollowed := true, recurses := true, named := ["errors.errorType"], apart := false, laid := [("errors.errorType", laid_errors_errorType)] }
def AhsBackSaid : Prop := ahsBackRow.holds Tryd.pinned (OpenSpec.ofChange ahsBackSpec)

/-- ITS FALSE NEIGHBOUR: 'it returns false'. Refute it at one input. -/
def ahsBackWrong : ChangeSpec := { name := "ahsBack", fn := fun _ => fun
  | [d] => { results := [.lit (.bool false)], args := [d] }
  | _ => none }
def AhsBackWrongFalsely : Prop := ahsBackRow.holds Tryd.pinned (OpenSpec.ofChange ahsBackWrong)

/-- 'quaymasterkeep.AhsCut': WHATEVER THE INPUT: true; the input reads as it did. -/
def ahsCutSpec : ChangeSpec := { name := "ahsCut", fn := fun _ => fun
  | [d1, d2] => { results := [.lit (.bool true)], args := [d1, d2] }
  | _ => none }
def ahsCutRow : OpenClaim := { program := "ytddjpddafpfngaadoor", sum := "63dda724d22b9545134adbc1d4eb52f1e811abdcf7bf72ba061e01365cfbebfa", func := "quaymaster/quaymasterkeep.AhsCut", spec := "ahsCut", inPlace := ["internal/reflectlite.ValueOf", "(internal/reflectlite.Value).Type", "(internal/reflectlite.Value).IsNil", "internal/reflectlite.TypeOf", "(internal/reflectlite.Value).Elem", "(internal/reflectlite.Value).Set"], unfollowed := true, recurses := true, named := ["errors.errorType"], apart := false, laid := [("errors.errorType", laid_errors_errorType)] }
def AhsCutSaid : Prop := ahsCutRow.holds Tryd.pinned (OpenSpec.ofChange ahsCutSpec)

/-- ITS FALSE NEIGHBOUR: 'it returns false'. Refute it at one input. -/
def ahsCutWrong : ChangeSpec := { name := "ahsCut", fn := fun _ => fun
  | [d1, d2] => { results := [.lit (.bool false)], args := [d1, d2] }
  | _ => none }
def AhsCutWrongFalsely : Prop := ahsCutRow.holds Tryd.pinned (OpenSpec.ofChange ahsCutWrong)

/-- 'quaymasterkeep.AhsJoins': WHATEVER THE INPUT: true; the input reads as it did. -/
def ahsJoinsSpec : ChangeSpec := { name := "ahsJoins", fn := fun _ => fun
  | [d1, d2] => { results := [.lit (.bool true)], args := [d1, d2] }
  | _ => none }
def ahsJoinsRow : OpenClaim := { program := "ytddjpddafpfngaadoor", sum := "63dda724d22b9545134adbc1d4eb52f1e811abdcf7bf72ba061e01365cfbebfa", func := "quaymaster/quaymasterkeep.AhsJoins", spec := "ahsJoins", inPlace := ["internal/reflectlite.ValueOf", "(internal/reflectlite.Value).Type", "(internal/reflectlite.Value).IsNil", "internal/reflectlite.TypeOf", "(internal/reflectlite.Value).Elem", "(internal/reflectlite.Value).Set"], unfollowed := true, recurses := true, named := ["errors.errorType"], apart := false, laid := [("errors.errorType", laid_errors_errorType)] }
def AhsJoinsSaid : Prop := ahsJoinsRow.holds Tryd.pinned (OpenSpec.ofChange ahsJoinsSpec)

/-- ITS FALSE NEIGHBOUR: 'it returns false'. Refute it at one input. -/
def ahsJoinsWrong : ChangeSpec := { name := "ahsJoins", fn := fun _ => fun
  | [d1, d2] => { results := [.lit (.bool false)], args := [d1, d2] }
  | _ => none }
def AhsJoinsWrongFalsely : Prop := ahsJoinsRow.holds Tryd.pinned (OpenSpec.ofChange ahsJoinsWrong)

/-- 'quaymasterkeep.AhsRoom': WHATEVER THE INPUT: true; the input reads as it did. -/
def ahsRoomSpec : ChangeSpec := { name := "ahsRoom", fn := fun _ => fun
  | [d1, d2] => { results := [.lit (.bool true)], args := [d1, d2] }
  | _ => none }
def ahsRoomRow : OpenClaim := { program := "ytddjpddafpfngaadoor", sum := "63dda724d22b9545134adbc1d4eb52f1e811abdcf7bf72ba061e01365cfbebfa", func := "quaymaster/quaymasterkeep.AhsRoom", spec := "ahsRoom", inPlace := ["internal/reflectlite.ValueOf", "(internal/reflectlite.Value).Type", "(internal/reflectlite.Value).IsNil", "internal/reflectlite.TypeOf", "(internal/reflectlite.Value).Elem", "(internal/reflectlite.Value).Set"], unfollowed := true, recurses := true, named := ["errors.errorType"], apart := false, laid := [("errors.errorType", laid_errors_errorType)] }
def AhsRoomSaid : Prop := ahsRoomRow.holds Tryd.pinned (OpenSpec.ofChange ahsRoomSpec)

/-- ITS FALSE NEIGHBOUR: 'it returns false'. Refute it at one input. -/
def ahsRoomWrong : ChangeSpec := { name := "ahsRoom", fn := fun _ => fun
  | [d1, d2] => { results := [.lit (.bool false)], args := [d1, d2] }
  | _ => none }
def AhsRoomWrongFalsely : Prop := ahsRoomRow.holds Tryd.pinned (OpenSpec.ofChange ahsRoomWrong)

/-- 'quaymasterkeep.ChapLong': WHATEVER THE INPUT: true; the input reads as it did. -/
def chapLongSpec : ChangeSpec := { name := "chapLong", fn := fun _ => fun
  | [d1, d2, d3, d4] => { results := [.lit (.bool true)], args := [d1, d2, d3, d4] }
  | _ => none }
def chapLongRow : OpenClaim := { program := "ytddjpddafpfngaadoor", sum := "63dda724d22b9545134adbc1d4eb52f1e811abdcf7bf72ba061e01365cfbebfa", func := "quaymaster/quaymasterkeep.ChapLong", spec := "chapLong", inPlace := ["internal/bytealg.IndexByteString", "internal/reflectlite.ValueOf", "(internal/reflectlite.Value).Type", "(internal/reflectlite.Value).IsNil", "internal/reflectlite.TypeOf", "(internal/reflectlite.Value).Elem", "(internal/reflectlite.Value).Set"], unfollowed := true, recurses := true, named := ["errors.errorType"], apart := false, laid := [("errors.errorType", laid_errors_errorType)] }
def ChapLongSaid : Prop := chapLongRow.holds Tryd.pinned (OpenSpec.ofChange chapLongSpec)

/-- ITS FALSE NEIGHBOUR: 'it returns false'. Refute it at one input. -/
def chapLongWrong : ChangeSpec := { name := "chapLong", fn := fun _ => fun
  | [d1, d2, d3, d4] => { results := [.lit (.bool false)], args := [d1, d2, d3, d4] }
  | _ => none }
def ChapLongWrongFalsely : Prop := chapLongRow.holds Tryd.pinned (OpenSpec.ofChange chapLongWrong)

/-- 'quaymasterkeep.ChapUsers': WHATEVER THE INPUT: true; the input reads as it did. -/
def chapUsersSpec : ChangeSpec := { name := "chapUsers", fn := fun _ => fun
  | [d1, d2, d3, d4, d5] => { results := [.lit (.bool true)], args := [d1, d2, d3, d4, d5] }
  | _ => none }
def chapUsersRow : OpenClaim := { program := "ytddjpddafpfngaadoor", sum := "63dda724d22b9545134adbc1d4eb52f1e811abdcf7bf72ba061e01365cfbebfa", func := "quaymaster/quaymasterkeep.ChapUsers", spec := "chapUsers", inPlace := ["internal/bytealg.IndexByteString", "internal/reflectlite.ValueOf", "(internal/reflectlite.Value).Type", "(internal/reflectlite.Value).IsNil", "internal/reflectlite.TypeOf", "(internal/reflectlite.Value).Elem", "(internal/reflectlite.Value).Set"], unfollowed := true, recurses := true, named := ["errors.errorType"], apart := false, laid := [("errors.errorType", laid_errors_errorType)] }
def ChapUsersSaid : Prop := chapUsersRow.holds Tryd.pinned (OpenSpec.ofChange chapUsersSpec)

/-- ITS FALSE NEIGHBOUR: 'it returns false'. Refute it at one input. -/
def chapUsersWrong : ChangeSpec := { name := "chapUsers", fn := fun _ => fun
  | [d1, d2, d3, d4, d5] => { results := [.lit (.bool false)], args := [d1, d2, d3, d4, d5] }
  | _ => none }
def ChapUsersWrongFalsely : Prop := chapUsersRow.holds Tryd.pinned (OpenSpec.ofChange chapUsersWrong)

/-- 'quaymasterkeep.ChapRight': WHATEVER THE INPUT: true; the input reads as it did. -/
def chapRightSpec : ChangeSpec := { name := "chapRight", fn := fun _ => fun
  | [d1, d2, d3, d4, d5] => { results := [.lit (.bool true)], args := [d1, d2, d3, d4, d5] }
  | _ => none }
def chapRightRow : OpenClaim := { program := "ytddjpddafpfngaadoor", sum := "63dda724d22b9545134adbc1d4eb52f1e811abdcf7bf72ba061e01365cfbebfa", func := "quaymaster/quaymasterkeep.ChapRight", spec := "chapRight", inPlace := ["internal/bytealg.IndexByteString", "internal/reflectlite.ValueOf", "(internal/reflectlite.Value).Type", "(internal/reflectlite.Value).IsNil", "internal/reflectlite.TypeOf", "(internal/reflectlite.Value).Elem", "(internal/reflectlite.Value).Set"], unfollowed := true, recurses := true, named := ["errors.errorType"], apart := false, laid := [("errors.errorType", laid_errors_errorType)] }
def ChapRightSaid : Prop := chapRightRow.holds Tryd.pinned (OpenSpec.ofChange chapRightSpec)

/-- ITS FALSE NEIGHBOUR: 'it returns false'. Refute it at one input. -/
def chapRightWrong : ChangeSpec := { name := "chapRight", fn := fun _ => fun
  | [d1, d2, d3, d4, d5] => { results := [.lit (.bool false)], args := [d1, d2, d3, d4, d5] }
  | _ => none }
def ChapRightWrongFalsely : Prop := chapRightRow.holds Tryd.pinned (OpenSpec.ofChange chapRightWrong)

/-- 'quaymasterkeep.GatherFull': WHATEVER THE INPUT: true; the input reads as it did. -/
def gatherFullSpec : ChangeSpec := { name := "gatherFull", fn := fun _ => fun
  | [d1, d2, d3] => { results := [.lit (.bool true)], args := [d1, d2, d3] }
  | _ => none }
def gatherFullRow : OpenClaim := { program := "ytddjpddafpfngaadoor", sum := "63dda724d22b9545134adbc1d4eb52f1e811abdcf7bf72ba061e01365cfbebfa", func := "quaymaster/quaymasterkeep.GatherFull", spec := "gatherFull", inPlace := ["internal/bytealg.IndexByteString", "internal/bytealg.IndexString", "internal/reflectlite.ValueOf", "(internal/reflectlite.Value).Type", "(internal/reflectlite.Value).IsNil", "internal/reflectlite.TypeOf", "(internal/reflectlite.Value).Elem", "(internal/reflectlite.Value).Set"], unfollowed := true, recurses := true, named := ["internal/bytealg.MaxLen", "errors.errorType"], apart := false, laid := [("errors.errorType", laid_errors_errorType)] }
def GatherFullSaid : Prop := gatherFullRow.holds Tryd.pinned (OpenSpec.ofChange gatherFullSpec)

/-- ITS FALSE NEIGHBOUR: 'it returns false'. Refute it at one input. -/
def gatherFullWrong : ChangeSpec := { name := "gatherFull", fn := fun _ => fun
  | [d1, d2, d3] => { results := [.lit (.bool false)], args := [d1, d2, d3] }
  | _ => none }
def GatherFullWrongFalsely : Prop := gatherFullRow.holds Tryd.pinned (OpenSpec.ofChange gatherFullWrong)

/- THE SECOND FORM. 'bulk': how many values and letters a reading holds, each counted each time it is reached (what is shared counts as often as it is met; a slice's spare places count too). A statement '..UptoSaid' is the law's where the arguments, and the package variables that the reading takes, are together of bulk at most 1048576: NARROWER than '..Said'. Prove '..Said' where nothing that the law and all that it calls make is longer than what came in: it says more and counts as full. Else prove '..UptoSaid'. A law counts once. -/
mutual
def uptoBulk {H : Type} : DataW H → Nat
  | .lit (.string bytes) => bytes.length + 1
  | .lit _ => 1
  | .nil => 1
  | .ptr d => uptoBulk d + 1
  | .slice elems spare => uptoBulkAll elems + uptoBulkAll spare + 1
  | .agg parts => uptoBulkAll parts + 1
  | .iface _ d => uptoBulk d + 1
  | .map entries => uptoBulkEntries entries + 1
  | .held _ => 1
def uptoBulkAll {H : Type} : List (DataW H) → Nat
  | [] => 0
  | d :: r => uptoBulk d + uptoBulkAll r
def uptoBulkEntries {H : Type} : List (Lit × DataW H) → Nat
  | [] => 0
  | x :: r => uptoBulkEntry x + uptoBulkEntries r
def uptoBulkEntry {H : Type} : Lit × DataW H → Nat
  | (.string bytes, d) => bytes.length + uptoBulk d + 1
  | (_, d) => uptoBulk d + 1
 end
def uptoSmall : (H : Type) → List (DataW H) → Bool := fun _ ds => decide (uptoBulkAll ds ≤ 1048576)
def OpenSpec.upto (s : _root_.Go.ChangeSpec) : _root_.Go.OpenSpec := { _root_.Go.OpenSpec.ofChange s with cond := some uptoSmall }

/-- 'quaymasterkeep.AhsOnly', WHERE WHAT IT READS IS OF BULK AT MOST 1048576: true; the input reads as it did. -/
def ahsOnlyUptoRow : OpenClaim := { program := "ytddjpddafpfngaadoor", sum := "63dda724d22b9545134adbc1d4eb52f1e811abdcf7bf72ba061e01365cfbebfa", func := "quaymaster/quaymasterkeep.AhsOnly", spec := "ahsOnly", inPlace := ["internal/reflectlite.ValueOf", "(internal/reflectlite.Value).Type", "(internal/reflectlite.Value).IsNil", "internal/reflectlite.TypeOf", "(internal/reflectlite.Value).Elem", "(internal/reflectlite.Value).Set"], unfollowed := true, recurses := true, named := ["errors.errorType"], apart := false, laid := [("errors.errorType", laid_errors_errorType)], narrowed := true }
def AhsOnlyUptoSaid : Prop := ahsOnlyUptoRow.holds Tryd.pinned (OpenSpec.upto ahsOnlySpec)

/-- 'quaymasterkeep.BinaryBack', WHERE WHAT IT READS IS OF BULK AT MOST 1048576: true; the input reads as it did. -/
def binaryBackUptoRow : OpenClaim := { program := "ytddjpddafpfngaadoor", sum := "63dda724d22b9545134adbc1d4eb52f1e811abdcf7bf72ba061e01365cfbebfa", func := "quaymaster/quaymasterkeep.BinaryBack", spec := "binaryBack", inPlace := ["internal/bytealg.IndexByteString", "internal/reflectlite.ValueOf", "(internal/reflectlite.Value).Type", "(internal/reflectlite.Value).IsNil", "internal/reflectlite.TypeOf", "(internal/reflectlite.Value).Elem", "(internal/reflectlite.Value).Set"], unfollowed := true, recurses := true, named := ["errors.errorType"], apart := false, laid := [("errors.errorType", laid_errors_errorType)], narrowed := true }
def BinaryBackUptoSaid : Prop := binaryBackUptoRow.holds Tryd.pinned (OpenSpec.upto binaryBackSpec)

/-- 'quaymasterkeep.BinaryJoins', WHERE WHAT IT READS IS OF BULK AT MOST 1048576: true; the input reads as it did. -/
def binaryJoinsUptoRow : OpenClaim := { program := "ytddjpddafpfngaadoor", sum := "63dda724d22b9545134adbc1d4eb52f1e811abdcf7bf72ba061e01365cfbebfa", func := "quaymaster/quaymasterkeep.BinaryJoins", spec := "binaryJoins", inPlace := ["internal/bytealg.IndexByteString", "internal/reflectlite.ValueOf", "(internal/reflectlite.Value).Type", "(internal/reflectlite.Value).IsNil", "internal/reflectlite.TypeOf", "(internal/reflectlite.Value).Elem", "(internal/reflectlite.Value).Set"], unfollowed := true, recurses := true, named := ["errors.errorType"], apart := false, laid := [("errors.errorType", laid_errors_errorType)], narrowed := true }
def BinaryJoinsUptoSaid : Prop := binaryJoinsUptoRow.holds Tryd.pinned (OpenSpec.upto binaryJoinsSpec)

/-- 'quaymasterkeep.BinaryCut', WHERE WHAT IT READS IS OF BULK AT MOST 1048576: true; the input reads as it did. -/
def binaryCutUptoRow : OpenClaim := { program := "ytddjpddafpfngaadoor", sum := "63dda724d22b9545134adbc1d4eb52f1e811abdcf7bf72ba061e01365cfbebfa", func := "quaymaster/quaymasterkeep.BinaryCut", spec := "binaryCut", inPlace := ["internal/bytealg.IndexByteString", "internal/reflectlite.ValueOf", "(internal/reflectlite.Value).Type", "(internal/reflectlite.Value).IsNil", "internal/reflectlite.TypeOf", "(internal/reflectlite.Value).Elem", "(internal/reflectlite.Value).Set"], unfollowed := true, recurses := true, named := ["errors.errorType"], apart := false, laid := [("errors.errorType", laid_errors_errorType)], narrowed := true }
def BinaryCutUptoSaid : Prop := binaryCutUptoRow.holds Tryd.pinned (OpenSpec.upto binaryCutSpec)

/-- 'quaymasterkeep.AhsBack', WHERE WHAT IT READS IS OF BULK AT MOST 1048576: true; the input reads as it did. -/
def ahsBackUptoRow : OpenClaim := { program := "ytddjpddafpfngaadoor", sum := "63dda724d22b9545134adbc1d4eb52f1e811abdcf7bf72ba061e01365cfbebfa", func := "quaymaster/quaymasterkeep.AhsBack", spec := "ahsBack", inPlace := ["internal/reflectlite.ValueOf", "(internal/reflectlite.Value).Type", "(internal/reflectlite.Value).IsNil", "internal/reflectlite.TypeOf", "(internal/reflectlite.Value).Elem", "(internal/reflectlite.Value).Set"], unfollowed := true, recurses := true, named := ["errors.errorType"], apart := false, laid := [("errors.errorType", laid_errors_errorType)], narrowed := true }
def AhsBackUptoSaid : Prop := ahsBackUptoRow.holds Tryd.pinned (OpenSpec.upto ahsBackSpec)

/-- 'quaymasterkeep.AhsCut', WHERE WHAT IT READS IS OF BULK AT MOST 1048576: true; the input reads as it did. -/
def ahsCutUptoRow : OpenClaim := { program := "ytddjpddafpfngaadoor", sum := "63dda724d22b9545134adbc1d4eb52f1e811abdcf7bf72ba061e01365cfbebfa", func := "quaymaster/quaymasterkeep.AhsCut", spec := "ahsCut", inPlace := ["internal/reflectlite.ValueOf", "(internal/reflectlite.Value).Type", "(internal/reflectlite.Value).IsNil", "internal/reflectlite.TypeOf", "(internal/reflectlite.Value).Elem", "(internal/reflectlite.Value).Set"], unfollowed := true, recurses := true, named := ["errors.errorType"], apart := false, laid := [("errors.errorType", laid_errors_errorType)], narrowed := true }
def AhsCutUptoSaid : Prop := ahsCutUptoRow.holds Tryd.pinned (OpenSpec.upto ahsCutSpec)

/-- 'quaymasterkeep.AhsJoins', WHERE WHAT IT READS IS OF BULK AT MOST 1048576: true; the input reads as it did. -/
def ahsJoinsUptoRow : OpenClaim := { program := "ytddjpddafpfngaadoor", sum := "63dda724d22b9545134adbc1d4eb52f1e811abdcf7bf72ba061e01365cfbebfa", func := "quaymaster/quaymasterkeep.AhsJoins", spec := "ahsJoins", inPlace := ["internal/reflectlite.ValueOf", "(internal/reflectlite.Value).Type", "(internal/reflectlite.Value).IsNil", "internal/reflectlite.TypeOf", "(internal/reflectlite.Value).Elem", "(internal/reflectlite.Value).Set"], unfollowed := true, recurses := true, named := ["errors.errorType"], apart := false, laid := [("errors.errorType", laid_errors_errorType)], narrowed := true }
def AhsJoinsUptoSaid : Prop := ahsJoinsUptoRow.holds Tryd.pinned (OpenSpec.upto ahsJoinsSpec)

/-- 'quaymasterkeep.AhsRoom', WHERE WHAT IT READS IS OF BULK AT MOST 1048576: true; the input reads as it did. -/
def ahsRoomUptoRow : OpenClaim := { program := "ytddjpddafpfngaadoor", sum := "63dda724d22b9545134adbc1d4eb52f1e811abdcf7bf72ba061e01365cfbebfa", func := "quaymaster/quaymasterkeep.AhsRoom", spec := "ahsRoom", inPlace := ["internal/reflectlite.ValueOf", "(internal/reflectlite.Value).Type", "(internal/reflectlite.Value).IsNil", "internal/reflectlite.TypeOf", "(internal/reflectlite.Value).Elem", "(internal/reflectlite.Value).Set"], unfollowed := true, recurses := true, named := ["errors.errorType"], apart := false, laid := [("errors.errorType", laid_errors_errorType)], narrowed := true }
def AhsRoomUptoSaid : Prop := ahsRoomUptoRow.holds Tryd.pinned (OpenSpec.upto ahsRoomSpec)

/-- 'quaymasterkeep.ChapLong', WHERE WHAT IT READS IS OF BULK AT MOST 1048576: true; the input reads as it did. -/
def chapLongUptoRow : OpenClaim := { program := "ytddjpddafpfngaadoor", sum := "63dda724d22b9545134adbc1d4eb52f1e811abdcf7bf72ba061e01365cfbebfa", func := "quaymaster/quaymasterkeep.ChapLong", spec := "chapLong", inPlace := ["internal/bytealg.IndexByteString", "internal/reflectlite.ValueOf", "(internal/reflectlite.Value).Type", "(internal/reflectlite.Value).IsNil", "internal/reflectlite.TypeOf", "(internal/reflectlite.Value).Elem", "(internal/reflectlite.Value).Set"], unfollowed := true, recurses := true, named := ["errors.errorType"], apart := false, laid := [("errors.errorType", laid_errors_errorType)], narrowed := true }
def ChapLongUptoSaid : Prop := chapLongUptoRow.holds Tryd.pinned (OpenSpec.upto chapLongSpec)

/-- 'quaymasterkeep.ChapUsers', WHERE WHAT IT READS IS OF BULK AT MOST 1048576: true; the input reads as it did. -/
def chapUsersUptoRow : OpenClaim := { program := "ytddjpddafpfngaadoor", sum := "63dda724d22b9545134adbc1d4eb52f1e811abdcf7bf72ba061e01365cfbebfa", func := "quaymaster/quaymasterkeep.ChapUsers", spec := "chapUsers", inPlace := ["internal/bytealg.IndexByteString", "internal/reflectlite.ValueOf", "(internal/reflectlite.Value).Type", "(internal/reflectlite.Value).IsNil", "internal/reflectlite.TypeOf", "(internal/reflectlite.Value).Elem", "(internal/reflectlite.Value).Set"], unfollowed := true, recurses := true, named := ["errors.errorType"], apart := false, laid := [("errors.errorType", laid_errors_errorType)], narrowed := true }
def ChapUsersUptoSaid : Prop := chapUsersUptoRow.holds Tryd.pinned (OpenSpec.upto chapUsersSpec)

/-- 'quaymasterkeep.ChapRight', WHERE WHAT IT READS IS OF BULK AT MOST 1048576: true; the input reads as it did. -/
def chapRightUptoRow : OpenClaim := { program := "ytddjpddafpfngaadoor", sum := "63dda724d22b9545134adbc1d4eb52f1e811abdcf7bf72ba061e01365cfbebfa", func := "quaymaster/quaymasterkeep.ChapRight", spec := "chapRight", inPlace := ["internal/bytealg.IndexByteString", "internal/reflectlite.ValueOf", "(internal/reflectlite.Value).Type", "(internal/reflectlite.Value).IsNil", "internal/reflectlite.TypeOf", "(internal/reflectlite.Value).Elem", "(internal/reflectlite.Value).Set"], unfollowed := true, recurses := true, named := ["errors.errorType"], apart := false, laid := [("errors.errorType", laid_errors_errorType)], narrowed := true }
def ChapRightUptoSaid : Prop := chapRightUptoRow.holds Tryd.pinned (OpenSpec.upto chapRightSpec)

/-- 'quaymasterkeep.GatherFull', WHERE WHAT IT READS IS OF BULK AT MOST 1048576: true; the input reads as it did. -/
def gatherFullUptoRow : OpenClaim := { program := "ytddjpddafpfngaadoor", sum := "63dda724d22b9545134adbc1d4eb52f1e811abdcf7bf72ba061e01365cfbebfa", func := "quaymaster/quaymasterkeep.GatherFull", spec := "gatherFull", inPlace := ["internal/bytealg.IndexByteString", "internal/bytealg.IndexString", "internal/reflectlite.ValueOf", "(internal/reflectlite.Value).Type", "(internal/reflectlite.Value).IsNil", "internal/reflectlite.TypeOf", "(internal/reflectlite.Value).Elem", "(internal/reflectlite.Value).Set"], unfollowed := true, recurses := true, named := ["internal/bytealg.MaxLen", "errors.errorType"], apart := false, laid := [("errors.errorType", laid_errors_errorType)], narrowed := true }
def GatherFullUptoSaid : Prop := gatherFullUptoRow.holds Tryd.pinned (OpenSpec.upto gatherFullSpec)

end Rows
end Go.Proofs.YtddjpddafpfngaaDoor
