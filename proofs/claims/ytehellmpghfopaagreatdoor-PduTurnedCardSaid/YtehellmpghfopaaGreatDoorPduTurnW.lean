/- The walk of the law PduTurned, at the row's own bound. -/
import Derived.Test.YtehellmpghfopaaGreatDoorPduLawsW
namespace Go.Proofs.YtehellmpghfopaaGreatDoor
set_option linter.unusedVariables false
open Go.ChangeShapes Go.WideShapes Go.ChangeAt Go.RowKit Go.Shelf
theorem turnedPdu2 (op : Int) (now : Bool) (fl : Int) (vals : List Nat) (v : Value) (l : AhsL) (av : Value) (s : ByteArray) (first bits : Int) (w : World) (h0 : -9223372036854775808 ≤ op ∧ op ≤ 9223372036854775807) (hf : -9223372036854775808 ≤ fl ∧ fl ≤ 9223372036854775807) (hv : SRd w v 1 vals.length (vals.map u64V)) (hl : ∀ x ∈ vals, x < 18446744073709551616)
    (ha : SRd w av 2 l.length (ahsCells l)) (hb : ∀ q ∈ l, -9223372036854775808 ≤ q.1 ∧ q.1 ≤ 9223372036854775807) (hd : ∀ p ∈ l, p.2.size ≤ 140737488351232) (hs : s.size ≤ 140737488351232) (hm : -9223372036854775808 ≤ first ∧ first ≤ 9223372036854775807) (hm2 : 0 ≤ bits ∧ bits ≤ 4294967295) (hL : LaidE w) (T : Tabs w) (hS : w.ShapedOpen Tryz.prog) :
    Calls Tryz.prog 6 #[.agg #[.int .i64 op, .bool now, .int .i64 fl, v, av, .string s], .int .i64 first, .int .u32 bits] w fun e w' => e = .returned (.bool true) ∧ Below w.heap.size w w' :=
  turnedPdu op now fl vals v l av s first bits w h0 hf hv hl ha hb hd hs hm ⟨hm2.1, Int.lt_of_le_of_lt hm2.2 (by decide)⟩ hL T hS
end Go.Proofs.YtehellmpghfopaaGreatDoor
