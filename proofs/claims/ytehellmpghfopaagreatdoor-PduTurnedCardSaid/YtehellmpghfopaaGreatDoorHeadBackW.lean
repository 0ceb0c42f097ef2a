/- The walk of the law HeadBack. -/
import Derived.Test.YtehellmpghfopaaGreatDoorHeadSame
import Derived.Test.YtehellmpghfopaaGreatDoorHeadLaid
import Derived.Test.YtehellmpghfopaaGreatDoorHeadOnlyW
import Derived.Test.YtehellmpghfopaaGreatDoorHeadBackP
namespace Go.Proofs.YtehellmpghfopaaGreatDoor
open Go.ChangeShapes Go.WideShapes Go.ChangeAt Go.RowKit
set_option linter.unusedVariables false
theorem right_some (op : Int) (now : Bool) (fl : Int) (vals : List Nat) (v : Value) (E : Nat × Option Nat) (hr : rightR op now fl vals = some E) (w : World) (h0 : -9223372036854775808 ≤ op ∧ op ≤ 9223372036854775807) (hf : -9223372036854775808 ≤ fl ∧ fl ≤ 9223372036854775807) (hv : SRd w v 1 vals.length (vals.map u64V)) (hl : ∀ x ∈ vals, x < 18446744073709551616) (T : Tabs w) (hS : w.ShapedOpen Tryz.prog) :
    Calls Tryz.prog 39 #[.agg #[.int .i64 op, .bool now, .int .i64 fl, v]] w fun e w' => (∃ t x, e = .returned (.iface t x)) ∧ Below w.heap.size w w' := by
  refine (right_any op now fl vals v w h0 hf hv hl T hS).mono ?_
  rintro e w' ⟨er, rfl, her, hb⟩
  rw [hr] at her
  obtain ⟨t, x, rfl⟩ := her.value
  exact ⟨⟨t, x, rfl⟩, hb⟩
theorem read_back (s : ByteArray) (op : Int) (now : Bool) (fl words data : Nat) (vals : List Nat) (r : HeadR) (w : World) (hrow : headRow op = some r) (hs : s = ⟨(layAll (headB r.1 now fl words data) r.2.2.2 vals).toArray⟩)
    (hf : fl < 256) (hw : words < 256) (hd : data < 16777216) (hl : ∀ x ∈ vals, x < 18446744073709551616) (hr : rightR op now fl vals = none) (T : Tabs w) (hS : w.ShapedOpen Tryz.prog) :
    Calls Tryz.prog 27 #[.string s] w fun e w' => ∃ v, e = .returned (.tuple #[.agg #[.int .i64 op, .bool now, .int .i64 fl, v], .int .i64 words, .int .i64 data, .nilIface]) ∧ SRd w' v 1 vals.length (vals.map u64V) ∧ Below w.heap.size w w' := by
  have ho := headRow_op hrow
  subst ho
  obtain ⟨e1, e2, e3, e4, e5, e6, e7⟩ := write_read r now fl words data vals hrow hf hw hd hl hr
  obtain ⟨l, hl2⟩ : ∃ l, layAll (headB r.1 now fl words data) r.2.2.2 vals = l := ⟨_, rfl⟩
  have hlen := layAll_len r.2.2.2 vals (headB r.1 now fl words data) (headT_ok r (headRow_mem hrow)) rfl
  rw [hl2] at e1 e2 e3 e4 e5 e6 e7 hs hlen
  subst hs
  refine (read_any ⟨l.toArray⟩ w (by rw [size_mkl]; omega) T hS).mono ?_
  rintro e w' ⟨⟨hv, wd, dt, er, rfl, her, _, hok⟩, hb⟩
  change HErr _ _ _ (readE l) at her
  change readE l = none → _ at hok
  rw [e1] at her
  obtain rfl : er = .nilIface := her
  obtain ⟨r2, v, hr2, rfl, hv, rfl, rfl⟩ := hok e1
  have hr2 : headRow ((rB l 0 % 64 : Nat) : Int) = some r2 := hr2
  rw [e3] at hr2
  obtain rfl : r = r2 := Option.some.inj (hrow.symm.trans hr2)
  have hv : SRd w' v 1 (readV r.2.2.2 l).length ((readV r.2.2.2 l).map u64V) := hv
  rw [e2] at hv
  refine ⟨v, ?_, hv, hb⟩
  change Ending.returned (.tuple #[.agg #[.int .i64 ((rB l 0 % 64 : Nat) : Int), .bool (decide (64 ≤ rB l 0)), .int .i64 (rB l 1), v], .int .i64 (rB l 4 : Nat), .int .i64 ((rB l 5 * 65536 + rB l 6 * 256 + rB l 7 : Nat) : Int), .nilIface]) = _
  rw [e3, e4, e5, e6, e7]
end Go.Proofs.YtehellmpghfopaaGreatDoor
