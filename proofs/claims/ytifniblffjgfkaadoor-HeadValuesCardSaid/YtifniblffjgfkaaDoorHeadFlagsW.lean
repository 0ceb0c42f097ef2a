/- The walk of the law HeadFlags. -/
import Derived.Test.YtifniblffjgfkaaDoorHeadMake
import Derived.Test.YtifniblffjgfkaaDoorHeadOnlyW
import Derived.Test.YtifniblffjgfkaaDoorHeadLaid
namespace Go.Proofs.YtifniblffjgfkaaDoor
open Go.ChangeShapes Go.WideShapes Go.ChangeAt Go.RowKit
set_option linter.unusedVariables false
theorem rangeGo_zero : ∀ (fs : FieldL) (i : Nat), rangeGo fs (List.replicate fs.length 0) i = none
  | [], i => rfl
  | f :: fs, i => by
    rw [List.length_cons, List.replicate_succ, rangeGo, if_neg (by rw [Nat.zero_div]; exact fun h => h.2 rfl)]
    exact rangeGo_zero fs (i + 1)
def zerosL (r : HeadR) : List Nat := List.replicate r.2.2.2.length 0
theorem right_zero (op fl : Int) (r : HeadR) (hr : headRow op = some r) : rightR op false fl (zerosL r) = if decide (fl < 0) || offM fl r.2.2.1 then some (3, none) else none := by
  rw [rightR, hr]
  have hb : badR r op false fl = (decide (fl < 0) || offM fl r.2.2.1) := by unfold badR; simp
  simp only [hb]
  split
  · rfl
  · rw [if_neg (fun h => h (by simp [zerosL])), zerosL, rangeGo_zero]
theorem srd_none (w : World) : SRd w (.slice none 0 0) 1 ([] : List ByteArray).length (([] : List ByteArray).map .string) := ⟨rfl, none, 0, rfl, Nat.le_refl _, by unfold maxLen; omega, fun h => absurd h (Nat.lt_irrefl _)⟩
theorem make_none (op fl : Int) (hr : headRow op = none) (w : World) (h0 : -9223372036854775808 ≤ op ∧ op ≤ 9223372036854775807) (hf : -9223372036854775808 ≤ fl ∧ fl ≤ 9223372036854775807) (T : Tabs w) (hS : w.ShapedOpen Tryd.prog) :
    Calls Tryd.prog 9 #[.int .i64 op, .int .i64 fl, .slice none 0 0, .slice none 0 0] w fun e w' => e = .returned (.tuple #[zeroH, .iface 55 (.int .i64 1)]) ∧ Below w.heap.size w w' := by
  refine (make_any op fl [] [] _ _ w h0 hf (srd_none w) (srd_nil w) (fun _ h => by cases h) T hS).mono ?_
  rintro e w' ⟨hm, hb⟩
  rw [makeR, hr] at hm
  obtain ⟨er, rfl, rfl⟩ := hm
  exact ⟨rfl, hb⟩
theorem make_bad (op fl : Int) (r : HeadR) (hr : headRow op = some r) (hbad : (decide (fl < 0) || offM fl r.2.2.1) = true) (w : World) (h0 : -9223372036854775808 ≤ op ∧ op ≤ 9223372036854775807) (hf : -9223372036854775808 ≤ fl ∧ fl ≤ 9223372036854775807) (T : Tabs w) (hS : w.ShapedOpen Tryd.prog) :
    Calls Tryd.prog 9 #[.int .i64 op, .int .i64 fl, .slice none 0 0, .slice none 0 0] w fun e w' => e = .returned (.tuple #[zeroH, .iface 55 (.int .i64 3)]) ∧ Below w.heap.size w w' := by
  refine (make_any op fl [] [] _ _ w h0 hf (srd_none w) (srd_nil w) (fun _ h => by cases h) T hS).mono ?_
  rintro e w' ⟨hm, hb⟩
  have hR := right_zero op fl r hr
  rw [hbad, if_pos rfl] at hR
  have hmr : makeR op fl [] [] = .inl (3, none) := by
    rw [makeR, hr]
    simp only [mkGo]
    rw [show List.replicate r.2.2.2.length 0 = zerosL r from rfl, hR]
  change makeIs w' w.heap.size op fl e (makeR op fl [] []) at hm
  rw [hmr] at hm
  obtain ⟨er, rfl, rfl⟩ := hm
  exact ⟨rfl, hb⟩
theorem make_zero (op fl : Int) (r : HeadR) (hr : headRow op = some r) (hbad : (decide (fl < 0) || offM fl r.2.2.1) = false) (w : World) (h0 : -9223372036854775808 ≤ op ∧ op ≤ 9223372036854775807) (hf : -9223372036854775808 ≤ fl ∧ fl ≤ 9223372036854775807) (T : Tabs w) (hS : w.ShapedOpen Tryd.prog) :
    Calls Tryd.prog 9 #[.int .i64 op, .int .i64 fl, .slice none 0 0, .slice none 0 0] w fun e w' => ∃ v, e = .returned (.tuple #[.agg #[.int .i64 op, .bool false, .int .i64 fl, v], .nilIface]) ∧ SRd w' v 1 (zerosL r).length ((zerosL r).map u64V) ∧ Below w.heap.size w w' := by
  refine (make_any op fl [] [] _ _ w h0 hf (srd_none w) (srd_nil w) (fun _ h => by cases h) T hS).mono ?_
  rintro e w' ⟨hm, hb⟩
  have hR := right_zero op fl r hr
  rw [hbad, if_neg (by decide)] at hR
  have hmr : makeR op fl [] [] = .inr (zerosL r) := by
    rw [makeR, hr]
    simp only [mkGo]
    rw [show List.replicate r.2.2.2.length 0 = zerosL r from rfl, hR]
  change makeIs w' w.heap.size op fl e (makeR op fl [] []) at hm
  rw [hmr] at hm
  obtain ⟨v, rfl, hv⟩ := hm
  exact ⟨v, rfl, hv, hb⟩
theorem flags_none (op : Int) (h : headRow op = none) (w : World) (h0 : -9223372036854775808 ≤ op ∧ op ≤ 9223372036854775807) (T : Tabs w) : Calls Tryd.prog 10 #[.int .i64 op] w fun e w' => e = .returned (.tuple #[.int .i64 0, .iface 55 (.int .i64 1)]) ∧ Below w.heap.size w w' := by
  have := flags_any op w h0 T
  rw [h] at this
  exact this
theorem flags_some (op : Int) (r : HeadR) (h : headRow op = some r) (w : World) (h0 : -9223372036854775808 ≤ op ∧ op ≤ 9223372036854775807) (T : Tabs w) : Calls Tryd.prog 10 #[.int .i64 op] w fun e w' => e = .returned (.tuple #[.int .i64 r.2.2.1, .nilIface]) ∧ Below w.heap.size w w' := by
  have := flags_any op w h0 T
  rw [h] at this
  exact this
end Go.Proofs.YtifniblffjgfkaaDoor
