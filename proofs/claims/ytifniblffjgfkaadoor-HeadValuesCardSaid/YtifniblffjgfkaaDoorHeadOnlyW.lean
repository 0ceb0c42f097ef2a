/- The walk of the law HeadOnly. -/
import Derived.Test.YtifniblffjgfkaaDoorHeadSame
import Derived.Test.YtifniblffjgfkaaDoorHeadLaid
namespace Go.Proofs.YtifniblffjgfkaaDoor
open Go.ChangeShapes Go.WideShapes Go.ChangeAt Go.RowKit
set_option linter.unusedVariables false
theorem readE_ok {l : List UInt8} (h : readE l = none) : ∃ r, headRow ((rB l 0 % 64 : Nat) : Int) = some r ∧ rightR ((rB l 0 % 64 : Nat) : Int) (decide (64 ≤ rB l 0)) (rB l 1) (readV r.2.2.2 l) = none ∧
    layAll (headB r.1 (decide (64 ≤ rB l 0)) (rB l 1) (rB l 4) (rB l 5 * 65536 + rB l 6 * 256 + rB l 7)) r.2.2.2 (readV r.2.2.2 l) = l ∧ l.length = 48 := by
  rw [readE] at h
  by_cases hl : l.length = 48
  · rw [if_neg (fun h => h hl)] at h
    by_cases h8 : 128 ≤ rB l 0
    · rw [if_pos h8] at h; cases h
    · rw [if_neg h8] at h
      rcases hr : headRow ((rB l 0 % 64 : Nat) : Int) with _ | r
      · rw [hr] at h; cases h
      · rw [hr] at h
        simp only at h
        rcases hrr : rightR ((rB l 0 % 64 : Nat) : Int) (decide (64 ≤ rB l 0)) (rB l 1) (readV r.2.2.2 l) with _ | e
        · rw [hrr] at h
          simp only at h
          by_cases hw : layAll (headB r.1 (decide (64 ≤ rB l 0)) (rB l 1) (rB l 4) (rB l 5 * 65536 + rB l 6 * 256 + rB l 7)) r.2.2.2 (readV r.2.2.2 l) = l
          · exact ⟨r, rfl, hrr, hw, hl⟩
          · rw [if_neg hw] at h; cases h
        · rw [hrr] at h; cases h
  · rw [if_pos hl] at h; cases h
theorem readV_small (r : HeadR) (hr : r ∈ headT) (l : List UInt8) : ∀ x ∈ readV r.2.2.2 l, x < 18446744073709551616 := by
  intro x hx
  obtain ⟨i, hi⟩ := List.getElem?_of_mem hx
  have hi2 := hi
  rw [readV, List.getElem?_map] at hi2
  rcases hfi : r.2.2.2[i]? with _ | f
  · rw [hfi] at hi2; cases hi2
  · have := readV_lt _ _ i f x hfi hi
    have hk8 := okAll_mem _ (headT_ok r hr) f (List.mem_of_getElem? hfi)
    simp only [okF, Bool.and_eq_true, decide_eq_true_eq] at hk8
    exact Nat.lt_of_lt_of_le this (Nat.le_trans (Nat.pow_le_pow_right (by omega) (Nat.mul_le_mul_left 8 hk8.2)) (by decide))
theorem right_nil (op : Int) (now : Bool) (fl : Int) (vals : List Nat) (v : Value) (hr : rightR op now fl vals = none) (w : World) (h0 : -9223372036854775808 ≤ op ∧ op ≤ 9223372036854775807) (hf : -9223372036854775808 ≤ fl ∧ fl ≤ 9223372036854775807) (hv : SRd w v 1 vals.length (vals.map u64V)) (hl : ∀ x ∈ vals, x < 18446744073709551616) (T : Tabs w) (hS : w.ShapedOpen Tryd.prog) :
    Calls Tryd.prog 12 #[.agg #[.int .i64 op, .bool now, .int .i64 fl, v]] w fun e w' => e = .returned .nilIface ∧ Below w.heap.size w w' := by
  refine (right_any op now fl vals v w h0 hf hv hl T hS).mono ?_
  rintro e w' ⟨er, rfl, her, hb⟩
  rw [hr] at her
  obtain rfl : er = .nilIface := her
  exact ⟨rfl, hb⟩
theorem srd_nil (w : World) : SRd w (.slice none 0 0) 1 ([] : List Nat).length (([] : List Nat).map u64V) := ⟨rfl, none, 0, rfl, Nat.le_refl _, by unfold maxLen; omega, fun h => absurd h (Nat.lt_irrefl _)⟩
end Go.Proofs.YtifniblffjgfkaaDoor
