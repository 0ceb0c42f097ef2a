/- An argument that is a slice of integers: read as a list. -/
import Derived.Test.YtifniblffjgfkaaGreatDoorGbase
import Derived.ChangeSlices
namespace Go.Proofs.YtifniblffjgfkaaGreatDoor
open Go.ChangeShapes Go.WideShapes Go.ChangeAt Go.RowKit
set_option linter.unusedVariables false
set_option maxRecDepth 100000 in
theorem open_intl {H : Type} {enc : TypeId × Value → H} {W : World} {base : Nat} {spare : Nat → Bool} {held : Bool} {v : Value} {d : DataW H} {p : List MemPlace} {b0 : Nat}
    (hv : Value.okWide Tryz.prog W .any b0 58 v) (h : DataW.Trod enc Tryz.prog W base spare held 58 v d p) :
    ∃ l : List Int, SRd W v 1 l.length (l.map (Value.int .i64)) ∧ (∀ q ∈ l, -9223372036854775808 ≤ q ∧ q ≤ 9223372036854775807) := by
  obtain ⟨a0, len, cap, rfl⟩ := okWide_slice Tryz.underlying58 hv
  obtain ⟨fuel, hf⟩ := h
  rcases open_ints Tryz.underlying58 Tryz.underlying3 (by kernel_rfl) hf with ⟨hc, hx⟩ | ⟨a, len', cap', zs, hc, hb, hl, hmx, hzl, hx, hi, hw⟩
  · cases hc
    exact ⟨[], ⟨rfl, none, 0, rfl, Nat.le_refl _, by unfold maxLen; omega, fun h => absurd h (Nat.lt_irrefl _)⟩, fun q hq => (List.not_mem_nil hq).elim⟩
  · cases hc
    have hlz : len ≤ zs.length := by rw [hzl]; split <;> omega
    have hlen : (zs.take len).length = len := by rw [List.length_take]; omega
    refine ⟨zs.take len, ⟨by rw [List.length_map]; omega, some a, cap, by rw [hlen], by omega, hmx, fun hpos => ?_⟩, fun q hq => bounds_i64 (hw q (List.mem_of_mem_take hq))⟩
    have c00 := hi 0 (by omega)
    have e0 : a.add 0 = a := by simp [Addr.add]
    rw [e0] at c00
    have hsp := World.cell?_spot c00
    obtain ⟨ab, ao, asp⟩ := a
    simp only at hsp
    subst hsp
    refine ⟨ab, ao, rfl, ?_, fun j u hu => ?_⟩
    · simp only [World.cell?] at c00
      by_cases hlt : ab < W.heap.size
      · exact hlt
      · rw [Array.getElem?_eq_none (by omega)] at c00
        simp at c00
    · have hj : j < len := by
        have := (List.getElem?_eq_some_iff.1 hu).1
        rw [List.length_map, hlen] at this
        exact this
      rw [← Addr.add_lit, hi j (by omega), ← hu, List.getElem?_map, List.getElem?_take_of_lt hj, List.getElem?_eq_getElem (by omega), List.getD_eq_getElem?_getD, List.getElem?_eq_getElem (by omega)]
      rfl
end Go.Proofs.YtifniblffjgfkaaGreatDoor
