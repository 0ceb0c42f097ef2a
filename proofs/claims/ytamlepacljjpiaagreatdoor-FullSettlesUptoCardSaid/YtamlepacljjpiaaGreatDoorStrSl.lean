/- Slices of strings: slices.Contains, slices.Equal. -/
import Derived.Test.YtamlepacljjpiaaGreatDoorGkeys
namespace Go.Proofs.YtamlepacljjpiaaGreatDoor
open Go.ChangeShapes Go.WideShapes Go.ChangeAt Go.RowKit Go.Shelf
set_option linter.unusedVariables false
set_option linter.unusedSimpArgs false
/- a slice of strings that reads as a list of words -/
def WRd (w : World) (v : Value) (ws : List (List UInt8)) : Prop := SRd w v 1 ws.length (ws.map strV)
theorem WRd.on {w w' : World} {v : Value} {ws : List (List UInt8)} (h : WRd w v ws) (hb : Below w.heap.size w w') : WRd w' v ws := SRd.on h hb
theorem WRd.of_blk {w : World} {g : Nat} {ws : List (List UInt8)} (h : Blk w g 9 (ws.map strV).toArray) (hl : ws.length ≤ 1000001) : WRd w (.slice (some ⟨g, 0, none⟩) ws.length ws.length) ws := by
  refine ⟨by simp, _, _, rfl, Nat.le_refl _, by unfold maxLen; omega, fun _ => ⟨g, 0, rfl, h.lt, fun j u hu => ?_⟩⟩
  rw [Nat.zero_add, h.cell j, List.getElem?_toArray]
  exact hu
theorem WRd.nil (w : World) : WRd w (.slice none 0 0) [] := ⟨by simp, none, 0, rfl, Nat.le_refl _, by unfold maxLen; omega, fun h => absurd h (Nat.lt_irrefl _)⟩
theorem WRd.form {w : World} {v : Value} {ws : List (List UInt8)} (h : WRd w v ws) : ∃ A cap, v = .slice A ws.length cap ∧ (ws.length : Int) ≤ 9223372036854775807 := by
  obtain ⟨_, A, cap, rfl, h1, h2, _⟩ := h
  unfold maxLen at h2
  exact ⟨A, cap, rfl, by omega⟩
theorem WRd.at {w : World} {A : Option Addr} {n cap : Nat} {ws : List (List UInt8)} (h : WRd w (.slice A n cap) ws) {k : Nat} {x : List UInt8} (hx : ws[k]? = some x) : ∃ b o, A = some ⟨b, o, none⟩ ∧ b < w.heap.size ∧ w.cell? ⟨b, o + k, none⟩ = some (.string ⟨x.toArray⟩) := by
  obtain ⟨_, A', cap', hv, h1, h2, h3⟩ := h
  have hk := (List.getElem?_eq_some_iff.1 hx).1
  obtain ⟨b, o, hA, hb, hc⟩ := h3 (by omega)
  injection hv with e1 e2 e3
  refine ⟨b, o, e1.trans hA, hb, hc k _ ?_⟩
  rw [List.getElem?_map, hx]
  rfl
def idxW (x : List UInt8) : List (List UInt8) → Nat → Int
  | [], _ => -1
  | y :: l, k => if x = y then k else idxW x l (k + 1)
theorem idxW_no : ∀ (x : List UInt8) (l : List (List UInt8)) (k : Nat), (0 ≤ idxW x l k) ↔ x ∈ l
  | x, [], k => by simp [idxW]
  | x, y :: l, k => by
    rw [idxW]
    split
    · rename_i h; subst h; simp
    · rename_i h; rw [idxW_no x l (k + 1)]; simp [h]
theorem idxW_big : ∀ (x : List UInt8) (l : List (List UInt8)) (k : Nat), idxW x l k ≤ k + l.length ∧ -1 ≤ idxW x l k
  | x, [], k => by simp [idxW]
  | x, y :: l, k => by
    rw [idxW]
    have := idxW_big x l (k + 1)
    simp only [List.length_cons]
    split <;> omega
end Go.Proofs.YtamlepacljjpiaaGreatDoor
