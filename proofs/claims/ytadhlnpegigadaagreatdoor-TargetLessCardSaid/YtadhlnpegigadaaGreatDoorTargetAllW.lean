/- TargetAll: the walk. -/
import Derived.Test.YtadhlnpegigadaaGreatDoorTargetFact
import Derived.Test.YtadhlnpegigadaaGreatDoorTargetAllP
import Derived.Test.YtadhlnpegigadaaGreatDoorGpairs
namespace Go.Proofs.YtadhlnpegigadaaGreatDoor
open Go.ChangeShapes Go.WideShapes Go.ChangeAt Go.RowKit Go.Shelf
set_option linter.unusedVariables false
set_option linter.unusedSimpArgs false
theorem box7a {w : World} {g : Nat} {t : TypeId} {a b c d e f h : Value} (hB : Blk w g t #[a, b, c, d, e, f, h]) : w.cell? ⟨g, 0, none⟩ = some a ∧ w.cell? ⟨g, 1, none⟩ = some b ∧ w.cell? ⟨g, 2, none⟩ = some c ∧ w.cell? ⟨g, 3, none⟩ = some d ∧ w.cell? ⟨g, 4, none⟩ = some e ∧ w.cell? ⟨g, 5, none⟩ = some f ∧ w.cell? ⟨g, 6, none⟩ = some h :=
  ⟨hB.cell 0, hB.cell 1, hB.cell 2, hB.cell 3, hB.cell 4, hB.cell 5, hB.cell 6⟩
theorem tgGo_at : ∀ (l pre : List (List UInt8)) (k : Nat) (q : Option Nat), tgGo pre l = some (k, q) → q ≠ none
  | [], _, k, q, h => by cases h
  | t :: r, pre, k, q, h => by
    rw [tgGo] at h
    split at h
    · exact tgGo_at r _ k q h
    · cases h; simp
theorem poGo_at : ∀ (l : PoL) (i k : Nat) (q : Option Nat), poGo i l = some (k, q) → q ≠ none
  | [], _, k, q, h => by cases h
  | t :: r, i, k, q, h => by
    rw [poGo] at h
    split at h
    · cases h; simp
    · split at h
      · cases h; simp
      · exact poGo_at r _ k q h
theorem usGo_at : ∀ (l : PairL) (pre : List (List UInt8)) (k : Nat) (q : Option Nat), usGo pre l = some (k, q) → q ≠ none
  | [], _, k, q, h => by cases h
  | t :: r, pre, k, q, h => by
    rw [usGo] at h
    split at h
    · exact usGo_at r _ k q h
    · cases h; simp
theorem cRight_code (c : Cfg) (k : Nat) (h : cRight c = some (k, none)) : k ≠ 0 := by
  unfold cRight at h
  split at h
  · cases h; decide
  · split at h
    · rename_i e he
      cases h
      exact absurd rfl (tgGo_at _ _ _ _ he)
    · split at h
      · rename_i e he
        cases h
        exact absurd rfl (poGo_at _ _ _ _ he)
      · split at h
        · rename_i e he
          cases h
          exact absurd rfl (usGo_at _ _ _ _ he)
        · unfold selfR at h
          split at h
          · cases h; decide
          · split at h
            · cases h; decide
            · unfold nNewR at h
              split at h
              · rename_i e he
                cases h
                unfold pRightR at he
                split at he
                · cases he; decide
                · rcases hg : pRightGo c.own 0 with _ | ⟨a, b⟩ <;> rw [hg] at he <;> cases he
              · rcases hg : nNewGo [] c.own with _ | ⟨a, b⟩ <;> rw [hg] at h <;> cases h
theorem right_iface {w : World} {b : Nat} {r : Value} {c : Cfg} {E : Nat × Option Nat} (h : PErr w b r (some E)) (he : cRight c = some E) : ∃ t x, r = .iface t x := by
  obtain ⟨k, q⟩ := E
  rcases q with _ | q
  · have hk := cRight_code c k he
    have : r = errv k := h
    unfold errv at this
    rw [if_neg hk] at this
    exact ⟨_, _, this⟩
  · obtain ⟨g, _, h, _⟩ := h
    exact ⟨_, _, h⟩
theorem listG_all (po : PoL) (x y : List UInt8) (tg : List (List UInt8)) : listG po x true tg = tg.flatMap (oneT po) := by
  unfold listG
  congr 1
end Go.Proofs.YtadhlnpegigadaaGreatDoor
