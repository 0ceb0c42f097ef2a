/- Additional headers one behind the other: the plain laws. -/
import Derived.Test.YtlbojhmhcaecjaaDoorAhsPlain
namespace Go.Proofs.YtlbojhmhcaecjaaDoor
set_option linter.unusedVariables false
theorem ahsB_append (a b : AhsL) : ahsB (a ++ b) = ahsB a ++ ahsB b := by simp [ahsB]
theorem ahsCells_append (a b : AhsL) : ahsCells (a ++ b) = ahsCells a ++ ahsCells b := by simp [ahsCells]
/- what of two lists is right -/
theorem right_append (a b : AhsL) : ∀ n i, n ≤ 1020 → rightGo a n i = none → rightGo (a ++ b) n i = rightGo b (n + sumLen a) (i + a.length) := by
  induction a with
  | nil => intro n i _ _; simp [sumLen]
  | cons p a ih =>
    intro n i hn h
    obtain ⟨k, d⟩ := p
    rw [rightGo] at h
    split at h
    · cases h
    · split at h
      · cases h
      · rename_i h1 h2
        rw [List.cons_append, rightGo, if_neg h1, if_neg h2, ih _ _ (by omega) h, sumLen_cons, List.length_cons]
        simp only
        congr 1 <;> omega
theorem right_append_some (a b : AhsL) (r : Nat × Nat) : ∀ n i, rightGo a n i = some r → rightGo (a ++ b) n i = some r := by
  induction a with
  | nil => intro n i h; cases h
  | cons p a ih =>
    intro n i h
    obtain ⟨k, d⟩ := p
    rw [rightGo] at h
    rw [List.cons_append, rightGo]
    split at h
    · rename_i h1; rw [if_pos h1]; exact h
    · split at h
      · rename_i h1 h2; rw [if_neg h1, if_pos h2]; exact h
      · rename_i h1 h2; rw [if_neg h1, if_neg h2]; exact ih _ _ h
/- with room to spare what is right is right behind n bytes; without there is too much -/
theorem right_room (b : AhsL) : ∀ n m i j, n ≤ 1020 → m ≤ 1020 → rightGo b n i = none → m + sumLen b ≤ 1020 → rightGo b m j = none := by
  intro n m i j hn hm h hs
  exact right_some_iff b m j hm (fun p hp => by have := (right_none b n i hn h).1 p hp; omega) hs
theorem right_full (b : AhsL) : ∀ n m i j, n ≤ 1020 → m ≤ 1020 → rightGo b n i = none → 1020 < m + sumLen b → ∃ q, rightGo b m j = some (4, q) := by
  induction b with
  | nil => intro n m i j _ hm _ hs; simp [sumLen] at hs; omega
  | cons p b ih =>
    intro n m i j hn hm h hs
    obtain ⟨k, d⟩ := p
    rw [rightGo] at h
    split at h
    · cases h
    · split at h
      · cases h
      · rename_i h1 h2
        rw [sumLen_cons] at hs
        simp only at hs
        rw [rightGo, if_neg h1]
        by_cases h3 : 1020 < m + ahsLen d
        · exact ⟨j, by rw [if_pos (Or.inr h3)]⟩
        · rw [if_neg (by omega)]
          exact ih _ _ _ _ (by omega) (by omega) h (by omega)
end Go.Proofs.YtlbojhmhcaecjaaDoor
