/- An argument that is a slice of additional headers, read as a list, and what the bound of the second form says of its length. -/
import Derived.Test.YtadhlnpegigadaaGreatDoorGbase
import Derived.Deep.SlicePairs
namespace Go.Proofs.YtadhlnpegigadaaGreatDoor
open Go.ChangeShapes Go.WideShapes Go.ChangeAt Go.RowKit Go.Deep
set_option linter.unusedVariables false
theorem weightsAll_memu {H : Type} {P : Program} {e : TypeId} : ∀ {l : List (DataW H)} {d : DataW H}, d ∈ l → ∀ n ∈ d.weights P e, n ∈ DataW.weightsAll P e l
  | d' :: r, d, hd, n, hn => by
    simp only [DataW.weightsAll, List.mem_append]
    rcases List.mem_cons.1 hd with rfl | h
    · exact Or.inl hn
    · exact Or.inr (weightsAll_memu h n hn)
namespace bulks
theorem one_le {H : Type} (d : DataW H) : 1 ≤ Go.Proofs.YtadhlnpegigadaaGreatDoor.Rows.uptoBulk d := by
  cases d with
  | lit l => cases l <;> simp [Go.Proofs.YtadhlnpegigadaaGreatDoor.Rows.uptoBulk]
  | nil => simp [Go.Proofs.YtadhlnpegigadaaGreatDoor.Rows.uptoBulk]
  | ptr d => simp [Go.Proofs.YtadhlnpegigadaaGreatDoor.Rows.uptoBulk]
  | slice elems spare => simp [Go.Proofs.YtadhlnpegigadaaGreatDoor.Rows.uptoBulk]
  | agg parts => simp [Go.Proofs.YtadhlnpegigadaaGreatDoor.Rows.uptoBulk]
  | iface t d => simp [Go.Proofs.YtadhlnpegigadaaGreatDoor.Rows.uptoBulk]
  | map entries => simp [Go.Proofs.YtadhlnpegigadaaGreatDoor.Rows.uptoBulk]
  | held h => simp [Go.Proofs.YtadhlnpegigadaaGreatDoor.Rows.uptoBulk]

/- a part's bulk is at most the whole's -/
theorem part_le {H : Type} {d : DataW H} {l : List (DataW H)} (h : d ∈ l) : Go.Proofs.YtadhlnpegigadaaGreatDoor.Rows.uptoBulk d ≤ Go.Proofs.YtadhlnpegigadaaGreatDoor.Rows.uptoBulkAll l := by
  induction l with
  | nil => cases h
  | cons x r ih =>
    simp only [Go.Proofs.YtadhlnpegigadaaGreatDoor.Rows.uptoBulkAll]
    cases List.mem_cons.1 h with
    | inl e => subst e; omega
    | inr e => have := ih e; omega

theorem append {H : Type} (l r : List (DataW H)) : Go.Proofs.YtadhlnpegigadaaGreatDoor.Rows.uptoBulkAll (l ++ r) = Go.Proofs.YtadhlnpegigadaaGreatDoor.Rows.uptoBulkAll l + Go.Proofs.YtadhlnpegigadaaGreatDoor.Rows.uptoBulkAll r := by
  induction l with
  | nil => simp [Go.Proofs.YtadhlnpegigadaaGreatDoor.Rows.uptoBulkAll]
  | cons x l ih => simp only [List.cons_append, Go.Proofs.YtadhlnpegigadaaGreatDoor.Rows.uptoBulkAll, ih]; omega

/- so many values at the most -/
theorem length_le {H : Type} (l : List (DataW H)) : l.length ≤ Go.Proofs.YtadhlnpegigadaaGreatDoor.Rows.uptoBulkAll l := by
  induction l with
  | nil => simp [Go.Proofs.YtadhlnpegigadaaGreatDoor.Rows.uptoBulkAll]
  | cons x r ih => have := one_le x; simp only [Go.Proofs.YtadhlnpegigadaaGreatDoor.Rows.uptoBulkAll, List.length_cons]; omega

/- a slice's places, and what they hold -/
theorem slice_le {H : Type} (elems spare : List (DataW H)) : elems.length + spare.length + 1 ≤ Go.Proofs.YtadhlnpegigadaaGreatDoor.Rows.uptoBulk (.slice elems spare) := by
  have h1 := length_le elems
  have h2 := length_le spare
  simp only [Go.Proofs.YtadhlnpegigadaaGreatDoor.Rows.uptoBulk]
  omega
theorem slice_elems {H : Type} (elems spare : List (DataW H)) : Go.Proofs.YtadhlnpegigadaaGreatDoor.Rows.uptoBulkAll elems + 1 ≤ Go.Proofs.YtadhlnpegigadaaGreatDoor.Rows.uptoBulk (.slice elems spare) := by
  simp only [Go.Proofs.YtadhlnpegigadaaGreatDoor.Rows.uptoBulk]
  omega

/- a string's letters -/
theorem string_eq {H : Type} (bytes : List UInt8) : Go.Proofs.YtadhlnpegigadaaGreatDoor.Rows.uptoBulk (DataW.lit (H := H) (.string bytes)) = bytes.length + 1 := by
  simp [Go.Proofs.YtadhlnpegigadaaGreatDoor.Rows.uptoBulk]

/- THE BOUND, as the builder hands it over ('hk') -/
theorem bound {H : Type} {l : List (DataW H)} (hk : Go.Proofs.YtadhlnpegigadaaGreatDoor.Rows.uptoSmall H l = true) : Go.Proofs.YtadhlnpegigadaaGreatDoor.Rows.uptoBulkAll l ≤ 1048576 := by
  simpa [Go.Proofs.YtadhlnpegigadaaGreatDoor.Rows.uptoSmall] using hk

end bulks
end Go.Proofs.YtadhlnpegigadaaGreatDoor
