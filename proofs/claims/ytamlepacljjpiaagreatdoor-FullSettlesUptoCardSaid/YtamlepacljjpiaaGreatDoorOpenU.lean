/- An argument that is a slice of additional headers, read as a list, and what the bound of the second form says of its length. -/
import Derived.Test.YtamlepacljjpiaaGreatDoorAhs
import Derived.Test.YtamlepacljjpiaaGreatDoorGbase
import Derived.Deep.SlicePairs
namespace Go.Proofs.YtamlepacljjpiaaGreatDoor
open Go.ChangeShapes Go.WideShapes Go.ChangeAt Go.RowKit Go.Deep
set_option linter.unusedVariables false
theorem weightsAll_memu {H : Type} {P : Program} {e : TypeId} : ∀ {l : List (DataW H)} {d : DataW H}, d ∈ l → ∀ n ∈ d.weights P e, n ∈ DataW.weightsAll P e l
  | d' :: r, d, hd, n, hn => by
    simp only [DataW.weightsAll, List.mem_append]
    rcases List.mem_cons.1 hd with rfl | h
    · exact Or.inl hn
    · exact Or.inr (weightsAll_memu h n hn)
namespace bulks
theorem one_le {H : Type} (d : DataW H) : 1 ≤ Go.Proofs.YtamlepacljjpiaaGreatDoor.Rows.uptoBulk d := by
  cases d with
  | lit l => cases l <;> simp [Go.Proofs.YtamlepacljjpiaaGreatDoor.Rows.uptoBulk]
  | nil => simp [Go.Proofs.YtamlepacljjpiaaGreatDoor.Rows.uptoBulk]
  | ptr d => simp [Go.Proofs.YtamlepacljjpiaaGreatDoor.Rows.uptoBulk]
  | slice elems spare => simp [Go.Proofs.YtamlepacljjpiaaGreatDoor.Rows.uptoBulk]
  | agg parts => simp [Go.Proofs.YtamlepacljjpiaaGreatDoor.Rows.uptoBulk]
  | iface t d => simp [Go.Proofs.YtamlepacljjpiaaGreatDoor.Rows.uptoBulk]
  | map entries => simp [Go.Proofs.YtamlepacljjpiaaGreatDoor.Rows.uptoBulk]
  | held h => simp [Go.Proofs.YtamlepacljjpiaaGreatDoor.Rows.uptoBulk]

/- a part's bulk is at most the whole's -/
theorem part_le {H : Type} {d : DataW H} {l : List (DataW H)} (h : d ∈ l) : Go.Proofs.YtamlepacljjpiaaGreatDoor.Rows.uptoBulk d ≤ Go.Proofs.YtamlepacljjpiaaGreatDoor.Rows.uptoBulkAll l := by
  induction l with
  | nil => cases h
  | cons x r ih =>
    simp only [Go.Proofs.YtamlepacljjpiaaGreatDoor.Rows.uptoBulkAll]
    cases List.mem_cons.1 h with
    | inl e => subst e; omega
    | inr e => have := ih e; omega

theorem append {H : Type} (l r : List (DataW H)) : Go.Proofs.YtamlepacljjpiaaGreatDoor.Rows.uptoBulkAll (l ++ r) = Go.Proofs.YtamlepacljjpiaaGreatDoor.Rows.uptoBulkAll l + Go.Proofs.YtamlepacljjpiaaGreatDoor.Rows.uptoBulkAll r := by
  induction l with
  | nil => simp [Go.Proofs.YtamlepacljjpiaaGreatDoor.Rows.uptoBulkAll]
  | cons x l ih => simp only [List.cons_append, Go.Proofs.YtamlepacljjpiaaGreatDoor.Rows.uptoBulkAll, ih]; omega

/- so many values at the most -/
theorem length_le {H : Type} (l : List (DataW H)) : l.length ≤ Go.Proofs.YtamlepacljjpiaaGreatDoor.Rows.uptoBulkAll l := by
  induction l with
  | nil => simp [Go.Proofs.YtamlepacljjpiaaGreatDoor.Rows.uptoBulkAll]
  | cons x r ih => have := one_le x; simp only [Go.Proofs.YtamlepacljjpiaaGreatDoor.Rows.uptoBulkAll, List.length_cons]; omega

/- a slice's places, and what they hold -/
theorem slice_le {H : Type} (elems spare : List (DataW H)) : elems.length + spare.length + 1 ≤ Go.Proofs.YtamlepacljjpiaaGreatDoor.Rows.uptoBulk (.slice elems spare) := by
  have h1 := length_le elems
  have h2 := length_le spare
  simp only [Go.Proofs.YtamlepacljjpiaaGreatDoor.Rows.uptoBulk]
  omega
theorem slice_elems {H : Type} (elems spare : List (DataW H)) : Go.Proofs.YtamlepacljjpiaaGreatDoor.Rows.uptoBulkAll elems + 1 ≤ Go.Proofs.YtamlepacljjpiaaGreatDoor.Rows.uptoBulk (.slice elems spare) := by
  simp only [Go.Proofs.YtamlepacljjpiaaGreatDoor.Rows.uptoBulk]
  omega

/- a string's letters -/
theorem string_eq {H : Type} (bytes : List UInt8) : Go.Proofs.YtamlepacljjpiaaGreatDoor.Rows.uptoBulk (DataW.lit (H := H) (.string bytes)) = bytes.length + 1 := by
  simp [Go.Proofs.YtamlepacljjpiaaGreatDoor.Rows.uptoBulk]

/- THE BOUND, as the builder hands it over ('hk') -/
theorem bound {H : Type} {l : List (DataW H)} (hk : Go.Proofs.YtamlepacljjpiaaGreatDoor.Rows.uptoSmall H l = true) : Go.Proofs.YtamlepacljjpiaaGreatDoor.Rows.uptoBulkAll l ≤ 1048576 := by
  simpa [Go.Proofs.YtamlepacljjpiaaGreatDoor.Rows.uptoSmall] using hk

end bulks
set_option maxRecDepth 100000 in
theorem open_ahs_u {H : Type} {enc : TypeId × Value → H} {W : World} {base : Nat} {spare : Nat → Bool} {held : Bool} {v : Value} {d : DataW H} {p : List MemPlace} {ts : List TypeId} {ds : List (DataW H)} {j : Nat} {b0 : Nat}
    (hv : Value.okWide Tryz.prog W .any b0 39 v) (h : DataW.Trod enc Tryz.prog W base spare held 39 v d p)
    (hsz : (DataW.weightsEach Tryz.prog ts ds).all (· ≤ reachBytes) = true) (ht : ts[j]? = some 39) (hd : ds[j]? = some d) :
    ∃ l : AhsL, SRd W v 2 l.length (ahsCells l) ∧ (∀ q ∈ l, -9223372036854775808 ≤ q.1 ∧ q.1 ≤ 9223372036854775807) ∧ (∀ q ∈ l, q.2.size ≤ 140737488351232) ∧ l.length ≤ Rows.uptoBulk d := by
  obtain ⟨a0, len, cap, rfl⟩ := okWide_slice Tryz.underlying39 hv
  obtain ⟨fuel, hf⟩ := h
  rcases open_slice_pairs Tryz.underlying39 Tryz.underlying157 (by kernel_rfl) rfl rfl (by kernel_rfl) (by kernel_rfl) hf with ⟨hc, hx⟩ | ⟨a, len', cap', m, n, V0, V1, D0, D1, P0, P1, hc, hb, hl, hmx, hmm, hx, hi⟩
  · cases hc
    exact ⟨[], ⟨rfl, none, 0, rfl, Nat.le_refl _, by unfold maxLen; omega, fun h => absurd h (Nat.lt_irrefl _)⟩, fun q hq => (List.not_mem_nil hq).elim, fun q hq => (List.not_mem_nil hq).elim, Nat.zero_le _⟩
  · cases hc
    have hlm : len ≤ m := by rw [hmm]; split <;> omega
    have hval : ∀ i, i < len → ∃ (k : Int) (s : ByteArray), V0 i = .int .i64 k ∧ V1 i = .string s ∧ D1 i = .lit (.string s.data.toList) ∧ (Lit.int .i64 k).wf = true := by
      intro i hi'
      obtain ⟨_, _, h0, h1⟩ := hi i (by omega)
      obtain ⟨k, e0, _, hw⟩ := DataW.trod_int Tryz.underlying3 h0
      obtain ⟨s, e1, hx1, _⟩ := DataW.trod_string Tryz.underlying9 h1
      have e0' : V0 i = .int .i64 k := by simpa using e0
      have e1' : V1 i = .string s := by simpa using e1
      have hx1' : D1 i = .lit (.string s.data.toList) := by
        have := congrArg Prod.fst hx1
        simpa using this
      exact ⟨k, s, e0', e1', hx1', hw⟩
    have hch : ∀ i, ∃ q : Int × ByteArray, i < len → V0 i = .int .i64 q.1 ∧ V1 i = .string q.2 ∧ D1 i = .lit (.string q.2.data.toList) ∧ (Lit.int .i64 q.1).wf = true := by
      intro i
      by_cases hi' : i < len
      · obtain ⟨k, s, h⟩ := hval i hi'
        exact ⟨(k, s), fun _ => h⟩
      · exact ⟨(0, ⟨#[]⟩), fun h => absurd h hi'⟩
    obtain ⟨L, hL⟩ := Classical.axiomOfChoice hch
    have hcells : ∀ n, ahsCells ((List.range n).map L) = (List.range n).flatMap fun i => [.int .i64 (L i).1, .string (L i).2] := by
      intro n; simp [ahsCells, List.flatMap_map]
    have hget : ∀ j u, (ahsCells ((List.range len).map L))[j]? = some u → W.cell? (a.add j) = some u := by
      intro j u hu
      have hjl : j < 2 * len := by
        have := (List.getElem?_eq_some_iff.1 hu).1
        rw [ahsCells_len] at this
        simpa using this
      have hk : ((List.range len).map L)[j / 2]? = some (L (j / 2)) := by
        rw [List.getElem?_map, List.getElem?_range (by omega)]; rfl
      obtain ⟨g0, g1⟩ := ahsCells_at _ _ _ hk
      obtain ⟨c0, c1, _, _⟩ := hi (j / 2) (by omega)
      obtain ⟨l0, l1, _, _⟩ := hL (j / 2) (by omega)
      rcases Nat.mod_two_eq_zero_or_one j with h2 | h2
      · have e : j = 2 * (j / 2) := by omega
        rw [e, g0] at hu
        rw [e, Nat.mul_comm, c0, l0]
        exact hu
      · have e : j = 2 * (j / 2) + 1 := by omega
        rw [e, g1] at hu
        rw [e, Nat.mul_comm, c1, l1]
        exact hu
    refine ⟨(List.range len).map L, ⟨by rw [ahsCells_len]; omega, some a, cap, ?_, ?_, ?_, ?_⟩, ?_, ?_, ?_⟩
    · simp
    · simpa using hl
    · exact hmx
    · intro hpos
      have hpos' : 0 < len := by simpa using hpos
      have c00 := (hi 0 (by omega)).1
      have e0 : a.add (0 * 2) = a := by simp [Addr.add]
      rw [e0] at c00
      have hsp := World.cell?_spot c00
      obtain ⟨ab, ao, asp⟩ := a
      simp only at hsp
      subst hsp
      refine ⟨ab, ao, rfl, ?_, fun j u hu => by rw [← Addr.add_lit]; exact hget j u hu⟩
      simp only [World.cell?] at c00
      by_cases hlt : ab < W.heap.size
      · exact hlt
      · rw [Array.getElem?_eq_none (by omega)] at c00
        simp at c00
    · intro q hq
      obtain ⟨i, hi', rfl⟩ := List.mem_map.1 hq
      exact bounds_i64 (hL i (List.mem_range.1 hi')).2.2.2
    · intro q hq
      obtain ⟨i, hi', rfl⟩ := List.mem_map.1 hq
      have hd1 := (hL i (List.mem_range.1 hi')).2.2.1
      have hd' : d = .slice ((List.range len).map fun i => .agg [D0 i, D1 i]) ((List.range (m - len)).map fun j => .agg [D0 (len + j), D1 (len + j)]) := congrArg Prod.fst hx
      rw [hd'] at hd
      refine str_size rfl (of_decide_eq_true (List.all_eq_true.1 hsz _ (DataW.weights_mem_each ht hd _ ?_)))
      simp only [DataW.weights, Tryz.underlying39, List.mem_cons, List.mem_append]
      refine Or.inr (Or.inl (weightsAll_memu (List.mem_map.2 ⟨i, hi', rfl⟩) _ ?_))
      rw [hd1]
      simp [DataW.weights, DataW.weightsEach, Tryz.underlying157]
    · have hd' : d = .slice ((List.range len).map fun i => .agg [D0 i, D1 i]) ((List.range (m - len)).map fun j => .agg [D0 (len + j), D1 (len + j)]) := congrArg Prod.fst hx
      rw [hd']
      have := bulks.slice_le ((List.range len).map fun i => DataW.agg [D0 i, D1 i]) ((List.range (m - len)).map fun j => DataW.agg [D0 (len + j), D1 (len + j)])
      simp only [List.length_map, List.length_range] at this ⊢
      omega
end Go.Proofs.YtamlepacljjpiaaGreatDoor
