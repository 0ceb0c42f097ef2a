/- An argument that is a slice of pairs: read as a list. -/
import Derived.Test.YtamlepacljjpiaaGreatDoorGpairs
import Derived.Test.YtamlepacljjpiaaGreatDoorGbase
import Derived.Deep.SlicePairs
namespace Go.Proofs.YtamlepacljjpiaaGreatDoor
open Go.ChangeShapes Go.WideShapes Go.ChangeAt Go.RowKit Go.Deep
set_option linter.unusedVariables false
theorem weightsAll_memP {H : Type} {P : Program} {e : TypeId} : ∀ {l : List (DataW H)} {d : DataW H}, d ∈ l → ∀ n ∈ d.weights P e, n ∈ DataW.weightsAll P e l
  | d' :: r, d, hd, n, hn => by
    simp only [DataW.weightsAll, List.mem_append]
    rcases List.mem_cons.1 hd with rfl | h
    · exact Or.inl hn
    · exact Or.inr (weightsAll_memP h n hn)
set_option maxRecDepth 100000 in
theorem open_pairs {H : Type} {enc : TypeId × Value → H} {W : World} {base : Nat} {spare : Nat → Bool} {held : Bool} {v : Value} {d : DataW H} {p : List MemPlace} {ts : List TypeId} {ds : List (DataW H)} {j : Nat} {b0 : Nat}
    (hv : Value.okWide Tryz.prog W .any b0 27 v) (h : DataW.Trod enc Tryz.prog W base spare held 27 v d p)
    (hsz : (DataW.weightsEach Tryz.prog ts ds).all (· ≤ reachBytes) = true) (ht : ts[j]? = some 27) (hd : ds[j]? = some d) :
    ∃ l : PairL, SRd W v 2 l.length (pairCells l) ∧ (∀ q ∈ l, psmall q) := by
  obtain ⟨a0, len, cap, rfl⟩ := okWide_slice Tryz.underlying27 hv
  obtain ⟨fuel, hf⟩ := h
  rcases open_slice_pairs Tryz.underlying27 Tryz.underlying62 (by kernel_rfl) rfl rfl (by kernel_rfl) (by kernel_rfl) hf with ⟨hc, hx⟩ | ⟨a, len', cap', m, n, V0, V1, D0, D1, P0, P1, hc, hb, hl, hmx, hmm, hx, hi⟩
  · cases hc
    exact ⟨[], ⟨rfl, none, 0, rfl, Nat.le_refl _, by unfold maxLen; omega, fun h => absurd h (Nat.lt_irrefl _)⟩, fun q hq => (List.not_mem_nil hq).elim⟩
  · cases hc
    have hlm : len ≤ m := by rw [hmm]; split <;> omega
    have hval : ∀ i, i < len → ∃ (k s : ByteArray), V0 i = .string k ∧ V1 i = .string s ∧ D0 i = .lit (.string k.data.toList) ∧ D1 i = .lit (.string s.data.toList) := by
      intro i hi'
      obtain ⟨_, _, h0, h1⟩ := hi i (by omega)
      obtain ⟨k, e0, hx0, _⟩ := DataW.trod_string Tryz.underlying9 h0
      obtain ⟨s, e1, hx1, _⟩ := DataW.trod_string Tryz.underlying9 h1
      have e0' : V0 i = .string k := by simpa using e0
      have e1' : V1 i = .string s := by simpa using e1
      have hx0' : D0 i = .lit (.string k.data.toList) := by
        have := congrArg Prod.fst hx0
        simpa using this
      have hx1' : D1 i = .lit (.string s.data.toList) := by
        have := congrArg Prod.fst hx1
        simpa using this
      exact ⟨k, s, e0', e1', hx0', hx1'⟩
    have hch : ∀ i, ∃ q : ByteArray × ByteArray, i < len → V0 i = .string q.1 ∧ V1 i = .string q.2 ∧ D0 i = .lit (.string q.1.data.toList) ∧ D1 i = .lit (.string q.2.data.toList) := by
      intro i
      by_cases hi' : i < len
      · obtain ⟨k, s, h⟩ := hval i hi'
        exact ⟨(k, s), fun _ => h⟩
      · exact ⟨(⟨#[]⟩, ⟨#[]⟩), fun h => absurd h hi'⟩
    obtain ⟨L, hL⟩ := Classical.axiomOfChoice hch
    have hcells : ∀ n, pairCells ((List.range n).map L) = (List.range n).flatMap fun i => [.string (L i).1, .string (L i).2] := by
      intro n; simp [pairCells, List.flatMap_map]
    have hget : ∀ j u, (pairCells ((List.range len).map L))[j]? = some u → W.cell? (a.add j) = some u := by
      intro j u hu
      have hjl : j < 2 * len := by
        have := (List.getElem?_eq_some_iff.1 hu).1
        rw [pairCells_len] at this
        simpa using this
      have hk : ((List.range len).map L)[j / 2]? = some (L (j / 2)) := by
        rw [List.getElem?_map, List.getElem?_range (by omega)]; rfl
      obtain ⟨g0, g1⟩ := pairCells_at _ _ _ hk
      obtain ⟨c0, c1, _, _⟩ := hi (j / 2) (by omega)
      obtain ⟨l0, l1, _, _⟩ := hL (j / 2) (by omega)
      rcases Nat.mod_two_eq_zero_or_one j with h2 | h2
      · have e : j = 2 * (j / 2) := by omega
        rw [e, g0] at hu
        rw [e, Nat.mul_comm, c0, l0]
        exact hu
      · have e : j = 2 * (j / 2) + 1 := by omega
        rw [e, g1] at hu
        rw [e, Nat.mul_comm, c1, l1]
        exact hu
    refine ⟨(List.range len).map L, ⟨by rw [pairCells_len]; omega, some a, cap, ?_, ?_, ?_, ?_⟩, ?_⟩
    · simp
    · simpa using hl
    · exact hmx
    · intro hpos
      have hpos' : 0 < len := by simpa using hpos
      have c00 := (hi 0 (by omega)).1
      have e0 : a.add (0 * 2) = a := by simp [Addr.add]
      rw [e0] at c00
      have hsp := World.cell?_spot c00
      obtain ⟨ab, ao, asp⟩ := a
      simp only at hsp
      subst hsp
      refine ⟨ab, ao, rfl, ?_, fun j u hu => by rw [← Addr.add_lit]; exact hget j u hu⟩
      simp only [World.cell?] at c00
      by_cases hlt : ab < W.heap.size
      · exact hlt
      · rw [Array.getElem?_eq_none (by omega)] at c00
        simp at c00
    · intro q hq
      obtain ⟨i, hi', rfl⟩ := List.mem_map.1 hq
      obtain ⟨_, _, hd0, hd1⟩ := hL i (List.mem_range.1 hi')
      have hd' : d = .slice ((List.range len).map fun i => .agg [D0 i, D1 i]) ((List.range (m - len)).map fun j => .agg [D0 (len + j), D1 (len + j)]) := congrArg Prod.fst hx
      rw [hd'] at hd
      constructor
      · refine str_size rfl (of_decide_eq_true (List.all_eq_true.1 hsz _ (DataW.weights_mem_each ht hd _ ?_)))
        simp only [DataW.weights, Tryz.underlying27, List.mem_cons, List.mem_append]
        refine Or.inr (Or.inl (weightsAll_memP (List.mem_map.2 ⟨i, hi', rfl⟩) _ ?_))
        rw [hd0]
        simp [DataW.weights, DataW.weightsEach, Tryz.underlying62]
      · refine str_size rfl (of_decide_eq_true (List.all_eq_true.1 hsz _ (DataW.weights_mem_each ht hd _ ?_)))
        simp only [DataW.weights, Tryz.underlying27, List.mem_cons, List.mem_append]
        refine Or.inr (Or.inl (weightsAll_memP (List.mem_map.2 ⟨i, hi', rfl⟩) _ ?_))
        rw [hd1]
        simp [DataW.weights, DataW.weightsEach, Tryz.underlying62]
end Go.Proofs.YtamlepacljjpiaaGreatDoor
