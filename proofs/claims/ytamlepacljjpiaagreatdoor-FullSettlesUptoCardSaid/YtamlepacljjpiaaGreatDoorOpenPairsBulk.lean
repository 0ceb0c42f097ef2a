/- What the bound of the second form says of an argument that is a slice of pairs. -/
import Derived.Test.YtamlepacljjpiaaGreatDoorOpenPairs
import Derived.Test.YtamlepacljjpiaaGreatDoorOpenU
import Derived.Test.YtamlepacljjpiaaGreatDoorFullSetC
namespace Go.Proofs.YtamlepacljjpiaaGreatDoor
open Go.ChangeShapes Go.WideShapes Go.ChangeAt Go.RowKit Go.Deep
set_option linter.unusedVariables false
def bulkG {H : Type} (q : ByteArray × ByteArray) : DataW H := .agg [.lit (.string q.1.data.toList), .lit (.string q.2.data.toList)]
theorem bulk_pairs {H : Type} : ∀ l : PairL, l.length + szN l ≤ Rows.uptoBulkAll (H := H) (l.map bulkG)
  | [] => Nat.zero_le _
  | q :: l => by
    have ih := bulk_pairs (H := H) l
    have h1 := len_of q.1
    have h2 := len_of q.2
    simp only [List.map_cons, List.length_cons, szN, Rows.uptoBulkAll, bulkG, Rows.uptoBulk]
    omega
set_option maxRecDepth 100000 in
theorem open_pairs_bulk {H : Type} {enc : TypeId × Value → H} {W : World} {base : Nat} {spare : Nat → Bool} {held : Bool} {v : Value} {d : DataW H} {p : List MemPlace} {b0 : Nat}
    (hv : Value.okWide Tryz.prog W .any b0 27 v) (h : DataW.Trod enc Tryz.prog W base spare held 27 v d p) (l : PairL) (hl : SRd W v 2 l.length (pairCells l)) : l.length + szN l ≤ Rows.uptoBulk d := by
  obtain ⟨a0, len, cap, rfl⟩ := okWide_slice Tryz.underlying27 hv
  obtain ⟨fuel, hf⟩ := h
  obtain ⟨_, A', cap', hv', _, _, hcell⟩ := hl
  injection hv' with e1 e2 e3
  rcases open_slice_pairs Tryz.underlying27 Tryz.underlying62 (by kernel_rfl) rfl rfl (by kernel_rfl) (by kernel_rfl) hf with ⟨hc, hx⟩ | ⟨a, len', cap', m, n, V0, V1, D0, D1, P0, P1, hc, hb, hl, hmx, hmm, hx, hi⟩
  · injection hc with hc
    injection hc with _ h2 _
    have : l = [] := List.eq_nil_of_length_eq_zero (by omega)
    subst this
    exact Nat.zero_le _
  · injection hc with hc
    injection hc with h1 h2 _
    have hlen : l.length = len' := by omega
    have hlm : len' ≤ m := by rw [hmm]; split <;> omega
    have hd' : d = .slice ((List.range len').map fun i => .agg [D0 i, D1 i]) ((List.range (m - len')).map fun j => .agg [D0 (len' + j), D1 (len' + j)]) := congrArg Prod.fst hx
    have hel : ((List.range len').map fun i => DataW.agg [D0 i, D1 i]) = l.map bulkG := by
      apply List.ext_getElem?
      intro i
      by_cases hi' : i < len'
      · obtain ⟨c0, c1, h0, h1'⟩ := hi i (by omega)
        obtain ⟨k, e0, hx0, _⟩ := DataW.trod_string Tryz.underlying9 h0
        obtain ⟨s, e1', hx1, _⟩ := DataW.trod_string Tryz.underlying9 h1'
        have e0' : V0 i = .string k := by simpa using e0
        have e1'' : V1 i = .string s := by simpa using e1'
        have hx0' : D0 i = .lit (.string k.data.toList) := by
          have := congrArg Prod.fst hx0
          simpa using this
        have hx1' : D1 i = .lit (.string s.data.toList) := by
          have := congrArg Prod.fst hx1
          simpa using this
        obtain ⟨q, hq⟩ : ∃ q, l[i]? = some q := ⟨_, List.getElem?_eq_getElem (by omega)⟩
        obtain ⟨b, o, hA, _, hcc⟩ := hcell (by omega)
        have hpc := pairCells_at l i q hq
        have g0 := hcc _ _ hpc.1
        have g1 := hcc _ _ hpc.2
        have ea : a = ⟨b, o, none⟩ := by
          have : some a = some (⟨b, o, none⟩ : Addr) := by rw [← h1, e1, hA]
          injection this
        have t0 : a.add (i * 2) = (⟨b, o + 2 * i, none⟩ : Addr) := by rw [ea]; simp [Addr.add, Nat.mul_comm]
        have t1 : a.add (i * 2 + 1) = (⟨b, o + (2 * i + 1), none⟩ : Addr) := by rw [ea]; simp [Addr.add, Nat.mul_comm]
        rw [t0, g0] at c0
        rw [t1, g1] at c1
        have f0 : Value.string q.1 = .string k := (Option.some.inj c0).trans e0'
        have f1 : Value.string q.2 = .string s := (Option.some.inj c1).trans e1''
        injection f0 with f0
        injection f1 with f1
        rw [List.getElem?_map, List.getElem?_range hi', List.getElem?_map, hq]
        simp only [Option.map_some, bulkG, hx0', hx1', f0, f1]
      · rw [List.getElem?_eq_none (by simp; omega), List.getElem?_eq_none (by simp; omega)]
    rw [hd', hel]
    have h3 := bulk_pairs (H := H) l
    have h4 := bulks.slice_elems (l.map (bulkG (H := H))) ((List.range (m - len')).map fun j => DataW.agg [D0 (len' + j), D1 (len' + j)])
    omega
end Go.Proofs.YtamlepacljjpiaaGreatDoor
