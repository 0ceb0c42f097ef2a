/- Open OpenPdu OpenPdus. -/
import Derived.Test.YtamlepacljjpiaaGreatDoorAhs
import Derived.Test.YtamlepacljjpiaaGreatDoorGbase
import Derived.Deep.SlicePairs
import Derived.Test.YtamlepacljjpiaaGreatDoorGhead
import Derived.Deep.Slices
/- An argument that is a slice of additional headers: read as a list. -/
namespace Go.Proofs.YtamlepacljjpiaaGreatDoor
open Go.ChangeShapes Go.WideShapes Go.ChangeAt Go.RowKit Go.Deep
set_option linter.unusedVariables false
theorem weightsAll_mem' {H : Type} {P : Program} {e : TypeId} : ∀ {l : List (DataW H)} {d : DataW H}, d ∈ l → ∀ n ∈ d.weights P e, n ∈ DataW.weightsAll P e l
  | d' :: r, d, hd, n, hn => by
    simp only [DataW.weightsAll, List.mem_append]
    rcases List.mem_cons.1 hd with rfl | h
    · exact Or.inl hn
    · exact Or.inr (weightsAll_mem' h n hn)
set_option maxRecDepth 100000 in
theorem open_ahs {H : Type} {enc : TypeId × Value → H} {W : World} {base : Nat} {spare : Nat → Bool} {held : Bool} {v : Value} {d : DataW H} {p : List MemPlace} {ts : List TypeId} {ds : List (DataW H)} {j : Nat} {b0 : Nat}
    (hv : Value.okWide Tryz.prog W .any b0 39 v) (h : DataW.Trod enc Tryz.prog W base spare held 39 v d p)
    (hsz : (DataW.weightsEach Tryz.prog ts ds).all (· ≤ reachBytes) = true) (ht : ts[j]? = some 39) (hd : ds[j]? = some d) :
    ∃ l : AhsL, SRd W v 2 l.length (ahsCells l) ∧ (∀ q ∈ l, -9223372036854775808 ≤ q.1 ∧ q.1 ≤ 9223372036854775807) ∧ (∀ q ∈ l, q.2.size ≤ 140737488351232) := by
  obtain ⟨a0, len, cap, rfl⟩ := okWide_slice Tryz.underlying39 hv
  obtain ⟨fuel, hf⟩ := h
  rcases open_slice_pairs Tryz.underlying39 Tryz.underlying157 (by kernel_rfl) rfl rfl (by kernel_rfl) (by kernel_rfl) hf with ⟨hc, hx⟩ | ⟨a, len', cap', m, n, V0, V1, D0, D1, P0, P1, hc, hb, hl, hmx, hmm, hx, hi⟩
  · cases hc
    exact ⟨[], ⟨rfl, none, 0, rfl, Nat.le_refl _, by unfold maxLen; omega, fun h => absurd h (Nat.lt_irrefl _)⟩, fun q hq => (List.not_mem_nil hq).elim, fun q hq => (List.not_mem_nil hq).elim⟩
  · cases hc
    have hlm : len ≤ m := by rw [hmm]; split <;> omega
    have hval : ∀ i, i < len → ∃ (k : Int) (s : ByteArray), V0 i = .int .i64 k ∧ V1 i = .string s ∧ D1 i = .lit (.string s.data.toList) ∧ (Lit.int .i64 k).wf = true := by
      intro i hi'
      obtain ⟨_, _, h0, h1⟩ := hi i (by omega)
      obtain ⟨k, e0, _, hw⟩ := DataW.trod_int Tryz.underlying3 h0
      obtain ⟨s, e1, hx1, _⟩ := DataW.trod_string Tryz.underlying9 h1
      have e0' : V0 i = .int .i64 k := by simpa using e0
      have e1' : V1 i = .string s := by simpa using e1
      have hx1' : D1 i = .lit (.string s.data.toList) := by
        have := congrArg Prod.fst hx1
        simpa using this
      exact ⟨k, s, e0', e1', hx1', hw⟩
    have hch : ∀ i, ∃ q : Int × ByteArray, i < len → V0 i = .int .i64 q.1 ∧ V1 i = .string q.2 ∧ D1 i = .lit (.string q.2.data.toList) ∧ (Lit.int .i64 q.1).wf = true := by
      intro i
      by_cases hi' : i < len
      · obtain ⟨k, s, h⟩ := hval i hi'
        exact ⟨(k, s), fun _ => h⟩
      · exact ⟨(0, ⟨#[]⟩), fun h => absurd h hi'⟩
    obtain ⟨L, hL⟩ := Classical.axiomOfChoice hch
    have hcells : ∀ n, ahsCells ((List.range n).map L) = (List.range n).flatMap fun i => [.int .i64 (L i).1, .string (L i).2] := by
      intro n; simp [ahsCells, List.flatMap_map]
    have hget : ∀ j u, (ahsCells ((List.range len).map L))[j]? = some u → W.cell? (a.add j) = some u := by
      intro j u hu
      have hjl : j < 2 * len := by
        have := (List.getElem?_eq_some_iff.1 hu).1
        rw [ahsCells_len] at this
        simpa using this
      have hk : ((List.range len).map L)[j / 2]? = some (L (j / 2)) := by
        rw [List.getElem?_map, List.getElem?_range (by omega)]; rfl
      obtain ⟨g0, g1⟩ := ahsCells_at _ _ _ hk
      obtain ⟨c0, c1, _, _⟩ := hi (j / 2) (by omega)
      obtain ⟨l0, l1, _, _⟩ := hL (j / 2) (by omega)
      rcases Nat.mod_two_eq_zero_or_one j with h2 | h2
      · have e : j = 2 * (j / 2) := by omega
        rw [e, g0] at hu
        rw [e, Nat.mul_comm, c0, l0]
        exact hu
      · have e : j = 2 * (j / 2) + 1 := by omega
        rw [e, g1] at hu
        rw [e, Nat.mul_comm, c1, l1]
        exact hu
    refine ⟨(List.range len).map L, ⟨by rw [ahsCells_len]; omega, some a, cap, ?_, ?_, ?_, ?_⟩, ?_, ?_⟩
    · simp
    · simpa using hl
    · exact hmx
    · intro hpos
      have hpos' : 0 < len := by simpa using hpos
      have c00 := (hi 0 (by omega)).1
      have e0 : a.add (0 * 2) = a := by simp [Addr.add]
      rw [e0] at c00
      have hsp := World.cell?_spot c00
      obtain ⟨ab, ao, asp⟩ := a
      simp only at hsp
      subst hsp
      refine ⟨ab, ao, rfl, ?_, fun j u hu => by rw [← Addr.add_lit]; exact hget j u hu⟩
      simp only [World.cell?] at c00
      by_cases hlt : ab < W.heap.size
      · exact hlt
      · rw [Array.getElem?_eq_none (by omega)] at c00
        simp at c00
    · intro q hq
      obtain ⟨i, hi', rfl⟩ := List.mem_map.1 hq
      exact bounds_i64 (hL i (List.mem_range.1 hi')).2.2.2
    · intro q hq
      obtain ⟨i, hi', rfl⟩ := List.mem_map.1 hq
      have hd1 := (hL i (List.mem_range.1 hi')).2.2.1
      have hd' : d = .slice ((List.range len).map fun i => .agg [D0 i, D1 i]) ((List.range (m - len)).map fun j => .agg [D0 (len + j), D1 (len + j)]) := congrArg Prod.fst hx
      rw [hd'] at hd
      refine str_size rfl (of_decide_eq_true (List.all_eq_true.1 hsz _ (DataW.weights_mem_each ht hd _ ?_)))
      simp only [DataW.weights, Tryz.underlying39, List.mem_cons, List.mem_append]
      refine Or.inr (Or.inl (weightsAll_mem' (List.mem_map.2 ⟨i, hi', rfl⟩) _ ?_))
      rw [hd1]
      simp [DataW.weights, DataW.weightsEach, Tryz.underlying157]
end Go.Proofs.YtamlepacljjpiaaGreatDoor

/- An argument that is a PDU. -/
namespace Go.Proofs.YtamlepacljjpiaaGreatDoor
open Go.ChangeShapes Go.WideShapes Go.ChangeAt Go.RowKit Go.Deep
set_option linter.unusedVariables false
set_option maxRecDepth 100000 in
theorem ahs_cells {H : Type} {enc : TypeId × Value → H} {W : World} {base : Nat} {spare : Nat → Bool} {held : Bool} {fuel : Nat} {cs : List Value} {x : DataW H × List MemPlace}
    (hf : DataW.trod enc Tryz.prog W base spare held fuel 39 cs = some x) (hw : ∀ n ∈ x.1.weights Tryz.prog 39, n ≤ reachBytes) :
    ∃ (l : AhsL) (u : Value), cs = [u] ∧ SRd W u 2 l.length (ahsCells l) ∧ (∀ q ∈ l, -9223372036854775808 ≤ q.1 ∧ q.1 ≤ 9223372036854775807) ∧ (∀ q ∈ l, q.2.size ≤ 140737488351232) := by
  rcases open_slice_pairs Tryz.underlying39 Tryz.underlying157 (by kernel_rfl) rfl rfl (by kernel_rfl) (by kernel_rfl) hf with ⟨hc, hx⟩ | ⟨a, len, cap, m, n, V0, V1, D0, D1, P0, P1, hc, hb, hl, hmx, hmm, hx, hi⟩
  · exact ⟨[], _, hc, ⟨rfl, none, 0, rfl, Nat.le_refl _, by unfold maxLen; omega, fun h => absurd h (Nat.lt_irrefl _)⟩, fun q hq => (List.not_mem_nil hq).elim, fun q hq => (List.not_mem_nil hq).elim⟩
  · have hlm : len ≤ m := by rw [hmm]; split <;> omega
    have hval : ∀ i, i < len → ∃ (k : Int) (s : ByteArray), V0 i = .int .i64 k ∧ V1 i = .string s ∧ D1 i = .lit (.string s.data.toList) ∧ (Lit.int .i64 k).wf = true := by
      intro i hi'
      obtain ⟨_, _, h0, h1⟩ := hi i (by omega)
      obtain ⟨k, e0, _, hw⟩ := DataW.trod_int Tryz.underlying3 h0
      obtain ⟨s, e1, hx1, _⟩ := DataW.trod_string Tryz.underlying9 h1
      have e0' : V0 i = .int .i64 k := by simpa using e0
      have e1' : V1 i = .string s := by simpa using e1
      have hx1' : D1 i = .lit (.string s.data.toList) := by
        have := congrArg Prod.fst hx1
        simpa using this
      exact ⟨k, s, e0', e1', hx1', hw⟩
    have hch : ∀ i, ∃ q : Int × ByteArray, i < len → V0 i = .int .i64 q.1 ∧ V1 i = .string q.2 ∧ D1 i = .lit (.string q.2.data.toList) ∧ (Lit.int .i64 q.1).wf = true := by
      intro i
      by_cases hi' : i < len
      · obtain ⟨k, s, h⟩ := hval i hi'
        exact ⟨(k, s), fun _ => h⟩
      · exact ⟨(0, ⟨#[]⟩), fun h => absurd h hi'⟩
    obtain ⟨L, hL⟩ := Classical.axiomOfChoice hch
    have hcells : ∀ n, ahsCells ((List.range n).map L) = (List.range n).flatMap fun i => [.int .i64 (L i).1, .string (L i).2] := by
      intro n; simp [ahsCells, List.flatMap_map]
    have hget : ∀ j u, (ahsCells ((List.range len).map L))[j]? = some u → W.cell? (a.add j) = some u := by
      intro j u hu
      have hjl : j < 2 * len := by
        have := (List.getElem?_eq_some_iff.1 hu).1
        rw [ahsCells_len] at this
        simpa using this
      have hk : ((List.range len).map L)[j / 2]? = some (L (j / 2)) := by
        rw [List.getElem?_map, List.getElem?_range (by omega)]; rfl
      obtain ⟨g0, g1⟩ := ahsCells_at _ _ _ hk
      obtain ⟨c0, c1, _, _⟩ := hi (j / 2) (by omega)
      obtain ⟨l0, l1, _, _⟩ := hL (j / 2) (by omega)
      rcases Nat.mod_two_eq_zero_or_one j with h2 | h2
      · have e : j = 2 * (j / 2) := by omega
        rw [e, g0] at hu
        rw [e, Nat.mul_comm, c0, l0]
        exact hu
      · have e : j = 2 * (j / 2) + 1 := by omega
        rw [e, g1] at hu
        rw [e, Nat.mul_comm, c1, l1]
        exact hu
    refine ⟨(List.range len).map L, _, hc, ⟨by rw [ahsCells_len]; omega, some a, cap, ?_, ?_, ?_, ?_⟩, ?_, ?_⟩
    · simp
    · simpa using hl
    · exact hmx
    · intro hpos
      have hpos' : 0 < len := by simpa using hpos
      have c00 := (hi 0 (by omega)).1
      have e0 : a.add (0 * 2) = a := by simp [Addr.add]
      rw [e0] at c00
      have hsp := World.cell?_spot c00
      obtain ⟨ab, ao, asp⟩ := a
      simp only at hsp
      subst hsp
      refine ⟨ab, ao, rfl, ?_, fun j u hu => by rw [← Addr.add_lit]; exact hget j u hu⟩
      simp only [World.cell?] at c00
      by_cases hlt : ab < W.heap.size
      · exact hlt
      · rw [Array.getElem?_eq_none (by omega)] at c00
        simp at c00
    · intro q hq
      obtain ⟨i, hi', rfl⟩ := List.mem_map.1 hq
      exact bounds_i64 (hL i (List.mem_range.1 hi')).2.2.2
    · intro q hq
      obtain ⟨i, hi', rfl⟩ := List.mem_map.1 hq
      have hd1 := (hL i (List.mem_range.1 hi')).2.2.1
      have hd' : x.1 = .slice ((List.range len).map fun i => .agg [D0 i, D1 i]) ((List.range (m - len)).map fun j => .agg [D0 (len + j), D1 (len + j)]) := congrArg Prod.fst hx
      refine str_size rfl (hw _ ?_)
      rw [hd']
      simp only [DataW.weights, Tryz.underlying39, List.mem_cons, List.mem_append]
      refine Or.inr (Or.inl (weightsAll_mem' (List.mem_map.2 ⟨i, hi', rfl⟩) _ ?_))
      rw [hd1]
      simp [DataW.weights, DataW.weightsEach, Tryz.underlying157]
set_option maxRecDepth 100000 in
theorem head_cells {H : Type} {enc : TypeId × Value → H} {W : World} {base : Nat} {spare : Nat → Bool} {held : Bool} {fuel : Nat} {cs : List Value} {x : DataW H × List MemPlace}
    (hf : DataW.trod enc Tryz.prog W base spare held fuel 38 cs = some x) :
    ∃ (op : Int) (now : Bool) (fl : Int) (l : List Nat) (u : Value), cs = [.int .i64 op, .bool now, .int .i64 fl, u] ∧ (-9223372036854775808 ≤ op ∧ op ≤ 9223372036854775807) ∧ (-9223372036854775808 ≤ fl ∧ fl ≤ 9223372036854775807) ∧
      SRd W u 1 l.length (l.map u64V) ∧ (∀ x ∈ l, x < 18446744073709551616) := by
  obtain ⟨xs, n, _, _, hcs, hlen, hfs⟩ := DataW.trod_struct Tryz.underlying38 hf
  have hz : cs.length = 4 := hcs.trans (by kernel_rfl)
  obtain ⟨c0, c1, c2, c3, rfl⟩ : ∃ c0 c1 c2 c3, cs = [c0, c1, c2, c3] := by
    match cs, hz with
    | [a, b, c, d], _ => exact ⟨a, b, c, d, rfl⟩
  obtain ⟨y0, y1, y2, y3, rfl⟩ : ∃ y0 y1 y2 y3, xs = [y0, y1, y2, y3] := by
    match xs, hlen with
    | [a, b, c, d], _ => exact ⟨a, b, c, d, rfl⟩
  have k3 : Tryz.prog.cellsOf 3 = 1 := by kernel_rfl
  have k4 : Tryz.prog.cellsOf 4 = 1 := by kernel_rfl
  have k5 : Tryz.prog.cellsOf 36 = 1 := by kernel_rfl
  have h0 := hfs 0 _ rfl
  have h1 := hfs 1 _ rfl
  have h2 := hfs 2 _ rfl
  have h3 := hfs 3 _ rfl
  obtain ⟨s0, e0, _, w0⟩ := DataW.trod_int Tryz.underlying3 h0
  obtain ⟨s1, e1, _⟩ := DataW.trod_bool Tryz.underlying4 h1
  obtain ⟨s2, e2, _, w2⟩ := DataW.trod_int Tryz.underlying3 h2
  change List.take (Tryz.prog.cellsOf 3) [c0, c1, c2, c3] = _ at e0
  change List.take (Tryz.prog.cellsOf 4) [c1, c2, c3] = _ at e1
  change List.take (Tryz.prog.cellsOf 3) [c2, c3] = _ at e2
  rw [k3] at e0 e2
  rw [k4] at e1
  obtain rfl : c0 = .int .i64 s0 := by simpa using e0
  obtain rfl : c1 = .bool s1 := by simpa using e1
  obtain rfl : c2 = .int .i64 s2 := by simpa using e2
  rcases open_ints Tryz.underlying36 Tryz.underlying49 (by kernel_rfl) h3 with ⟨hc, hx⟩ | ⟨a, len', cap', zs, hc, hb, hl, hmx, hzl, hx, hi, hw⟩
  · change List.take (Tryz.prog.cellsOf 36) [c3] = _ at hc
    rw [k5] at hc
    obtain rfl : c3 = .slice none 0 0 := by simpa using hc
    exact ⟨s0, s1, s2, [], _, rfl, bounds_i64 w0, bounds_i64 w2, ⟨rfl, none, 0, rfl, Nat.le_refl _, by unfold maxLen; omega, fun h => absurd h (Nat.lt_irrefl _)⟩, fun q hq => (List.not_mem_nil hq).elim⟩
  · change List.take (Tryz.prog.cellsOf 36) [c3] = _ at hc
    rw [k5] at hc
    obtain rfl : c3 = .slice (some a) len' cap' := by simpa using hc
    have hlz : len' ≤ zs.length := by rw [hzl]; split <;> omega
    have hlen : ((zs.take len').map Int.toNat).length = len' := by rw [List.length_map, List.length_take]; omega
    refine ⟨s0, s1, s2, (zs.take len').map Int.toNat, _, rfl, bounds_i64 w0, bounds_i64 w2, ⟨by rw [List.length_map]; omega, some a, cap', by rw [hlen], by omega, hmx, fun hpos => ?_⟩, fun x hx => ?_⟩
    · have c00 := hi 0 (by omega)
      have e0 : a.add 0 = a := by simp [Addr.add]
      rw [e0] at c00
      have hsp := World.cell?_spot c00
      obtain ⟨ab, ao, asp⟩ := a
      simp only at hsp
      subst hsp
      refine ⟨ab, ao, rfl, ?_, fun j u hu => ?_⟩
      · simp only [World.cell?] at c00
        by_cases hlt : ab < W.heap.size
        · exact hlt
        · rw [Array.getElem?_eq_none (by omega)] at c00
          simp at c00
      · have hj : j < len' := by
          have := (List.getElem?_eq_some_iff.1 hu).1
          rw [List.length_map, hlen] at this
          exact this
        have hz0 := (u64_wf (hw _ (List.getElem_mem (show j < zs.length by omega)))).1
        rw [← Addr.add_lit, hi j (by omega), ← hu, List.map_map, List.getElem?_map, List.getElem?_take_of_lt hj, List.getElem?_eq_getElem (by omega), List.getD_eq_getElem?_getD, List.getElem?_eq_getElem (by omega)]
        simp only [Option.getD_some, Option.map_some, Function.comp, u64V, Int.toNat_of_nonneg hz0]
    · obtain ⟨z, hz, rfl⟩ := List.mem_map.1 hx
      have := u64_wf (hw z (List.mem_of_mem_take hz))
      omega
set_option maxRecDepth 100000 in
theorem open_pdu {H : Type} {enc : TypeId × Value → H} {W : World} {base : Nat} {spare : Nat → Bool} {held : Bool} {v : Value} {d : DataW H} {p : List MemPlace} {ts : List TypeId} {ds : List (DataW H)} {j : Nat} {b0 : Nat}
    (hv : Value.okWide Tryz.prog W .any b0 41 v) (h : DataW.Trod enc Tryz.prog W base spare held 41 v d p)
    (hsz : (DataW.weightsEach Tryz.prog ts ds).all (· ≤ reachBytes) = true) (ht : ts[j]? = some 41) (hd : ds[j]? = some d) :
    ∃ (op : Int) (now : Bool) (fl : Int) (l : List Nat) (u : Value) (a : AhsL) (ua : Value) (s : ByteArray), v = .agg #[.int .i64 op, .bool now, .int .i64 fl, u, ua, .string s] ∧ (-9223372036854775808 ≤ op ∧ op ≤ 9223372036854775807) ∧ (-9223372036854775808 ≤ fl ∧ fl ≤ 9223372036854775807) ∧
      SRd W u 1 l.length (l.map u64V) ∧ (∀ x ∈ l, x < 18446744073709551616) ∧ SRd W ua 2 a.length (ahsCells a) ∧ (∀ q ∈ a, -9223372036854775808 ≤ q.1 ∧ q.1 ≤ 9223372036854775807) ∧ (∀ q ∈ a, q.2.size ≤ 140737488351232) ∧ s.size ≤ 140737488351232 := by
  obtain ⟨cs, rfl, hcs⟩ := okWide_struct Tryz.underlying41 hv
  obtain ⟨fuel, hf⟩ := h
  obtain ⟨xs, n, _, hx, _, hlen, hfs⟩ := DataW.trod_struct Tryz.underlying41 hf
  have hz : cs.size = 6 := hcs.trans (by kernel_rfl)
  obtain ⟨c0, c1, c2, c3, c4, c5, rfl⟩ : ∃ c0 c1 c2 c3 c4 c5, cs = #[c0, c1, c2, c3, c4, c5] := by
    match cs, hz with
    | ⟨[a, b, c, d, e, f]⟩, _ => exact ⟨a, b, c, d, e, f, rfl⟩
  obtain ⟨y0, y1, y2, rfl⟩ : ∃ y0 y1 y2, xs = [y0, y1, y2] := by
    match xs, hlen with
    | [a, b, c], _ => exact ⟨a, b, c, rfl⟩
  have k1 : Tryz.prog.cellsOf 38 = 4 := by kernel_rfl
  have k2 : Tryz.prog.cellsOf 39 = 1 := by kernel_rfl
  have k3 : Tryz.prog.cellsOf 9 = 1 := by kernel_rfl
  have h0 := hfs 0 _ rfl
  have h1 := hfs 1 _ rfl
  have h2 := hfs 2 _ rfl
  have hd' : d = .agg [y0.1, y1.1, y2.1] := congrArg Prod.fst hx
  rw [hd'] at hd
  have hwt : ∀ n, n ∈ y1.1.weights Tryz.prog 39 ∨ n ∈ y2.1.weights Tryz.prog 9 → n ≤ reachBytes := by
    intro n hn
    refine of_decide_eq_true (List.all_eq_true.1 hsz _ (DataW.weights_mem_each ht hd _ ?_))
    simp only [DataW.weights, Tryz.underlying41]
    simp only [DataW.weightsEach, List.mem_append, List.map_cons, List.map_nil, List.append_nil]
    exact Or.inr hn
  obtain ⟨op, now, fl, l, u, e0, b1, b2, b3, b4⟩ := head_cells h0
  obtain ⟨a, ua, e1, a1, a2, a3⟩ := ahs_cells h1 (fun n hn => hwt n (Or.inl hn))
  obtain ⟨s, e2, x2, _⟩ := DataW.trod_string Tryz.underlying9 h2
  change List.take (Tryz.prog.cellsOf 38) [c0, c1, c2, c3, c4, c5] = _ at e0
  change List.take (Tryz.prog.cellsOf 39) [c4, c5] = _ at e1
  change List.take (Tryz.prog.cellsOf 9) [c5] = _ at e2
  rw [k1] at e0
  rw [k2] at e1
  rw [k3] at e2
  simp only [List.take_succ_cons, List.take_zero, List.cons.injEq, and_true] at e0 e1 e2
  obtain ⟨rfl, rfl, rfl, rfl⟩ := e0
  obtain rfl := e1
  obtain rfl := e2
  refine ⟨op, now, fl, l, c3, a, c4, s, rfl, b1, b2, b3, b4, a1, a2, a3, str_size rfl (hwt _ (Or.inr ?_))⟩
  have x2' : y2.1 = .lit (.string s.data.toList) := by
    have := congrArg Prod.fst x2
    simpa using this
  rw [x2']
  simp [DataW.weights]
end Go.Proofs.YtamlepacljjpiaaGreatDoor

/- An argument that is a slice of PDUs: read as a list. -/
namespace Go.Proofs.YtamlepacljjpiaaGreatDoor
open Go.ChangeShapes Go.WideShapes Go.ChangeAt Go.RowKit Go.Deep
set_option linter.unusedVariables false
/- a PDU as an argument has it -/
structure PD where
  op : Int
  now : Bool
  fl : Int
  vals : List Nat
  al : AhsL
  data : ByteArray
/- where its two slices lie -/
structure PdPart where
  u : Value
  a : Value
instance : Inhabited PD := ⟨⟨0, false, 0, [], [], ⟨#[]⟩⟩⟩
instance : Inhabited PdPart := ⟨⟨.nilIface, .nilIface⟩⟩
def pdC (x : PD × PdPart) : List Value := [.int .i64 x.1.op, .bool x.1.now, .int .i64 x.1.fl, x.2.u, x.2.a, .string x.1.data]
def PdOk (W : World) (x : PD × PdPart) : Prop := (-9223372036854775808 ≤ x.1.op ∧ x.1.op ≤ 9223372036854775807) ∧ (-9223372036854775808 ≤ x.1.fl ∧ x.1.fl ≤ 9223372036854775807) ∧
  SRd W x.2.u 1 x.1.vals.length (x.1.vals.map u64V) ∧ (∀ y ∈ x.1.vals, y < 18446744073709551616) ∧ SRd W x.2.a 2 x.1.al.length (ahsCells x.1.al) ∧ (∀ q ∈ x.1.al, -9223372036854775808 ≤ q.1 ∧ q.1 ≤ 9223372036854775807) ∧ (∀ q ∈ x.1.al, q.2.size ≤ 140737488351232) ∧ x.1.data.size ≤ 140737488351232
theorem PdOk.on {w w' : World} {x : PD × PdPart} (h : PdOk w x) (hb : Below w.heap.size w w') : PdOk w' x := ⟨h.1, h.2.1, h.2.2.1.on hb, h.2.2.2.1, h.2.2.2.2.1.on hb, h.2.2.2.2.2⟩
/- a slice of PDUs that reads as this list -/
def PdsRd (W : World) (v : Value) (L : List (PD × PdPart)) : Prop := SRd W v 6 L.length (L.flatMap pdC) ∧ ∀ x ∈ L, PdOk W x
theorem PdsRd.on {w w' : World} {v : Value} {L : List (PD × PdPart)} (h : PdsRd w v L) (hb : Below w.heap.size w w') : PdsRd w' v L := ⟨h.1.on hb, fun x hx => (h.2 x hx).on hb⟩
theorem pdC_len (L : List (PD × PdPart)) : (L.flatMap pdC).length = L.length * 6 := by
  induction L with
  | nil => rfl
  | cons x L ih =>
    rw [List.flatMap_cons, List.length_append, ih, List.length_cons]
    have : (pdC x).length = 6 := rfl
    omega
theorem pdC_at : ∀ (L : List (PD × PdPart)) (k j : Nat) (x : PD × PdPart), L[k]? = some x → j < 6 → (L.flatMap pdC)[k * 6 + j]? = (pdC x)[j]?
  | [], k, j, x, h, hj => by simp at h
  | y :: L, 0, j, x, h, hj => by
    simp only [List.getElem?_cons_zero, Option.some.injEq] at h
    subst h
    rw [List.flatMap_cons, Nat.zero_mul, Nat.zero_add, List.getElem?_append_left (by show j < 6; exact hj)]
  | y :: L, k + 1, j, x, h, hj => by
    rw [List.flatMap_cons, List.getElem?_append_right (by show 6 ≤ (k + 1) * 6 + j; omega)]
    have e : (k + 1) * 6 + j - (pdC y).length = k * 6 + j := by show (k + 1) * 6 + j - 6 = _; omega
    rw [e]
    exact pdC_at L k j x (by simpa using h) hj
theorem PdsRd.pdu {w : World} {v : Value} {L : List (PD × PdPart)} {k : Nat} {x : PD × PdPart} (h : SRd w v 6 L.length (L.flatMap pdC)) (hx : L[k]? = some x) : ∃ b o cap, v = .slice (some ⟨b, o, none⟩) L.length cap ∧ b < w.heap.size ∧
    w.cell? ⟨b, o + k * 6, none⟩ = some (.int .i64 x.1.op) ∧ w.cell? ⟨b, o + k * 6 + 1, none⟩ = some (.bool x.1.now) ∧ w.cell? ⟨b, o + k * 6 + 2, none⟩ = some (.int .i64 x.1.fl) ∧ w.cell? ⟨b, o + k * 6 + 3, none⟩ = some x.2.u ∧
    w.cell? ⟨b, o + k * 6 + 4, none⟩ = some x.2.a ∧ w.cell? ⟨b, o + k * 6 + 5, none⟩ = some (.string x.1.data) := by
  have hk : k < L.length := (List.getElem?_eq_some_iff.1 hx).1
  obtain ⟨h1, A, cap, hv, h2, h3, h4⟩ := h
  obtain ⟨b, o, rfl, hb, hc⟩ := h4 (by omega)
  have e : ∀ j u, j < 6 → (pdC x)[j]? = some u → w.cell? ⟨b, o + (k * 6 + j), none⟩ = some u := fun j u hj hu => hc _ _ ((pdC_at L k j x hx hj).trans hu)
  exact ⟨b, o, cap, hv, hb, e 0 _ (by omega) rfl, e 1 _ (by omega) rfl, e 2 _ (by omega) rfl, e 3 _ (by omega) rfl, e 4 _ (by omega) rfl, e 5 _ (by omega) rfl⟩
set_option maxRecDepth 100000 in
theorem pdu_cells {H : Type} {enc : TypeId × Value → H} {W : World} {base : Nat} {spare : Nat → Bool} {held : Bool} {fuel : Nat} {cs : List Value} {x : DataW H × List MemPlace}
    (hf : DataW.trod enc Tryz.prog W base spare held fuel 41 cs = some x) (hw : ∀ n ∈ x.1.weights Tryz.prog 41, n ≤ reachBytes) :
    ∃ y : PD × PdPart, cs = pdC y ∧ PdOk W y := by
  obtain ⟨xs, n, _, hx, hcs, hlen, hfs⟩ := DataW.trod_struct Tryz.underlying41 hf
  have hz : cs.length = 6 := hcs.trans (by kernel_rfl)
  obtain ⟨c0, c1, c2, c3, c4, c5, rfl⟩ : ∃ c0 c1 c2 c3 c4 c5, cs = [c0, c1, c2, c3, c4, c5] := by
    match cs, hz with
    | [a, b, c, d, e, f], _ => exact ⟨a, b, c, d, e, f, rfl⟩
  obtain ⟨y0, y1, y2, rfl⟩ : ∃ y0 y1 y2, xs = [y0, y1, y2] := by
    match xs, hlen with
    | [a, b, c], _ => exact ⟨a, b, c, rfl⟩
  have k1 : Tryz.prog.cellsOf 38 = 4 := by kernel_rfl
  have k2 : Tryz.prog.cellsOf 39 = 1 := by kernel_rfl
  have k3 : Tryz.prog.cellsOf 9 = 1 := by kernel_rfl
  have h0 := hfs 0 _ rfl
  have h1 := hfs 1 _ rfl
  have h2 := hfs 2 _ rfl
  have hd' : x.1 = .agg [y0.1, y1.1, y2.1] := congrArg Prod.fst hx
  have hwt : ∀ n, n ∈ y1.1.weights Tryz.prog 39 ∨ n ∈ y2.1.weights Tryz.prog 9 → n ≤ reachBytes := by
    intro n hn
    refine hw n ?_
    rw [hd']
    simp only [DataW.weights, Tryz.underlying41]
    simp only [DataW.weightsEach, List.mem_append, List.map_cons, List.map_nil, List.append_nil]
    exact Or.inr hn
  obtain ⟨op, now, fl, l, u, e0, b1, b2, b3, b4⟩ := head_cells h0
  obtain ⟨a, ua, e1, a1, a2, a3⟩ := ahs_cells h1 (fun n hn => hwt n (Or.inl hn))
  obtain ⟨s, e2, x2, _⟩ := DataW.trod_string Tryz.underlying9 h2
  change List.take (Tryz.prog.cellsOf 38) [c0, c1, c2, c3, c4, c5] = _ at e0
  change List.take (Tryz.prog.cellsOf 39) [c4, c5] = _ at e1
  change List.take (Tryz.prog.cellsOf 9) [c5] = _ at e2
  rw [k1] at e0
  rw [k2] at e1
  rw [k3] at e2
  simp only [List.take_succ_cons, List.take_zero, List.cons.injEq, and_true] at e0 e1 e2
  obtain ⟨rfl, rfl, rfl, rfl⟩ := e0
  obtain rfl := e1
  obtain rfl := e2
  refine ⟨(⟨op, now, fl, l, a, s⟩, ⟨c3, c4⟩), rfl, b1, b2, b3, b4, a1, a2, a3, str_size rfl (hwt _ (Or.inr ?_))⟩
  have x2' : y2.1 = .lit (.string s.data.toList) := by
    have := congrArg Prod.fst x2
    simpa using this
  rw [x2']
  simp [DataW.weights]
set_option maxRecDepth 100000 in
theorem open_pdus {H : Type} {enc : TypeId × Value → H} {W : World} {base : Nat} {spare : Nat → Bool} {held : Bool} {v : Value} {d : DataW H} {p : List MemPlace} {ts : List TypeId} {ds : List (DataW H)} {j : Nat} {b0 : Nat}
    (hv : Value.okWide Tryz.prog W .any b0 30 v) (h : DataW.Trod enc Tryz.prog W base spare held 30 v d p)
    (hsz : (DataW.weightsEach Tryz.prog ts ds).all (· ≤ reachBytes) = true) (ht : ts[j]? = some 30) (hd : ds[j]? = some d) : ∃ L : List (PD × PdPart), PdsRd W v L := by
  obtain ⟨a0, len, cap, rfl⟩ := okWide_slice Tryz.underlying30 hv
  obtain ⟨fuel, hf⟩ := h
  have k6 : Tryz.prog.cellsOf 41 = 6 := by kernel_rfl
  rcases open_slice Tryz.underlying30 hf with ⟨hc, hx⟩ | ⟨a, len', cap', m, n, D, Pl, hc, hb, hl, hmx, hmm, hx, hi⟩
  · cases hc
    exact ⟨[], ⟨rfl, none, 0, rfl, Nat.le_refl _, by unfold maxLen; omega, fun h => absurd h (Nat.lt_irrefl _)⟩, fun x hx => by cases hx⟩
  · cases hc
    have hlm : len ≤ m := by rw [hmm]; split <;> omega
    have hx' : d = .slice ((List.range len).map D) ((List.range (m - len)).map fun j => D (len + j)) := congrArg Prod.fst hx
    have hval : ∀ i, i < len → ∃ y : PD × PdPart, W.cells? base (a.add (i * 6)) 6 = some (pdC y) ∧ PdOk W y := by
      intro i hi'
      obtain ⟨cs, h1, h2⟩ := hi i (by omega)
      rw [k6] at h1
      obtain ⟨y, rfl, hy⟩ := pdu_cells h2 (fun n hn => by
        rw [hx'] at hd
        refine of_decide_eq_true (List.all_eq_true.1 hsz _ (DataW.weights_mem_each ht hd _ ?_))
        simp only [DataW.weights, Tryz.underlying30, List.mem_cons, List.mem_append]
        exact Or.inr (Or.inl (weightsAll_mem' (List.mem_map.2 ⟨i, List.mem_range.2 hi', rfl⟩) _ hn)))
      exact ⟨y, h1, hy⟩
    obtain ⟨L, hL⟩ := choose_lt hval
    have hlen : ((List.range len).map L).length = len := by simp
    have hget : ∀ j u, (((List.range len).map L).flatMap pdC)[j]? = some u → W.cell? (a.add j) = some u := by
      intro j u hu
      have hjl : j < len * 6 := by
        have := (List.getElem?_eq_some_iff.1 hu).1
        rw [pdC_len, hlen] at this
        exact this
      have hk : ((List.range len).map L)[j / 6]? = some (L (j / 6)) := by
        rw [List.getElem?_map, List.getElem?_range (by omega)]; rfl
      have hp := pdC_at _ (j / 6) (j % 6) _ hk (by omega)
      rw [show j / 6 * 6 + j % 6 = j by omega, hu] at hp
      obtain ⟨_, _, hcell⟩ := World.cells?_some (hL (j / 6) (by omega)).1
      have := hcell (j % 6) (by omega)
      rw [Go.Deep.add_add, show j / 6 * 6 + j % 6 = j by omega] at this
      rw [this, ← hp]
    refine ⟨(List.range len).map L, ⟨by rw [pdC_len], some a, cap, by rw [hlen], by rw [hlen]; exact hl, hmx, fun hpos => ?_⟩, fun x hx => ?_⟩
    · rw [hlen] at hpos
      have c00 := hget 0 (.int .i64 (L 0).1.op) (by
        have hk : ((List.range len).map L)[0]? = some (L 0) := by rw [List.getElem?_map, List.getElem?_range hpos]; rfl
        exact pdC_at _ 0 0 _ hk (by omega))
      have e0 : a.add 0 = a := by simp [Addr.add]
      rw [e0] at c00
      have hsp := World.cell?_spot c00
      obtain ⟨ab, ao, asp⟩ := a
      simp only at hsp
      subst hsp
      refine ⟨ab, ao, rfl, ?_, fun j u hu => by rw [← Addr.add_lit]; exact hget j u hu⟩
      simp only [World.cell?] at c00
      by_cases hlt : ab < W.heap.size
      · exact hlt
      · rw [Array.getElem?_eq_none (by omega)] at c00
        simp at c00
    · obtain ⟨i, hi', rfl⟩ := List.mem_map.1 hx
      exact (hL i (List.mem_range.1 hi')).2
end Go.Proofs.YtamlepacljjpiaaGreatDoor
