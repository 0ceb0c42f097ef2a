/- An argument that is a head. -/
import Derived.Test.YtehellmpghfopaaGreatDoorHeadRight
import Derived.Test.YtehellmpghfopaaGreatDoorShell
import Derived.ChangeSlices
namespace Go.Proofs.YtehellmpghfopaaGreatDoor
open Go.ChangeShapes Go.WideShapes Go.ChangeAt Go.RowKit
set_option linter.unusedVariables false
theorem u64_wf {n : Int} (h : (Lit.int .u64 n).wf = true) : 0 ≤ n ∧ n < 18446744073709551616 := by
  simp [Lit.wf, IntKind.min, IntKind.max, IntKind.signed, IntKind.bits] at h
  omega
set_option maxRecDepth 100000 in
theorem open_head {H : Type} {enc : TypeId × Value → H} {W : World} {base : Nat} {spare : Nat → Bool} {held : Bool} {v : Value} {d : DataW H} {p : List MemPlace} {b0 : Nat}
    (hv : Value.okWide Tryz.prog W .any b0 24 v) (h : DataW.Trod enc Tryz.prog W base spare held 24 v d p) :
    ∃ (op : Int) (now : Bool) (fl : Int) (l : List Nat) (u : Value), v = .agg #[.int .i64 op, .bool now, .int .i64 fl, u] ∧ (-9223372036854775808 ≤ op ∧ op ≤ 9223372036854775807) ∧ (-9223372036854775808 ≤ fl ∧ fl ≤ 9223372036854775807) ∧
      SRd W u 1 l.length (l.map u64V) ∧ (∀ x ∈ l, x < 18446744073709551616) := by
  obtain ⟨cs, rfl, hcs⟩ := okWide_struct Tryz.underlying24 hv
  obtain ⟨fuel, hf⟩ := h
  obtain ⟨xs, n, _, _, _, hlen, hfs⟩ := DataW.trod_struct Tryz.underlying24 hf
  have hz : cs.size = 4 := hcs.trans (by kernel_rfl)
  obtain ⟨c0, c1, c2, c3, rfl⟩ : ∃ c0 c1 c2 c3, cs = #[c0, c1, c2, c3] := by
    match cs, hz with
    | ⟨[a, b, c, d]⟩, _ => exact ⟨a, b, c, d, rfl⟩
  obtain ⟨y0, y1, y2, y3, rfl⟩ : ∃ y0 y1 y2 y3, xs = [y0, y1, y2, y3] := by
    match xs, hlen with
    | [a, b, c, d], _ => exact ⟨a, b, c, d, rfl⟩
  have k3 : Tryz.prog.cellsOf 3 = 1 := by kernel_rfl
  have k4 : Tryz.prog.cellsOf 4 = 1 := by kernel_rfl
  have k5 : Tryz.prog.cellsOf 22 = 1 := by kernel_rfl
  have h0 := hfs 0 _ rfl
  have h1 := hfs 1 _ rfl
  have h2 := hfs 2 _ rfl
  have h3 := hfs 3 _ rfl
  obtain ⟨s0, e0, _, w0⟩ := DataW.trod_int Tryz.underlying3 h0
  obtain ⟨s1, e1, _⟩ := DataW.trod_bool Tryz.underlying4 h1
  obtain ⟨s2, e2, _, w2⟩ := DataW.trod_int Tryz.underlying3 h2
  change List.take (Tryz.prog.cellsOf 3) [c0, c1, c2, c3] = _ at e0
  change List.take (Tryz.prog.cellsOf 4) [c1, c2, c3] = _ at e1
  change List.take (Tryz.prog.cellsOf 3) [c2, c3] = _ at e2
  rw [k3] at e0 e2
  rw [k4] at e1
  obtain rfl : c0 = .int .i64 s0 := by simpa using e0
  obtain rfl : c1 = .bool s1 := by simpa using e1
  obtain rfl : c2 = .int .i64 s2 := by simpa using e2
  rcases open_ints Tryz.underlying22 Tryz.underlying86 (by kernel_rfl) h3 with ⟨hc, hx⟩ | ⟨a, len', cap', zs, hc, hb, hl, hmx, hzl, hx, hi, hw⟩
  · change List.take (Tryz.prog.cellsOf 22) [c3] = _ at hc
    rw [k5] at hc
    obtain rfl : c3 = .slice none 0 0 := by simpa using hc
    exact ⟨s0, s1, s2, [], _, rfl, bounds_i64 w0, bounds_i64 w2, ⟨rfl, none, 0, rfl, Nat.le_refl _, by unfold maxLen; omega, fun h => absurd h (Nat.lt_irrefl _)⟩, fun q hq => (List.not_mem_nil hq).elim⟩
  · change List.take (Tryz.prog.cellsOf 22) [c3] = _ at hc
    rw [k5] at hc
    obtain rfl : c3 = .slice (some a) len' cap' := by simpa using hc
    have hlz : len' ≤ zs.length := by rw [hzl]; split <;> omega
    have hlen : ((zs.take len').map Int.toNat).length = len' := by rw [List.length_map, List.length_take]; omega
    refine ⟨s0, s1, s2, (zs.take len').map Int.toNat, _, rfl, bounds_i64 w0, bounds_i64 w2, ⟨by rw [List.length_map]; omega, some a, cap', by rw [hlen], by omega, hmx, fun hpos => ?_⟩, fun x hx => ?_⟩
    · have c00 := hi 0 (by omega)
      have e0 : a.add 0 = a := by simp [Addr.add]
      rw [e0] at c00
      have hsp := World.cell?_spot c00
      obtain ⟨ab, ao, asp⟩ := a
      simp only at hsp
      subst hsp
      refine ⟨ab, ao, rfl, ?_, fun j u hu => ?_⟩
      · simp only [World.cell?] at c00
        by_cases hlt : ab < W.heap.size
        · exact hlt
        · rw [Array.getElem?_eq_none (by omega)] at c00
          simp at c00
      · have hj : j < len' := by
          have := (List.getElem?_eq_some_iff.1 hu).1
          rw [List.length_map, hlen] at this
          exact this
        have hz0 := (u64_wf (hw _ (List.getElem_mem (show j < zs.length by omega)))).1
        rw [← Addr.add_lit, hi j (by omega), ← hu, List.map_map, List.getElem?_map, List.getElem?_take_of_lt hj, List.getElem?_eq_getElem (by omega), List.getD_eq_getElem?_getD, List.getElem?_eq_getElem (by omega)]
        simp only [Option.getD_some, Option.map_some, Function.comp, u64V, Int.toNat_of_nonneg hz0]
    · obtain ⟨z, hz, rfl⟩ := List.mem_map.1 hx
      have := u64_wf (hw z (List.mem_of_mem_take hz))
      omega
end Go.Proofs.YtehellmpghfopaaGreatDoor
