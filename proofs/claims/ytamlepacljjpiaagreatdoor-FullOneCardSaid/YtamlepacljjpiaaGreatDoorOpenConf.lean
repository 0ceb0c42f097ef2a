/- An argument that is a conf: read as its plain form. -/
import Derived.Test.YtamlepacljjpiaaGreatDoorTargetP
import Derived.Test.YtamlepacljjpiaaGreatDoorGbase
import Derived.Test.YtamlepacljjpiaaGreatDoorOpenU
import Derived.Test.YtamlepacljjpiaaGreatDoorOpenPairs
import Derived.Deep.SlicePairs
import Derived.Deep.Strs
namespace Go.Proofs.YtamlepacljjpiaaGreatDoor
open Go.ChangeShapes Go.WideShapes Go.ChangeAt Go.RowKit Go.Deep
set_option linter.unusedVariables false
theorem srd_flat {W : World} {a : Addr} {len cap m : Nat} (z : Nat) (hz : 0 < z) (F : Nat → Nat → Value) (xs : List Value) (hxl : xs.length = len * z) (hl : len ≤ cap) (hm : cap ≤ maxLen)
    (hx : ∀ i k, i < len → k < z → xs[i * z + k]? = some (F i k)) (hc : ∀ i k, i < len → k < z → W.cell? (a.add (i * z + k)) = some (F i k)) : SRd W (.slice (some a) len cap) z len xs := by
  refine ⟨hxl, some a, cap, rfl, hl, hm, fun hpos => ?_⟩
  have c00 := hc 0 0 hpos hz
  have e0 : a.add (0 * z + 0) = a := by simp [Addr.add]
  rw [e0] at c00
  have hsp := World.cell?_spot c00
  obtain ⟨ab, ao, asp⟩ := a
  simp only at hsp
  subst hsp
  refine ⟨ab, ao, rfl, ?_, fun j u hu => ?_⟩
  · simp only [World.cell?] at c00
    by_cases hlt : ab < W.heap.size
    · exact hlt
    · rw [Array.getElem?_eq_none (by omega)] at c00
      simp at c00
  · have hj : j < len * z := by
      have := (List.getElem?_eq_some_iff.1 hu).1
      omega
    have h1 : j / z < len := Nat.div_lt_of_lt_mul (by rw [Nat.mul_comm]; exact hj)
    have h2 : j % z < z := Nat.mod_lt _ hz
    have h3 : j / z * z + j % z = j := by rw [Nat.mul_comm]; exact Nat.div_add_mod j z
    have g1 := hx _ _ h1 h2
    have g2 := hc _ _ h1 h2
    rw [h3] at g1 g2
    rw [← Addr.add_lit, g2, ← g1, hu]
theorem slice_bulk {H : Type} (n m : Nat) (f g : Nat → DataW H) : n ≤ Rows.uptoBulk (.slice ((List.range n).map f) ((List.range m).map g)) := by
  have := bulks.slice_le ((List.range n).map f) ((List.range m).map g)
  simp only [List.length_map, List.length_range] at this
  omega
section
variable {H : Type} {enc : TypeId × Value → H} {W : World} {base : Nat} {spare : Nat → Bool} {held : Bool} {fuel : Nat} {cs : List Value} {x : DataW H × List MemPlace}
set_option maxRecDepth 100000 in
theorem strs_cells (hf : DataW.trod enc Tryz.prog W base spare held fuel 22 cs = some x) (hw : ∀ n ∈ x.1.weights Tryz.prog 22, n ≤ reachBytes) :
    ∃ (l : List (List UInt8)) (u : Value), cs = [u] ∧ WRd W u l ∧ (∀ q ∈ l, lsmall q) ∧ l.length * 16 ≤ 140737488351232 ∧ l.length ≤ Rows.uptoBulk x.1 := by
  rcases open_strs Tryz.underlying22 Tryz.underlying9 (by kernel_rfl) hf with ⟨hc, hx⟩ | ⟨a, len, cap, m, Sx, hc, hb, hl, hmx, hmm, hx, hi⟩
  · exact ⟨[], _, hc, WRd.nil W, fun q hq => (List.not_mem_nil hq).elim, by decide, Nat.zero_le _⟩
  · have hlm : len ≤ m := by rw [hmm]; split <;> omega
    have hd' : x.1 = .slice ((List.range len).map fun i => .lit (.string (Sx i).data.toList)) ((List.range (m - len)).map fun j => .lit (.string (Sx (len + j)).data.toList)) := congrArg Prod.fst hx
    have hby : Tryz.prog.bytesOf 9 = 16 := by kernel_rfl
    refine ⟨(List.range len).map fun i => (Sx i).data.toList, _, hc, ?_, ?_, ?_, ?_⟩
    · unfold WRd
      rw [List.length_map, List.length_range]
      refine srd_flat (m := m) 1 (by decide) (fun i _ => .string (Sx i)) _ (by simp) hl hmx (fun i k h1 h2 => ?_) (fun i k h1 h2 => ?_)
      · obtain rfl : k = 0 := by omega
        rw [Nat.mul_one, Nat.add_zero, List.map_map, List.getElem?_map, List.getElem?_range h1]
        show some (strV (Sx i).data.toList) = _
        unfold strV
        rw [← str_of]
      · obtain rfl : k = 0 := by omega
        rw [Nat.mul_one, Nat.add_zero]
        exact (hi i (by omega)).1
    · intro q hq
      obtain ⟨i, hi', rfl⟩ := List.mem_map.1 hq
      unfold lsmall
      rw [len_of]
      refine str_size rfl (hw _ ?_)
      rw [hd']
      simp only [DataW.weights, Tryz.underlying22, List.mem_cons, List.mem_append]
      refine Or.inr (Or.inl (weightsAll_memP (List.mem_map.2 ⟨i, hi', rfl⟩) _ ?_))
      simp [DataW.weights]
    · rw [List.length_map, List.length_range]
      have := hw ((len + (m - len)) * 16) (by
        rw [hd']
        simp only [DataW.weights, Tryz.underlying22, List.length_map, List.length_range, hby]
        exact List.mem_cons_self)
      have hr : reachBytes = 140737488351232 := rfl
      rw [hr] at this
      omega
    · rw [List.length_map, List.length_range, hd']
      exact slice_bulk _ _ _ _
set_option maxRecDepth 100000 in
theorem pairl_cells {t e : TypeId} {f0 f1 : Field} (ht : (Tryz.prog).underlying t = some (.slice e)) (he : (Tryz.prog).underlying e = some (.struct #[f0, f1])) (ce : (Tryz.prog).cellsOf e = 2) (o0 : f0.offset = 0) (o1 : f1.offset = 1) (t0 : f0.type = 9) (t1 : f1.type = 9) (hby : (Tryz.prog).bytesOf e = 32)
    (hf : DataW.trod enc Tryz.prog W base spare held fuel t cs = some x) (hw : ∀ n ∈ x.1.weights Tryz.prog t, n ≤ reachBytes) :
    ∃ (l : PairL) (u : Value), cs = [u] ∧ SRd W u 2 l.length (pairCells l) ∧ (∀ q ∈ l, psmall q) ∧ l.length * 32 ≤ 140737488351232 ∧ l.length ≤ Rows.uptoBulk x.1 := by
  have cS : (Tryz.prog).cellsOf 9 = 1 := by kernel_rfl
  rcases open_slice_pairs ht he ce o0 o1 (by rw [t0]; exact cS) (by rw [t1]; exact cS) hf with ⟨hc, hx⟩ | ⟨a, len, cap, m, n, V0, V1, D0, D1, P0, P1, hc, hb, hl, hmx, hmm, hx, hi⟩
  · exact ⟨[], _, hc, ⟨rfl, none, 0, rfl, Nat.le_refl _, by unfold maxLen; omega, fun h => absurd h (Nat.lt_irrefl _)⟩, fun q hq => (List.not_mem_nil hq).elim, by decide, Nat.zero_le _⟩
  · have hlm : len ≤ m := by rw [hmm]; split <;> omega
    have hval : ∀ i, i < len → ∃ (k s : ByteArray), V0 i = .string k ∧ V1 i = .string s ∧ D0 i = .lit (.string k.data.toList) ∧ D1 i = .lit (.string s.data.toList) := by
      intro i hi'
      obtain ⟨_, _, h0, h1⟩ := hi i (by omega)
      rw [t0] at h0
      rw [t1] at h1
      obtain ⟨k, e0, hx0, _⟩ := DataW.trod_string Tryz.underlying9 h0
      obtain ⟨s, e1, hx1, _⟩ := DataW.trod_string Tryz.underlying9 h1
      exact ⟨k, s, by simpa using e0, by simpa using e1, by simpa using congrArg Prod.fst hx0, by simpa using congrArg Prod.fst hx1⟩
    have hch : ∀ i, ∃ q : ByteArray × ByteArray, i < len → V0 i = .string q.1 ∧ V1 i = .string q.2 ∧ D0 i = .lit (.string q.1.data.toList) ∧ D1 i = .lit (.string q.2.data.toList) := by
      intro i
      by_cases hi' : i < len
      · obtain ⟨k, s, h⟩ := hval i hi'
        exact ⟨(k, s), fun _ => h⟩
      · exact ⟨(⟨#[]⟩, ⟨#[]⟩), fun h => absurd h hi'⟩
    obtain ⟨L, hL⟩ := Classical.axiomOfChoice hch
    have hd' : x.1 = .slice ((List.range len).map fun i => .agg [D0 i, D1 i]) ((List.range (m - len)).map fun j => .agg [D0 (len + j), D1 (len + j)]) := congrArg Prod.fst hx
    have hLl : ((List.range len).map L).length = len := by simp
    refine ⟨(List.range len).map L, _, hc, ?_, ?_, ?_, ?_⟩
    · rw [hLl]
      refine srd_flat (m := m) 2 (by decide) (fun i k => if k = 0 then .string (L i).1 else .string (L i).2) _ (by rw [pairCells_len, hLl]; omega) hl hmx (fun i k h1 h2 => ?_) (fun i k h1 h2 => ?_)
      · have hk := pairCells_at ((List.range len).map L) i (L i) (by rw [List.getElem?_map, List.getElem?_range h1]; rfl)
        rw [Nat.mul_comm]
        rcases (show k = 0 ∨ k = 1 by omega) with rfl | rfl
        · exact hk.1
        · exact hk.2
      · obtain ⟨c0, c1, _, _⟩ := hi i (by omega)
        obtain ⟨l0, l1, _, _⟩ := hL i h1
        rcases (show k = 0 ∨ k = 1 by omega) with rfl | rfl
        · rw [Nat.add_zero, c0, l0]; rfl
        · rw [c1, l1]; rfl
    · intro q hq
      obtain ⟨i, hi', rfl⟩ := List.mem_map.1 hq
      obtain ⟨_, _, d0, d1⟩ := hL i (List.mem_range.1 hi')
      refine ⟨str_size rfl (hw _ ?_), str_size rfl (hw _ ?_)⟩
      all_goals
        rw [hd']
        simp only [DataW.weights, ht, List.mem_cons, List.mem_append]
        refine Or.inr (Or.inl (weightsAll_memP (List.mem_map.2 ⟨i, hi', rfl⟩) _ ?_))
        rw [d0, d1]
        simp [DataW.weights, DataW.weightsEach, he, t0, t1]
    · rw [hLl]
      have := hw ((len + (m - len)) * 32) (by
        rw [hd']
        simp only [DataW.weights, ht, List.length_map, List.length_range, hby]
        exact List.mem_cons_self)
      have hr : reachBytes = 140737488351232 := rfl
      rw [hr] at this
      omega
    · rw [hLl, hd']
      exact slice_bulk _ _ _ _
set_option maxRecDepth 100000 in
theorem portl_cells {t e : TypeId} {f0 f1 : Field} (ht : (Tryz.prog).underlying t = some (.slice e)) (he : (Tryz.prog).underlying e = some (.struct #[f0, f1])) (ce : (Tryz.prog).cellsOf e = 2) (o0 : f0.offset = 0) (o1 : f1.offset = 1) (t0 : f0.type = 9) (t1 : f1.type = 3) (hby : (Tryz.prog).bytesOf e = 24)
    (hf : DataW.trod enc Tryz.prog W base spare held fuel t cs = some x) (hw : ∀ n ∈ x.1.weights Tryz.prog t, n ≤ reachBytes) :
    ∃ (l : PoL) (u : Value), cs = [u] ∧ SRd W u 2 l.length (poCells l) ∧ (∀ q ∈ l, bsmall q.1 ∧ -9223372036854775808 ≤ q.2 ∧ q.2 ≤ 9223372036854775807) ∧ l.length * 24 ≤ 140737488351232 ∧ l.length ≤ Rows.uptoBulk x.1 := by
  have cS : (Tryz.prog).cellsOf 9 = 1 := by kernel_rfl
  have cI : (Tryz.prog).cellsOf 3 = 1 := by kernel_rfl
  rcases open_slice_pairs ht he ce o0 o1 (by rw [t0]; exact cS) (by rw [t1]; exact cI) hf with ⟨hc, hx⟩ | ⟨a, len, cap, m, n, V0, V1, D0, D1, P0, P1, hc, hb, hl, hmx, hmm, hx, hi⟩
  · exact ⟨[], _, hc, ⟨rfl, none, 0, rfl, Nat.le_refl _, by unfold maxLen; omega, fun h => absurd h (Nat.lt_irrefl _)⟩, fun q hq => (List.not_mem_nil hq).elim, by decide, Nat.zero_le _⟩
  · have hlm : len ≤ m := by rw [hmm]; split <;> omega
    have hval : ∀ i, i < len → ∃ (k : ByteArray) (s : Int), V0 i = .string k ∧ V1 i = .int .i64 s ∧ D0 i = .lit (.string k.data.toList) ∧ (Lit.int .i64 s).wf = true := by
      intro i hi'
      obtain ⟨_, _, h0, h1⟩ := hi i (by omega)
      rw [t0] at h0
      rw [t1] at h1
      obtain ⟨k, e0, hx0, _⟩ := DataW.trod_string Tryz.underlying9 h0
      obtain ⟨s, e1, _, hw1⟩ := DataW.trod_int Tryz.underlying3 h1
      exact ⟨k, s, by simpa using e0, by simpa using e1, by simpa using congrArg Prod.fst hx0, hw1⟩
    have hch : ∀ i, ∃ q : ByteArray × Int, i < len → V0 i = .string q.1 ∧ V1 i = .int .i64 q.2 ∧ D0 i = .lit (.string q.1.data.toList) ∧ (Lit.int .i64 q.2).wf = true := by
      intro i
      by_cases hi' : i < len
      · obtain ⟨k, s, h⟩ := hval i hi'
        exact ⟨(k, s), fun _ => h⟩
      · exact ⟨(⟨#[]⟩, 0), fun h => absurd h hi'⟩
    obtain ⟨L, hL⟩ := Classical.axiomOfChoice hch
    have hd' : x.1 = .slice ((List.range len).map fun i => .agg [D0 i, D1 i]) ((List.range (m - len)).map fun j => .agg [D0 (len + j), D1 (len + j)]) := congrArg Prod.fst hx
    have hLl : ((List.range len).map L).length = len := by simp
    refine ⟨(List.range len).map L, _, hc, ?_, ?_, ?_, ?_⟩
    · rw [hLl]
      refine srd_flat (m := m) 2 (by decide) (fun i k => if k = 0 then .string (L i).1 else .int .i64 (L i).2) _ (by rw [poCells_len, hLl]; omega) hl hmx (fun i k h1 h2 => ?_) (fun i k h1 h2 => ?_)
      · have hk := poCells_at ((List.range len).map L) i (L i) (by rw [List.getElem?_map, List.getElem?_range h1]; rfl)
        rw [Nat.mul_comm]
        rcases (show k = 0 ∨ k = 1 by omega) with rfl | rfl
        · exact hk.1
        · exact hk.2
      · obtain ⟨c0, c1, _, _⟩ := hi i (by omega)
        obtain ⟨l0, l1, _, _⟩ := hL i h1
        rcases (show k = 0 ∨ k = 1 by omega) with rfl | rfl
        · rw [Nat.add_zero, c0, l0]; rfl
        · rw [c1, l1]; rfl
    · intro q hq
      obtain ⟨i, hi', rfl⟩ := List.mem_map.1 hq
      obtain ⟨_, _, d0, d1⟩ := hL i (List.mem_range.1 hi')
      refine ⟨str_size rfl (hw _ ?_), bounds_i64 d1⟩
      rw [hd']
      simp only [DataW.weights, ht, List.mem_cons, List.mem_append]
      refine Or.inr (Or.inl (weightsAll_memP (List.mem_map.2 ⟨i, hi', rfl⟩) _ ?_))
      rw [d0]
      simp [DataW.weights, DataW.weightsEach, he, t0, t1]
    · rw [hLl]
      have := hw ((len + (m - len)) * 24) (by
        rw [hd']
        simp only [DataW.weights, ht, List.length_map, List.length_range, hby]
        exact List.mem_cons_self)
      have hr : reachBytes = 140737488351232 := rfl
      rw [hr] at this
      omega
    · rw [hLl, hd']
      exact slice_bulk _ _ _ _
set_option maxRecDepth 100000 in
set_option maxHeartbeats 1000000 in
theorem open_conf {v : Value} {d : DataW H} {p : List MemPlace} {ts : List TypeId} {ds : List (DataW H)} {j : Nat} {b0 : Nat}
    (hv : Value.okWide Tryz.prog W .any b0 29 v) (h : DataW.Trod enc Tryz.prog W base spare held 29 v d p)
    (hsz : (DataW.weightsEach Tryz.prog ts ds).all (· ≤ reachBytes) = true) (ht : ts[j]? = some 29) (hd : ds[j]? = some d) :
    ∃ (c : Cfg) (tv pv uv ov : Value), v = cfgV tv pv uv ov c ∧ CfgAt W tv pv uv ov c ∧ c.Small ∧ (c.tg.length * 16 ≤ 140737488351232 ∧ c.po.length * 24 ≤ 140737488351232 ∧ c.us.length * 32 ≤ 140737488351232 ∧ c.own.length * 32 ≤ 140737488351232) ∧ c.tg.length + c.po.length + c.us.length ≤ Rows.uptoBulk d := by
  obtain ⟨cs, rfl, hcs⟩ := okWide_struct Tryz.underlying29 hv
  obtain ⟨fuel, hf⟩ := h
  obtain ⟨xs, n, _, hx, _, hlen, hfs⟩ := DataW.trod_struct Tryz.underlying29 hf
  have hz : cs.size = 7 := hcs.trans (by kernel_rfl)
  obtain ⟨c0, c1, c2, c3, c4, c5, c6, rfl⟩ : ∃ c0 c1 c2 c3 c4 c5 c6, cs = #[c0, c1, c2, c3, c4, c5, c6] := by
    match cs, hz with
    | ⟨[a, b, c, d, e, f, g]⟩, _ => exact ⟨a, b, c, d, e, f, g, rfl⟩
  obtain ⟨y0, y1, y2, y3, y4, y5, rfl⟩ : ∃ y0 y1 y2 y3 y4 y5, xs = [y0, y1, y2, y3, y4, y5] := by
    match xs, hlen with
    | [a, b, c, d, e, f], _ => exact ⟨a, b, c, d, e, f, rfl⟩
  have k0 : Tryz.prog.cellsOf 22 = 1 := by kernel_rfl
  have k1 : Tryz.prog.cellsOf 23 = 1 := by kernel_rfl
  have k2 : Tryz.prog.cellsOf 24 = 1 := by kernel_rfl
  have k3 : Tryz.prog.cellsOf 26 = 2 := by kernel_rfl
  have k4 : Tryz.prog.cellsOf 3 = 1 := by kernel_rfl
  have k5 : Tryz.prog.cellsOf 27 = 1 := by kernel_rfl
  have h0 := hfs 0 _ rfl
  have h1 := hfs 1 _ rfl
  have h2 := hfs 2 _ rfl
  have h3 := hfs 3 _ rfl
  have h4 := hfs 4 _ rfl
  have h5 := hfs 5 _ rfl
  have hd' : d = .agg [y0.1, y1.1, y2.1, y3.1, y4.1, y5.1] := congrArg Prod.fst hx
  rw [hd'] at hd
  have hwt : ∀ n, n ∈ y0.1.weights Tryz.prog 22 ∨ n ∈ y1.1.weights Tryz.prog 23 ∨ n ∈ y2.1.weights Tryz.prog 24 ∨ n ∈ y3.1.weights Tryz.prog 26 ∨ n ∈ y4.1.weights Tryz.prog 3 ∨ n ∈ y5.1.weights Tryz.prog 27 → n ≤ reachBytes := by
    intro n hn
    refine of_decide_eq_true (List.all_eq_true.1 hsz _ (DataW.weights_mem_each ht hd _ ?_))
    simp only [DataW.weights, Tryz.underlying29]
    simp only [DataW.weightsEach, List.mem_append, List.map_cons, List.map_nil, List.append_nil]
    exact hn
  obtain ⟨l0, u0, e0, a0, s0, z0, b0'⟩ := strs_cells h0 (fun n hn => hwt n (Or.inl hn))
  obtain ⟨l1, u1, e1, a1, s1, z1, b1'⟩ := portl_cells Tryz.underlying23 Tryz.underlying114 (by kernel_rfl) rfl rfl rfl rfl (by kernel_rfl) h1 (fun n hn => hwt n (Or.inr (Or.inl hn)))
  obtain ⟨l2, u2, e2, a2, s2, z2, b2'⟩ := pairl_cells Tryz.underlying24 Tryz.underlying26 (by kernel_rfl) rfl rfl rfl rfl (by kernel_rfl) h2 (fun n hn => hwt n (Or.inr (Or.inr (Or.inl hn))))
  have h3' : DataW.trod enc Tryz.prog W base spare held n 26 [c3, c4] = some y3 := by
    have e : List.take (Tryz.prog.cellsOf 26) [c3, c4, c5, c6] = [c3, c4] := by rw [k3]; rfl
    rw [← e]
    exact h3
  obtain ⟨q0, q1, m3, hx3, hl3, g0, g1⟩ := trod_struct2 Tryz.underlying26 h3'
  obtain ⟨sn, e30, x30, _⟩ := DataW.trod_string Tryz.underlying9 g0
  obtain ⟨ss, e31, x31, _⟩ := DataW.trod_string Tryz.underlying9 g1
  obtain ⟨lim, e4, _, w4⟩ := DataW.trod_int Tryz.underlying3 h4
  obtain ⟨l5, u5, e5, a5, s5, z5, b5'⟩ := pairl_cells Tryz.underlying27 Tryz.underlying62 (by kernel_rfl) rfl rfl rfl rfl (by kernel_rfl) h5 (fun n hn => hwt n (Or.inr (Or.inr (Or.inr (Or.inr (Or.inr hn))))))
  have kS : Tryz.prog.cellsOf 9 = 1 := by kernel_rfl
  change List.take (Tryz.prog.cellsOf 22) [c0, c1, c2, c3, c4, c5, c6] = _ at e0
  change List.take (Tryz.prog.cellsOf 23) [c1, c2, c3, c4, c5, c6] = _ at e1
  change List.take (Tryz.prog.cellsOf 24) [c2, c3, c4, c5, c6] = _ at e2
  change List.take (Tryz.prog.cellsOf 9) [c3, c4] = _ at e30
  change List.take (Tryz.prog.cellsOf 9) [c4] = _ at e31
  change List.take (Tryz.prog.cellsOf 3) [c5, c6] = _ at e4
  change List.take (Tryz.prog.cellsOf 27) [c6] = _ at e5
  rw [k0] at e0
  rw [k1] at e1
  rw [k2] at e2
  rw [kS] at e30 e31
  rw [k4] at e4
  rw [k5] at e5
  simp only [List.take_succ_cons, List.take_zero, List.cons.injEq, and_true] at e0 e1 e2 e30 e31 e4 e5
  subst e0
  subst e1
  subst e2
  subst e5
  obtain rfl : c3 = .string sn := by simpa using e30
  obtain rfl : c4 = .string ss := by simpa using e31
  obtain rfl : c5 = .int .i64 lim := by simpa using e4
  have hy3 : y3.1 = .agg [.lit (.string sn.data.toList), .lit (.string ss.data.toList)] := by
    have := congrArg Prod.fst hx3
    rw [x30, x31] at this
    exact this
  refine ⟨⟨l0, l1, l2, sn, ss, lim, l5⟩, c0, c1, c2, c6, rfl, ⟨a0, a1, a2, a5⟩, ⟨s0, s1, s2, ?_, ?_, bounds_i64 w4, s5⟩, ⟨z0, z1, z2, z5⟩, ?_⟩
  · refine str_size rfl (hwt _ (Or.inr (Or.inr (Or.inr (Or.inl ?_)))))
    rw [hy3]
    simp [DataW.weights, DataW.weightsEach, Tryz.underlying26]
  · refine str_size rfl (hwt _ (Or.inr (Or.inr (Or.inr (Or.inl ?_)))))
    rw [hy3]
    simp [DataW.weights, DataW.weightsEach, Tryz.underlying26]
  · rw [hd']
    simp only [Rows.uptoBulk, Rows.uptoBulkAll]
    omega
end
end Go.Proofs.YtamlepacljjpiaaGreatDoor
