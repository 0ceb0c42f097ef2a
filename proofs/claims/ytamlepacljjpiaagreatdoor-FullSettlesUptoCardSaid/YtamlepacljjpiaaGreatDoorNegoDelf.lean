/- slices.DeleteFunc of pairs, whatever is struck. -/
import Derived.Test.YtamlepacljjpiaaGreatDoorGnego
import Derived.Lib.SliceRun
namespace Go.Proofs.YtamlepacljjpiaaGreatDoor
open Go.ChangeShapes Go.WideShapes Go.ChangeAt Go.RowKit Go.Shelf
set_option linter.unusedVariables false
theorem run_clearN {P : Program} (w : World) (t e ty : TypeId) (z0 z1 : Value) (ht : P.underlying t = some (.slice e)) (hv : (zeroValue e).run P w = .ok (.agg #[z0, z1]) w) (h0 : z0.oneCell' = true) (h1 : z1.oneCell' = true) (b o n c : Nat)
    (hc : ∀ j, j < n * 2 → (w.cell? ⟨b, o + j, none⟩).isSome = true) (hf : ∀ j, j < n * 2 → w.frozen? ⟨b, o + j, none⟩ = false) :
    ∃ zs : List Value, zs.length = n * 2 ∧ (Builtin.clear_ #[t] ty #[.slice (some ⟨b, o, none⟩) n c]).run P w = .ok (.tuple #[]) (w.setCells b o zs) := by
  refine ⟨(Builtin.zeroCells (Value.agg #[z0, z1]).cells n).toList, by simp [Builtin.zeroCells, Value.cells], ?_⟩
  have hlen : (Builtin.zeroCells (Value.agg #[z0, z1]).cells n).toList.length = n * 2 := by simp [Builtin.zeroCells, Value.cells]
  have hone : ∀ v ∈ (Builtin.zeroCells (Value.agg #[z0, z1]).cells n).toList, v.oneCell' = true := by
    intro v hv'
    simp only [Builtin.zeroCells, Value.cells, Array.toList_map, List.mem_map] at hv'
    obtain ⟨i, _, rfl⟩ := hv'
    have h2 : i % (#[z0, z1] : Array Value).size < 2 := Nat.mod_lt _ (show 0 < 2 by decide)
    have h3 : i % (#[z0, z1] : Array Value).size = 0 ∨ i % (#[z0, z1] : Array Value).size = 1 := by omega
    rcases h3 with h3 | h3
    · rw [h3]; exact h0
    · rw [h3]; exact h1
  have hst := run_storeCells_cells (P := P) b o (Builtin.zeroCells (Value.agg #[z0, z1]).cells n).toList 0 w (by rw [hlen]; simpa using hc) (by rw [hlen]; simpa using hf) hone
  simp only [Nat.add_zero] at hst
  rcases n with _ | n
  · have hnil : (Builtin.zeroCells (Value.agg #[z0, z1]).cells 0).toList = [] := List.eq_nil_of_length_eq_zero (by rw [hlen])
    rw [hnil]
    simp [Builtin.clear_, run_underlying ht, World.setCells]
  · simp [Builtin.clear_, run_underlying ht, hv, hst]
theorem setCells_blk {t : TypeId} {g : Nat} : ∀ (zs : List Value) (o : Nat) (w : World) (cs : Array Value), Blk w g t cs → ∃ ds, Blk (w.setCells g o zs) g t ds ∧ ds.size = cs.size ∧ ∀ k, k < o → ds[k]? = cs[k]?
  | [], o, w, cs, h => ⟨cs, h, rfl, fun _ _ => rfl⟩
  | z :: zs, o, w, cs, h => by
    obtain ⟨ds, h1, h2, h3⟩ := setCells_blk zs (o + 1) (w.setCell ⟨g, o, none⟩ z) _ (h.put o z)
    refine ⟨ds, h1, by rw [h2]; simp, fun k hk => ?_⟩
    rw [h3 k (by omega), Array.getElem?_setIfInBounds_ne (by omega)]
theorem grown_below' {a b : World} (row : Option Nat) (h : Below a.heap.size a b) : a.grownBy b row := ⟨h.os, h.tape, h.output, h.size, fun i hi _ => h.block i hi⟩
theorem grown_put' {w : World} {g : Nat} (i : Nat) (u : Value) : w.grownBy (w.setCell ⟨g, i, none⟩ u) (some g) :=
  ⟨rfl, rfl, rfl, by simp, fun k hk hne => Below.heap_setCell _ _ _ _ (by rintro rfl; exact hne rfl)⟩
theorem grown_cells {g : Nat} : ∀ (zs : List Value) (o : Nat) (w : World), w.grownBy (w.setCells g o zs) (some g)
  | [], o, w => ⟨rfl, rfl, rfl, Nat.le_refl _, fun _ _ _ => rfl⟩
  | z :: zs, o, w => World.grownBy.trans (grown_put' o z) (grown_cells zs (o + 1) _)
theorem ORow.blk {w : World} {base g n cap : Nat} {l : PairL} (h : ORow w base (.slice (some ⟨g, 0, none⟩) n cap) l) : n = l.length ∧ ∃ cur, Blk w g 62 cur ∧ base ≤ g ∧ n ≤ cap ∧ cap ≤ maxLen ∧ cur.size = cap * 2 ∧ cur.toList.take (n * 2) = pairCells l := by
  rcases h.2 with ⟨h0, _⟩ | ⟨g', cap', cur, hv, h2, h3, h4, h5, h6, h7⟩
  · cases h0
  · injection hv with e1 e2 e3
    injection e1 with e1
    injection e1 with e1
    subst e1 e2 e3
    exact ⟨rfl, cur, h3, h2, h4, h5, h6, h7⟩
theorem ORow.of_blk {w : World} {base g n cap : Nat} {l : PairL} {cur : Array Value} (hn : n = l.length) (hB : Blk w g 62 cur) (hb : base ≤ g) (h4 : n ≤ cap) (h5 : cap ≤ maxLen) (h6 : cur.size = cap * 2) (h7 : cur.toList.take (n * 2) = pairCells l) : ORow w base (.slice (some ⟨g, 0, none⟩) n cap) l := by
  subst hn
  exact ⟨by rw [pairCells_len]; omega, .inr ⟨g, cap, cur, rfl, hb, hB, h4, h5, h6, h7⟩⟩
theorem pairCells_set : ∀ (m : PairL) (i : Nat) (p : ByteArray × ByteArray), pairCells (m.set i p) = ((pairCells m).set (i * 2) (.string p.1)).set (i * 2 + 1) (.string p.2)
  | [], i, p => by simp [pairCells]
  | q :: m, 0, p => rfl
  | q :: m, i + 1, p => by
    have ih := pairCells_set m i p
    have e : ∀ (m : PairL) (x : ByteArray × ByteArray), pairCells (x :: m) = .string x.1 :: .string x.2 :: pairCells m := fun m x => rfl
    rw [List.set_cons_succ, e, e, ih, show (i + 1) * 2 = i * 2 + 1 + 1 by omega, List.set_cons_succ, List.set_cons_succ, List.set_cons_succ, List.set_cons_succ]
theorem ORow.set {w : World} {base g n cap : Nat} {m : PairL} (h : ORow w base (.slice (some ⟨g, 0, none⟩) n cap) m) (i : Nat) (p : ByteArray × ByteArray) :
    ORow ((w.setCell ⟨g, i * 2, none⟩ (.string p.1)).setCell ⟨g, i * 2 + 1, none⟩ (.string p.2)) base (.slice (some ⟨g, 0, none⟩) n cap) (m.set i p) := by
  obtain ⟨hn, cur, hB, hb, h4, h5, h6, h7⟩ := h.blk
  refine ORow.of_blk (by rw [List.length_set]; exact hn) ((hB.put (i * 2) (.string p.1)).put (i * 2 + 1) (.string p.2)) hb h4 h5 (by simpa using h6) ?_
  rw [Array.toList_setIfInBounds, Array.toList_setIfInBounds, List.take_set, List.take_set, h7, pairCells_set]
theorem idxG_hit {pr : ByteArray × ByteArray → Bool} : ∀ (l : PairL) (k : Nat), (idxG pr l k = -1 ∧ ∀ q ∈ l, pr q = false) ∨ ∃ j q, l[j]? = some q ∧ pr q = true ∧ idxG pr l k = ((k + j : Nat) : Int) ∧ ∀ x ∈ l.take j, pr x = false
  | [], k => .inl ⟨rfl, fun q hq => by cases hq⟩
  | q :: l, k => by
    rw [idxG]
    by_cases h : pr q = true
    · rw [if_pos h]
      exact .inr ⟨0, q, rfl, h, rfl, fun x hx => by simp at hx⟩
    · rw [if_neg h]
      rcases idxG_hit l (k + 1) with ⟨h1, h2⟩ | ⟨j, x, h1, h2, h3, h4⟩
      · refine .inl ⟨h1, fun x hx => ?_⟩
        rcases List.mem_cons.1 hx with rfl | hx
        · simpa using h
        · exact h2 x hx
      · refine .inr ⟨j + 1, x, by simpa using h1, h2, by rw [h3]; congr 1; omega, fun y hy => ?_⟩
        rw [List.take_succ_cons] at hy
        rcases List.mem_cons.1 hy with rfl | hy
        · simpa using h
        · exact h4 y hy
def keepP (pr : ByteArray × ByteArray → Bool) (l : PairL) : PairL := l.filter fun q => !pr q
/- the loop's relation: of the first j the kept ones stand ahead, i of them -/
structure DelI (pr : ByteArray × ByteArray → Bool) (l m : PairL) (i j : Nat) : Prop where
  len : m.length = l.length
  cnt : (keepP pr (l.take j)).length = i
  lt : i < j
  low : m.take i = keepP pr (l.take j)
  high : ∀ t, j ≤ t → m[t]? = l[t]?
theorem DelI.start {pr : ByteArray × ByteArray → Bool} {l : PairL} {j : Nat} {q : ByteArray × ByteArray} (hq : l[j]? = some q) (hp : pr q = true) (ha : ∀ x ∈ l.take j, pr x = false) : DelI pr l l j (j + 1) := by
  have hj := (List.getElem?_eq_some_iff.1 hq).1
  have e : keepP pr (l.take (j + 1)) = l.take j := by
    unfold keepP
    rw [List.take_add_one, hq, List.filter_append]
    have : (l.take j).filter (fun q => !pr q) = l.take j := List.filter_eq_self.2 fun x hx => by rw [ha x hx]; rfl
    rw [this]
    simp [hp]
  exact ⟨rfl, by rw [e, List.length_take]; omega, Nat.lt_succ_self _, e.symm, fun _ _ => rfl⟩
theorem DelI.skip {pr : ByteArray × ByteArray → Bool} {l m : PairL} {i j : Nat} (h : DelI pr l m i j) {q : ByteArray × ByteArray} (hq : l[j]? = some q) (hp : pr q = true) : DelI pr l m i (j + 1) := by
  have e : keepP pr (l.take (j + 1)) = keepP pr (l.take j) := by
    unfold keepP
    rw [List.take_add_one, hq, List.filter_append]
    simp [hp]
  exact ⟨h.len, by rw [e]; exact h.cnt, by have := h.lt; omega, by rw [e]; exact h.low, fun t ht => h.high t (by omega)⟩
theorem DelI.keep {pr : ByteArray × ByteArray → Bool} {l m : PairL} {i j : Nat} (h : DelI pr l m i j) {q : ByteArray × ByteArray} (hq : l[j]? = some q) (hp : pr q = false) : DelI pr l (m.set i q) (i + 1) (j + 1) := by
  have hj := (List.getElem?_eq_some_iff.1 hq).1
  have e : keepP pr (l.take (j + 1)) = keepP pr (l.take j) ++ [q] := by
    unfold keepP
    rw [List.take_add_one, hq, List.filter_append]
    simp [hp]
  have hlt := h.lt
  have hlen := h.len
  refine ⟨by rw [List.length_set]; exact hlen, by rw [e, List.length_append, h.cnt]; rfl, by omega, ?_, fun t ht => ?_⟩
  · rw [e, ← h.low, List.take_add_one, List.getElem?_set_self (by omega), List.take_set_of_le (Nat.le_refl _)]
    rfl
  · rw [List.getElem?_set_ne (by omega)]
    exact h.high t (by omega)
theorem old_cells {w : World} {base g n cap : Nat} {m : PairL} {i : Nat} {r : ByteArray × ByteArray} (h : ORow w base (.slice (some ⟨g, 0, none⟩) n cap) m) (hr : m[i]? = some r) :
    w.cell? ⟨g, i * 2, none⟩ = some (.string r.1) ∧ w.cell? ⟨g, i * 2 + 1, none⟩ = some (.string r.2) ∧ w.frozen? ⟨g, i * 2, none⟩ = false ∧ w.frozen? ⟨g, i * 2 + 1, none⟩ = false ∧
    (∀ p : ByteArray, (w.setCell ⟨g, i * 2, none⟩ (.string p)).cell? ⟨g, i * 2 + 1, none⟩ = some (.string r.2)) ∧ ∀ p : ByteArray, (w.setCell ⟨g, i * 2, none⟩ (.string p)).frozen? ⟨g, i * 2 + 1, none⟩ = false := by
  obtain ⟨hn, cur, hB, _, h4, _, h6, h7⟩ := h.blk
  have hi := (List.getElem?_eq_some_iff.1 hr).1
  have hc := pairCells_at m i r hr
  have e : ∀ k u, k < n * 2 → (pairCells m)[k]? = some u → cur[k]? = some u := fun k u hk hu => by
    rw [← h7, List.getElem?_take_of_lt hk] at hu
    rw [← Array.getElem?_toList]
    exact hu
  have e0 := e (i * 2) _ (by omega) (by rw [Nat.mul_comm]; exact hc.1)
  have e1 := e (i * 2 + 1) _ (by omega) (by rw [Nat.mul_comm]; exact hc.2)
  refine ⟨(hB.cell _).trans e0, (hB.cell _).trans e1, hB.frozen _, hB.frozen _, fun p => ?_, fun p => (hB.put _ _).frozen _⟩
  rw [(hB.put (i * 2) (.string p)).cell, Array.getElem?_setIfInBounds_ne (by omega)]
  exact e1
set_option maxRecDepth 20000 in
set_option maxHeartbeats 8000000 in
theorem delf_any (fid : Nat) (lb : Array Value) (eg : ∀ args w, (callFunc fid args).run Tryz.prog w = .ok (.enter fid args) w) (pr : ByteArray × ByteArray → Bool) (l : PairL) (v : Value) (base : Nat) (w : World) (hv : ORow w base v l) (hn : l.length ≤ 1000000)
    (hf : ∀ W, w.grownBy W v.ownBlock → PredP fid lb pr l W) :
    Calls Tryz.prog 41 #[v, .func (.func fid) #[] lb] w fun e w' => ∃ v', e = .returned v' ∧ ORow w' base v' (keepP pr l) ∧ w.grownBy w' v.ownBlock ∧ v'.ownBlock = v.ownBlock := by
  have hi := idxf_any fid lb eg pr l v w hv.rd hn fun W hW => hf W (grown_below' _ hW)
  obtain ⟨A, cap, rfl⟩ := hv.form
  rcases idxG_hit (pr := pr) l 0 with ⟨h1, h2⟩ | ⟨j0, q0, hq0, hp0, h3, ha0⟩
  · have hk : keepP pr l = l := List.filter_eq_self.2 fun x hx => by rw [h2 x hx]; rfl
    rw [h1] at hi
    rw [hk]
    have HV := Lib.hid hv
    clear hf h1 h2 hk hv
    go_enter Tryz.func41, Tryz.ntmps41
    go_wp2_with fail
    refine hi.mono ?_
    rintro e w1 ⟨rfl, hb1⟩
    go_wp2_with fail
    go_ret
    exact ⟨_, rfl, HV.out.on hb1, grown_below' _ hb1, rfl⟩
  · rw [Nat.zero_add] at h3
    rw [h3] at hi
    have hj0 : j0 < l.length := (List.getElem?_eq_some_iff.1 hq0).1
    obtain ⟨g, rfl⟩ : ∃ g, A = some ⟨g, 0, none⟩ := by
      rcases hv.2 with ⟨h0, _⟩ | ⟨g, _, _, h0, _⟩
      · injection h0 with _ h0 _; omega
      · injection h0 with h0 _ _; exact ⟨g, h0⟩
    have hI0 := DelI.start hq0 hp0 ha0
    obtain ⟨N, hN⟩ : ∃ N, l.length = N := ⟨_, rfl⟩
    rw [hN] at hn hj0 hi hv ⊢
    have hcap : N ≤ cap := by obtain ⟨_, _, _, _, h4, _⟩ := hv.blk; exact h4
    have hcm : cap ≤ maxLen := by obtain ⟨_, _, _, _, _, h5, _⟩ := hv.blk; exact h5
    unfold maxLen at hcm
    have HN := Lib.hid hN
    have HV := Lib.hid hv
    have HI0 := Lib.hid hI0
    rw [hN] at hf
    have HF := Lib.hid hf
    have hgb : (Value.slice (some ⟨g, 0, none⟩) N cap).ownBlock = some g := rfl
    rw [hgb] at hf ⊢
    have HF := Lib.hid hf
    have tS := Tryz.underlying27
    have hj0I : ((j0 : Nat) : Int) + 1 ≤ 1000000 := by omega
    have hne1 : ((j0 : Int) == -1) = false := beq_eq_false_iff_ne.2 (by omega)
    clear hf hN hv hI0 h3 hq0 hp0 ha0 hgb
    go_enter Tryz.func41, Tryz.ntmps41
    go_wp2_with fail
    refine hi.mono ?_
    rintro e w1 ⟨rfl, hb1⟩
    have hg1 := grown_below' (some g) hb1
    have hV1 := HV.out.on hb1
    go_wp2_with fail
    go_loopw [5, 6] (fun s5 s6 wr => ∃ (i j : Nat) (m : PairL), s5 = .int .i64 i ∧ s6 = .int .i64 j ∧ j ≤ N ∧ Hid (DelI pr l m i j) ∧ ORow wr base (.slice (some ⟨g, 0, none⟩) N cap) m ∧ w.grownBy wr (some g)) (fun _ j _ => N - (intOf j).toNat)
    case atStart => exact ⟨j0, j0 + 1, l, rfl, by go_num, by omega, HI0.out, hV1, hg1⟩
    case round =>
      clear hV1 hg1 hj0I hne1
      obtain ⟨i, j, m, rfl, rfl, hjN, hI, hO, hg⟩ := hrel
      have hij := hI.out.lt
      have hml := hI.out.len
      by_cases hlt : j < N
      · obtain ⟨q, hq⟩ : ∃ q, l[j]? = some q := ⟨_, List.getElem?_eq_getElem (by rw [HN.out]; exact hlt)⟩
        have hmq : m[j]? = some q := (hI.out.high j (Nat.le_refl _)).trans hq
        have hrd := hO.rd
        rw [hml, HN.out] at hrd
        obtain ⟨b, o, cp, u0, u1, hvv, hbl, q0, q1, c0, c1⟩ := hrd.two (k := j) hlt
        have hcell := pairCells_at m j q hmq
        rw [hcell.1] at q0
        rw [hcell.2] at q1
        obtain rfl := Option.some.inj q0
        obtain rfl := Option.some.inj q1
        injection hvv with g1 g2 g3
        injection g1 with g1
        injection g1 with g1 g4
        subst g1
        subst g4
        subst g3
        have hqm := List.mem_of_getElem? hq
        obtain ⟨p1, p2⟩ := q
        simp only [Nat.zero_add] at c0 c1
        obtain ⟨r, hr⟩ : ∃ r, m[i]? = some r := ⟨_, List.getElem?_eq_getElem (by rw [hml, HN.out]; omega)⟩
        have HR := Lib.hid hr
        obtain ⟨wa, hwa⟩ : ∃ wa : World, wr.alloc (.cells #[.string p1, .string p2] 62) = wa := ⟨_, rfl⟩
        have hba : Below wr.heap.size wr wa := by rw [← hwa]; exact (Below.refl _ _).alloc (Nat.le_refl _) _
        have hBa : Blk wa wr.heap.size 62 #[.string p1, .string p2] := by rw [← hwa]; exact Blk.new wr _ _
        obtain ⟨z, hz⟩ : ∃ z, wr.heap.size = z := ⟨_, rfl⟩
        rw [hz] at hBa
        have hgz : ¬ z = g := by omega
        have hga := hg.trans (grown_below' (some g) hba)
        have hOa := hO.on hba
        have hcall := HF.out wa hga _ hqm
        simp only at hcall
        obtain ⟨B, hB⟩ : ∃ B, pr (p1, p2) = B := ⟨_, rfl⟩
        rw [hB] at hcall
        have z0 := hBa.cell 0
        have z1 := hBa.cell 1
        have HQ := Lib.hid hq
        have HB := Lib.hid hB
        have hijI : (i : Int) < (j : Int) := by omega
        have hiN : (i : Int) < (N : Int) := by omega
        have hml2 : m.length = N := hml.trans HN.out
        have HML := Lib.hid hml2
        clear hq hmq hrd hcell hB g2 hml hml2 hr
        rcases B with _ | _
        · go_wp2_with (go_at_fn fid; refine hcall.mono ?_; rintro e w2 ⟨rfl, hb2⟩; have hO2 := hOa.on hb2; have hB2 := hBa.below hb2 hBa.lt; have y0 := hB2.cell 0; have y1 := hB2.cell 1; have hof := old_cells hO2 HR.out; have f0 := hof.1; have f1 := hof.2.1; have f2 := hof.2.2.1; have f3 := hof.2.2.2.1; have f4 := hof.2.2.2.2.1 p1; have f5 := hof.2.2.2.2.2 p1; have hO3 := hO2.set i (p1, p2); clear z0 z1 hof)
          have hg3 : w.grownBy ((w2.setCell ⟨g, i * 2, none⟩ (.string p1)).setCell ⟨g, i * 2 + 1, none⟩ (.string p2)) (some g) := ((hga.trans (grown_below' (some g) hb2)).trans (grown_put' _ _)).trans (grown_put' _ _)
          go_roundw
          case rel => exact ⟨i + 1, j + 1, m.set i (p1, p2), by go_num, by go_num, by omega, Lib.hid (hI.out.keep HQ.out HB.out), hO3, hg3⟩
          case measure => simp [intOf]; omega
        · go_wp2_with (go_at_fn fid; refine hcall.mono ?_; rintro e w2 ⟨rfl, hb2⟩)
          go_roundw
          case rel => exact ⟨i, j + 1, m, rfl, by go_num, by omega, Lib.hid (hI.out.skip HQ.out HB.out), hOa.on hb2, hga.trans (grown_below' (some g) hb2)⟩
          case measure => simp [intOf]; omega
      · obtain rfl : j = N := by omega
        have hI0 := hI.out
        have htk : l.take j = l := List.take_of_length_le (by rw [HN.out]; exact Nat.le_refl _)
        have hcnt := hI0.cnt
        have hlow := hI0.low
        rw [htk] at hcnt hlow
        obtain ⟨hnm, cur, hB, hbs, h4, h5, h6, h7⟩ := hO.blk
        obtain ⟨zs, hzl, hcl⟩ := run_clearN (P := Tryz.prog) wr 27 62 0 (.string ⟨#[]⟩) (.string ⟨#[]⟩) tS (by kernel_rfl) rfl rfl g (i * 2) (j - i) (cap - i)
          (fun t ht => by rw [hB.cell]; rw [Array.getElem?_eq_getElem (by omega)]; rfl) (fun t ht => hB.frozen _)
        have hcl' : ∀ ty, (Builtin.clear_ #[27] ty #[.slice (some ⟨g, i * 2, none⟩) (j - i) (cap - i)]).run Tryz.prog wr = .ok (.tuple #[]) (wr.setCells g (i * 2) zs) := fun ty => hcl
        obtain ⟨ds, hBd, hds, hdk⟩ := setCells_blk zs (i * 2) wr cur hB
        have hOf : ORow (wr.setCells g (i * 2) zs) base (.slice (some ⟨g, 0, none⟩) i cap) (keepP pr l) := by
          refine ORow.of_blk hcnt.symm hBd hbs (by omega) h5 (by rw [hds]; exact h6) ?_
          rw [← hlow]
          have e1 : ds.toList.take (i * 2) = cur.toList.take (i * 2) := by
            apply List.ext_getElem?
            intro k
            by_cases hk : k < i * 2
            · rw [List.getElem?_take_of_lt hk, List.getElem?_take_of_lt hk, Array.getElem?_toList, Array.getElem?_toList]
              exact hdk k hk
            · rw [List.getElem?_eq_none (by rw [List.length_take]; omega), List.getElem?_eq_none (by rw [List.length_take]; omega)]
          have e2 : cur.toList.take (i * 2) = (pairCells m).take (i * 2) := by
            rw [← h7, List.take_take, Nat.min_eq_left (by omega)]
          have e3 : pairCells m = pairCells (m.take i) ++ pairCells (m.drop i) := by rw [← pairCells_append, List.take_append_drop]
          rw [e1, e2, e3, List.take_append_of_le_length (by rw [pairCells_len, List.length_take]; omega), List.take_of_length_le (by rw [pairCells_len, List.length_take]; omega)]
        have hgf : w.grownBy (wr.setCells g (i * 2) zs) (some g) := hg.trans (grown_cells zs _ _)
        have hic : ¬ i = cap := by omega
        have hic2 : ¬ cap = i := by omega
        have hij2 : (i : Int) ≤ (j : Int) := by omega
        have hicI : (i : Int) ≤ (cap : Int) := by omega
        clear hI0 htk hcnt hlow hcl hB hbs h4 h5 h6 h7 hBd hds hdk hzl hnm hml
        go_wp2_with fail
        go_ret
        exact ⟨_, rfl, hOf, hgf, rfl⟩
end Go.Proofs.YtamlepacljjpiaaGreatDoor
