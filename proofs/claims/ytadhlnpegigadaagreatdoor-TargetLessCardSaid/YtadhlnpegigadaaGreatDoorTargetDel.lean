/- slices.Delete and slices.Clone of portals and of users (two cells each). -/
import Derived.Test.YtadhlnpegigadaaGreatDoorTargetFact
import Derived.Lib.SliceRun
import Derived.Deep.RegionLaw
import Derived.Lib.LazyBuf
import Derived.Lib.AppendZeros
namespace Go.Proofs.YtadhlnpegigadaaGreatDoor
open Go.ChangeShapes Go.WideShapes Go.ChangeAt Go.RowKit Go.Shelf Go.Deep
set_option linter.unusedVariables false
set_option linter.unusedSimpArgs false
theorem run_clear2 {P : Program} (w : World) (t e ty : TypeId) (z0 z1 : Value) (ht : P.underlying t = some (.slice e)) (hv : (zeroValue e).run P w = .ok (.agg #[z0, z1]) w) (h0 : z0.oneCell' = true) (h1 : z1.oneCell' = true) (b o c : Nat)
    (hc : ∀ j, j < 2 → (w.cell? ⟨b, o + j, none⟩).isSome = true) (hf : ∀ j, j < 2 → w.frozen? ⟨b, o + j, none⟩ = false) :
    (Builtin.clear_ #[t] ty #[.slice (some ⟨b, o, none⟩) 1 c]).run P w = .ok (.tuple #[]) (w.setCells b o [z0, z1]) := by
  have hzc : (Builtin.zeroCells (Value.agg #[z0, z1]).cells 1).toList = [z0, z1] := by
    simp [Builtin.zeroCells, Value.cells, Array.range, List.range, List.range.loop]
  have hst := run_storeCells_cells (P := P) b o [z0, z1] 0 w (by simpa using hc) (by simpa using hf) (by intro v hv'; simp at hv'; rcases hv' with rfl | rfl <;> assumption)
  simp only [Nat.add_zero] at hst
  simp [Builtin.clear_, run_underlying ht, hv, hzc, hst]
theorem below_sc {B g : Nat} {a w : World} (h : Below B a w) (hB : B ≤ g) (vs : List Value) (o : Nat) : Below B a (w.setCells g o vs) := Go.below_setCells hB vs o w h
theorem info_port : (Tryz.prog.info? 40).map (fun i => (i.zero, i.size, i.bytes)) = some (some (.agg #[.string ⟨#[]⟩, .int .i64 0]), 2, 24) := by kernel_rfl
set_option maxRecDepth 20000 in
set_option maxHeartbeats 4000000 in
theorem del_port (xs : List Value) (g n i j cap : Nat) (w : World) (hl : xs.length = n * 2) (hcap : n ≤ cap) (hm : cap ≤ 9223372036854775807) (hji : j = i + 1) (hj : j ≤ n) (hc : ∀ k u, xs[k]? = some u → w.cell? ⟨g, k, none⟩ = some u)
    (hf : ∀ k, k < n * 2 → w.frozen? ⟨g, k, none⟩ = false) (h1 : ∀ u ∈ xs, u.oneCell' = true) :
    Calls Tryz.prog 23 #[.slice (some ⟨g, 0, none⟩) n cap, .int .i64 i, .int .i64 j] w fun e w' => e = .returned (.slice (some ⟨g, 0, none⟩) (n - 1) cap) ∧ (∀ k u, (xs.take (i * 2) ++ xs.drop (j * 2))[k]? = some u → w'.cell? ⟨g, k, none⟩ = some u) ∧ Below g w w' := by
  obtain ⟨i0, hi0, hz0, hz1, hz2⟩ := info_parts info_port
  have tS := Tryz.underlying23
  have mixed : (Tryz.prog).follows .mixedOrders = true := by kernel_rfl
  have hlt : i < j := by omega
  have hsome : ∀ k, k < n * 2 → (w.cell? ⟨g, k, none⟩).isSome = true := fun k hk => by rw [hc k _ (List.getElem?_eq_getElem (by omega))]; rfl
  obtain ⟨news, hnews⟩ : ∃ news, news = xs.drop (j * 2) := ⟨_, rfl⟩
  have hlen : news.length = (n - j) * 2 := by rw [hnews, List.length_drop, hl, Nat.sub_mul]
  obtain ⟨A, hA, hsrc⟩ : ∃ A : Addr, (if cap = j then some (⟨g, 0, none⟩ : Addr) else some ⟨g, j * 2, none⟩) = some A ∧ Hid (∀ t u, news[t]? = some u → w.drew.cell? (A.add t) = some u) := by
    by_cases h : cap = j
    · refine ⟨⟨g, 0, none⟩, by simp [h], Lib.hid fun t u hu => ?_⟩
      have h0 : news.length = 0 := by rw [hlen]; have : n - j = 0 := by omega
                                      rw [this]
      rw [List.length_eq_zero_iff.1 h0] at hu
      simp at hu
    · refine ⟨⟨g, j * 2, none⟩, by simp [h], Lib.hid fun t u hu => ?_⟩
      rw [hnews, List.getElem?_drop] at hu
      rw [Addr.add_lit]
      exact hc _ _ hu
  have s2 : Hid (∀ u ∈ news, u.oneCell' = true) := Lib.hid fun u hu => h1 u (List.mem_of_mem_drop (hnews ▸ hu))
  have s3 : Hid (∀ t, t < news.length → (w.drew.cell? ⟨g, 0 + i * 2 + t, none⟩).isSome = true ∧ w.drew.frozen? ⟨g, 0 + i * 2 + t, none⟩ = false) := Lib.hid fun t ht => by
    rw [hlen] at ht
    have : 0 + i * 2 + t < n * 2 := by omega
    exact ⟨hsome _ this, hf _ this⟩
  have s1 := Lib.hid hlen
  obtain ⟨W1, hW1⟩ : ∃ W1, W1 = w.drew.setCells g (0 + i * 2) news := ⟨_, rfl⟩
  have hf1 : ∀ k, W1.frozen? ⟨g, k, none⟩ = w.frozen? ⟨g, k, none⟩ := fun k => by rw [hW1]; exact World.frozen?_setCells g news _ _ _
  have hs1 : ∀ k, k < n * 2 → (W1.cell? ⟨g, k, none⟩).isSome = true := fun k hk => by rw [hW1]; exact World.isSome_setCells g news _ _ _ (hsome k hk)
  have k1 : n - (i + (n - j)) = 1 := by omega
  have hcl : ∀ ty, (Builtin.clear_ #[23] ty #[.slice (some ⟨g, (i + (n - j)) * 2, none⟩) (n - (i + (n - j))) (cap - (i + (n - j)))]).run Tryz.prog W1 = .ok (.tuple #[]) (W1.setCells g ((i + (n - j)) * 2) [.string ⟨#[]⟩, .int .i64 0]) := fun ty => by
    rw [k1]
    exact run_clear2 W1 _ _ ty _ _ tS (by kernel_rfl) rfl rfl g _ _ (fun k hk => hs1 _ (by omega)) (fun k hk => by rw [hf1]; exact hf _ (by omega))
  have hfin : Hid (∀ k u, (xs.take (i * 2) ++ xs.drop (j * 2))[k]? = some u → (W1.setCells g ((i + (n - j)) * 2) [.string ⟨#[]⟩, .int .i64 0]).cell? ⟨g, k, none⟩ = some u) := Lib.hid fun k u hu => by
    have hk := (List.getElem?_eq_some_iff.1 hu).1
    rw [List.length_append, List.length_take, ← hnews, hlen, hl, Nat.min_eq_left (by omega)] at hk
    rw [World.cell?_setCells_out _ _ _ _ _ (fun _ _ => Or.inl (by show k < _; omega)), hW1]
    by_cases h : k < i * 2
    · rw [World.cell?_setCells_out _ _ _ _ _ (fun _ _ => Or.inl (by show k < _; omega))]
      rw [List.getElem?_append_left (by rw [List.length_take, hl]; omega), List.getElem?_take_of_lt h] at hu
      exact hc k u hu
    · have hu2 := hu
      rw [List.getElem?_append_right (by rw [List.length_take, hl]; omega), List.length_take, hl, Nat.min_eq_left (by omega), ← hnews] at hu
      obtain ⟨d, rfl⟩ : ∃ d, k = 0 + i * 2 + d := ⟨k - i * 2, by omega⟩
      rw [show 0 + i * 2 + d - i * 2 = d by omega] at hu
      have hd := (List.getElem?_eq_some_iff.1 hu).1
      rw [World.cell?_setCells_in g news (0 + i * 2) w.drew (fun t ht => (s3.out t ht).1) d hd, ← hu, List.getElem?_eq_getElem hd]
  have hbel : Hid (Below g w (W1.setCells g ((i + (n - j)) * 2) [.string ⟨#[]⟩, .int .i64 0])) := Lib.hid (by rw [hW1]; exact below_sc (below_sc (Below.refl _ _).drew (Nat.le_refl _) _ _) (Nat.le_refl _) _ _)
  have hW : Hid (W1 = w.drew.setCells g (0 + i * 2) news) := Lib.hid hW1
  have hret : Hid (i + (n - j) = n - 1) := Lib.hid (by omega)
  have hic : (i : Int) ≤ (cap : Int) := by omega
  have hjc : (j : Int) ≤ (cap : Int) := by omega
  have hjn : (j : Int) ≤ (n : Int) := by omega
  have hij : (i : Int) ≤ (j : Int) := by omega
  have hne : ¬ (i : Int) = (j : Int) := by omega
  clear hW1 hf1 hs1 hnews hlen hsome hc hf h1 hl hji k1
  go_enter Tryz.func23, Tryz.ntmps23
  go_wp2_with fail
  go_region_law_o (refine step_append_room rfl (.tmp 22) (.tmp 25) 23 rfl 40 i0 2 tS hi0 hz1 g 0 i cap (by simp [Act.eval, Act.put]) A (n - j) (cap - j) news (by simp [Act.eval, Act.put]) s1.out hsrc.out s2.out (by omega) s3.out ?_; rw [← hW.out])
  go_wp2
  go_ret
  exact ⟨by first | rfl | (rw [← hret.out]; rfl) | (rw [hret.out]; rfl), by first | exact hfin.out | (rw [← hret.out]; exact hfin.out) | (rw [hret.out] at *; exact hfin.out), by first | exact hbel.out | (rw [← hret.out]; exact hbel.out)⟩
theorem info_usr : (Tryz.prog.info? 26).map (fun i => (i.zero, i.size, i.bytes)) = some (some (.agg #[.string ⟨#[]⟩, .string ⟨#[]⟩]), 2, 32) := by kernel_rfl
set_option maxRecDepth 20000 in
set_option maxHeartbeats 4000000 in
theorem del_usr (xs : List Value) (g n i j cap : Nat) (w : World) (hl : xs.length = n * 2) (hcap : n ≤ cap) (hm : cap ≤ 9223372036854775807) (hji : j = i + 1) (hj : j ≤ n) (hc : ∀ k u, xs[k]? = some u → w.cell? ⟨g, k, none⟩ = some u)
    (hf : ∀ k, k < n * 2 → w.frozen? ⟨g, k, none⟩ = false) (h1 : ∀ u ∈ xs, u.oneCell' = true) :
    Calls Tryz.prog 25 #[.slice (some ⟨g, 0, none⟩) n cap, .int .i64 i, .int .i64 j] w fun e w' => e = .returned (.slice (some ⟨g, 0, none⟩) (n - 1) cap) ∧ (∀ k u, (xs.take (i * 2) ++ xs.drop (j * 2))[k]? = some u → w'.cell? ⟨g, k, none⟩ = some u) ∧ Below g w w' := by
  obtain ⟨i0, hi0, hz0, hz1, hz2⟩ := info_parts info_usr
  have tS := Tryz.underlying24
  have mixed : (Tryz.prog).follows .mixedOrders = true := by kernel_rfl
  have hlt : i < j := by omega
  have hsome : ∀ k, k < n * 2 → (w.cell? ⟨g, k, none⟩).isSome = true := fun k hk => by rw [hc k _ (List.getElem?_eq_getElem (by omega))]; rfl
  obtain ⟨news, hnews⟩ : ∃ news, news = xs.drop (j * 2) := ⟨_, rfl⟩
  have hlen : news.length = (n - j) * 2 := by rw [hnews, List.length_drop, hl, Nat.sub_mul]
  obtain ⟨A, hA, hsrc⟩ : ∃ A : Addr, (if cap = j then some (⟨g, 0, none⟩ : Addr) else some ⟨g, j * 2, none⟩) = some A ∧ Hid (∀ t u, news[t]? = some u → w.drew.cell? (A.add t) = some u) := by
    by_cases h : cap = j
    · refine ⟨⟨g, 0, none⟩, by simp [h], Lib.hid fun t u hu => ?_⟩
      have h0 : news.length = 0 := by rw [hlen]; have : n - j = 0 := by omega
                                      rw [this]
      rw [List.length_eq_zero_iff.1 h0] at hu
      simp at hu
    · refine ⟨⟨g, j * 2, none⟩, by simp [h], Lib.hid fun t u hu => ?_⟩
      rw [hnews, List.getElem?_drop] at hu
      rw [Addr.add_lit]
      exact hc _ _ hu
  have s2 : Hid (∀ u ∈ news, u.oneCell' = true) := Lib.hid fun u hu => h1 u (List.mem_of_mem_drop (hnews ▸ hu))
  have s3 : Hid (∀ t, t < news.length → (w.drew.cell? ⟨g, 0 + i * 2 + t, none⟩).isSome = true ∧ w.drew.frozen? ⟨g, 0 + i * 2 + t, none⟩ = false) := Lib.hid fun t ht => by
    rw [hlen] at ht
    have : 0 + i * 2 + t < n * 2 := by omega
    exact ⟨hsome _ this, hf _ this⟩
  have s1 := Lib.hid hlen
  obtain ⟨W1, hW1⟩ : ∃ W1, W1 = w.drew.setCells g (0 + i * 2) news := ⟨_, rfl⟩
  have hf1 : ∀ k, W1.frozen? ⟨g, k, none⟩ = w.frozen? ⟨g, k, none⟩ := fun k => by rw [hW1]; exact World.frozen?_setCells g news _ _ _
  have hs1 : ∀ k, k < n * 2 → (W1.cell? ⟨g, k, none⟩).isSome = true := fun k hk => by rw [hW1]; exact World.isSome_setCells g news _ _ _ (hsome k hk)
  have k1 : n - (i + (n - j)) = 1 := by omega
  have hcl : ∀ ty, (Builtin.clear_ #[24] ty #[.slice (some ⟨g, (i + (n - j)) * 2, none⟩) (n - (i + (n - j))) (cap - (i + (n - j)))]).run Tryz.prog W1 = .ok (.tuple #[]) (W1.setCells g ((i + (n - j)) * 2) [.string ⟨#[]⟩, .string ⟨#[]⟩]) := fun ty => by
    rw [k1]
    exact run_clear2 W1 _ _ ty _ _ tS (by kernel_rfl) rfl rfl g _ _ (fun k hk => hs1 _ (by omega)) (fun k hk => by rw [hf1]; exact hf _ (by omega))
  have hfin : Hid (∀ k u, (xs.take (i * 2) ++ xs.drop (j * 2))[k]? = some u → (W1.setCells g ((i + (n - j)) * 2) [.string ⟨#[]⟩, .string ⟨#[]⟩]).cell? ⟨g, k, none⟩ = some u) := Lib.hid fun k u hu => by
    have hk := (List.getElem?_eq_some_iff.1 hu).1
    rw [List.length_append, List.length_take, ← hnews, hlen, hl, Nat.min_eq_left (by omega)] at hk
    rw [World.cell?_setCells_out _ _ _ _ _ (fun _ _ => Or.inl (by show k < _; omega)), hW1]
    by_cases h : k < i * 2
    · rw [World.cell?_setCells_out _ _ _ _ _ (fun _ _ => Or.inl (by show k < _; omega))]
      rw [List.getElem?_append_left (by rw [List.length_take, hl]; omega), List.getElem?_take_of_lt h] at hu
      exact hc k u hu
    · have hu2 := hu
      rw [List.getElem?_append_right (by rw [List.length_take, hl]; omega), List.length_take, hl, Nat.min_eq_left (by omega), ← hnews] at hu
      obtain ⟨d, rfl⟩ : ∃ d, k = 0 + i * 2 + d := ⟨k - i * 2, by omega⟩
      rw [show 0 + i * 2 + d - i * 2 = d by omega] at hu
      have hd := (List.getElem?_eq_some_iff.1 hu).1
      rw [World.cell?_setCells_in g news (0 + i * 2) w.drew (fun t ht => (s3.out t ht).1) d hd, ← hu, List.getElem?_eq_getElem hd]
  have hbel : Hid (Below g w (W1.setCells g ((i + (n - j)) * 2) [.string ⟨#[]⟩, .string ⟨#[]⟩])) := Lib.hid (by rw [hW1]; exact below_sc (below_sc (Below.refl _ _).drew (Nat.le_refl _) _ _) (Nat.le_refl _) _ _)
  have hW : Hid (W1 = w.drew.setCells g (0 + i * 2) news) := Lib.hid hW1
  have hret : Hid (i + (n - j) = n - 1) := Lib.hid (by omega)
  have hic : (i : Int) ≤ (cap : Int) := by omega
  have hjc : (j : Int) ≤ (cap : Int) := by omega
  have hjn : (j : Int) ≤ (n : Int) := by omega
  have hij : (i : Int) ≤ (j : Int) := by omega
  have hne : ¬ (i : Int) = (j : Int) := by omega
  clear hW1 hf1 hs1 hnews hlen hsome hc hf h1 hl hji k1
  go_enter Tryz.func25, Tryz.ntmps25
  go_wp2_with fail
  go_region_law_o (refine step_append_room rfl (.tmp 22) (.tmp 25) 24 rfl 26 i0 2 tS hi0 hz1 g 0 i cap (by simp [Act.eval, Act.put]) A (n - j) (cap - j) news (by simp [Act.eval, Act.put]) s1.out hsrc.out s2.out (by omega) s3.out ?_; rw [← hW.out])
  go_wp2
  go_ret
  exact ⟨by first | rfl | (rw [← hret.out]; rfl) | (rw [hret.out]; rfl), by first | exact hfin.out | (rw [← hret.out]; exact hfin.out) | (rw [hret.out] at *; exact hfin.out), by first | exact hbel.out | (rw [← hret.out]; exact hbel.out)⟩
def QRow (w : World) (base : Nat) (v : Value) (l : PoL) : Prop := MRow w base 40 2 v l.length (poCells l)
def VRow (w : World) (base : Nat) (v : Value) (l : PairL) : Prop := MRow w base 26 2 v l.length (pairCells l)
theorem poCells_append (a b : PoL) : poCells (a ++ b) = poCells a ++ poCells b := by simp [poCells]
theorem wpList_append_port (w : World) {ops : Array Oper} {rest : List Oper} {o : Oper} {a : Act} {Q : Exit → Act → World → Prop} (hgd : o.guard = none) (s x : Operand)
    (ho : o.op = .call { callee := .builtin .append, args := #[s, x], argTypes := #[23, 23] })
    (base : Nat) (v : Value) (l : PoL) (hs : a.eval s = v) (hown : QRow w base v l)
    (vx : Value) (m : PoL) (hx : a.eval x = vx) (hm : SRd w vx 2 m.length (poCells m)) (hlen : (l.length + m.length) * 24 ≤ 140737488355328) (hbase : base ≤ w.heap.size) {w0 : World} (hbel : Below base w0 w)
    (h : ∀ v' w', QRow w' base v' (l ++ m) → Below base w0 w' → w.grownBy w' v.ownBlock → wpList Tryz.prog ops Q rest (a.put o.dst v') w') : wpList Tryz.prog ops Q (o :: rest) a w := by
  obtain ⟨i0, hi, hz0, hz1, hz2⟩ := info_parts info_port
  obtain ⟨h1, A, cap, rfl, h2, h3, h4⟩ := hm
  rcases A with _ | ad
  · have hm0 : m = [] := by
      rcases m with _ | ⟨p, m⟩
      · rfl
      · obtain ⟨b, o, hA, _⟩ := h4 (by simp)
        cases hA
    subst hm0
    have hrun : (Builtin.append_ #[23, 23] o.type #[v, .slice none 0 cap]).run Tryz.prog w = .ok v w := by
      rcases hown.2 with ⟨rfl, h0⟩ | ⟨g, cap', cur, rfl, _, _, hnc, _⟩
      · simp [Builtin.append_, run_underlying Tryz.underlying23, sizeOf, typeInfo, hi, Builtin.lenOf, Builtin.firstCells]
      · simp [Builtin.append_, run_underlying Tryz.underlying23, sizeOf, typeInfo, hi, Builtin.lenOf, Builtin.firstCells, hnc, storeCells]
    refine Lib.wpList_append_run w hgd s x _ _ ho v _ hs hx v w hrun (h v w (by rw [List.append_nil]; exact hown) hbel ⟨rfl, rfl, rfl, Nat.le_refl _, fun _ _ _ => rfl⟩)
  · refine wpList_plain hgd fun _ hK => wp_append_m w s x _ ho base 40 i0 _ 2 24 Tryz.underlying23 hi hz0 hz1 hz2 rfl (by decide) v l.length _ hs hown ad m.length cap (poCells m) hx (by rw [poCells_len, Nat.mul_comm]) ?_ ?_ (by unfold maxLen; omega) (by omega) hbase ?_
    · intro j u hu
      have hpos : 0 < m.length := by
        have := (List.getElem?_eq_some_iff.1 hu).1
        rw [poCells_len] at this
        omega
      obtain ⟨b, o, hA, _, hc⟩ := h4 hpos
      obtain rfl := Option.some.inj hA
      rw [Addr.add_lit]
      exact hc j u hu
    · intro u hu
      simp only [poCells, List.mem_flatMap] at hu
      obtain ⟨q, _, hq⟩ := hu
      simp at hq
      rcases hq with rfl | rfl <;> rfl
    · intro v' w' r1 r2 _
      refine hK _ _ (h v' w' ?_ (hbel.grown r2 hbase fun k hk => (hown.lt k hk).1) r2)
      unfold QRow
      rw [List.length_append, poCells_append]
      exact r1
set_option maxHeartbeats 2000000 in
theorem clone_port (l : PoL) (v : Value) (w : World) (hv : SRd w v 2 l.length (poCells l)) (hl : l.length * 24 ≤ 140737488351232) : Calls Tryz.prog 24 #[v] w fun e w' =>
    ∃ u, e = .returned u ∧ QRow w' w.heap.size u l ∧ Below w.heap.size w w' := by
  have hv0 := hv
  obtain ⟨hlen, A, cap, rfl, hcap, hmax, hcell⟩ := hv
  unfold maxLen at hmax
  have hnil : A = none → l = [] := by
    intro hA
    rcases l with _ | ⟨p, l⟩
    · rfl
    · obtain ⟨b, o, hA2, _⟩ := hcell (by simp)
      rw [hA] at hA2; cases hA2
  clear hcell hlen
  have heq := fun (w : World) (a : Option Addr) (n c : Nat) => Lib.run_eql_slice_nil (P := Tryz.prog) w 23 40 a n c 0 0 Tryz.underlying23
  go_enter Tryz.func24, Tryz.ntmps24
  rcases A with _ | a
  · have h0 := hnil rfl
    subst h0
    clear hnil
    go_wp2_with fail
    go_ret
    exact ⟨_, rfl, MRow.nil _ _ _ _, Below.refl _ _⟩
  · have hown : QRow (w.alloc (.cells #[] 40)) w.heap.size (.slice (some ⟨w.heap.size, 0, none⟩) 0 0) [] :=
      ⟨rfl, .inr ⟨w.heap.size, 0, #[], rfl, Nat.le_refl _, BlkM.of_blk (Blk.new w _ _), Nat.le_refl _, by decide, rfl, rfl⟩⟩
    have hb0 : Below w.heap.size w (w.alloc (.cells #[] 40)) := (Below.refl _ _).alloc (Nat.le_refl _) _
    have hv1 := hv0.on hb0
    go_wp2_with (at_builtin; refine wpList_append_port _ rfl _ _ rfl w.heap.size _ [] rfl hown _ l rfl hv1 (by simp; omega) (by simp) (w0 := w) hb0 ?_)
    intro v1 w1 hr1 hb1 hg1
    go_wp2_with fail
    go_ret
    exact ⟨_, rfl, hr1, hb1⟩
theorem wpList_append_usr (w : World) {ops : Array Oper} {rest : List Oper} {o : Oper} {a : Act} {Q : Exit → Act → World → Prop} (hgd : o.guard = none) (s x : Operand)
    (ho : o.op = .call { callee := .builtin .append, args := #[s, x], argTypes := #[24, 24] })
    (base : Nat) (v : Value) (l : PairL) (hs : a.eval s = v) (hown : VRow w base v l)
    (vx : Value) (m : PairL) (hx : a.eval x = vx) (hm : SRd w vx 2 m.length (pairCells m)) (hlen : (l.length + m.length) * 32 ≤ 140737488355328) (hbase : base ≤ w.heap.size) {w0 : World} (hbel : Below base w0 w)
    (h : ∀ v' w', VRow w' base v' (l ++ m) → Below base w0 w' → w.grownBy w' v.ownBlock → wpList Tryz.prog ops Q rest (a.put o.dst v') w') : wpList Tryz.prog ops Q (o :: rest) a w := by
  obtain ⟨i0, hi, hz0, hz1, hz2⟩ := info_parts info_usr
  obtain ⟨h1, A, cap, rfl, h2, h3, h4⟩ := hm
  rcases A with _ | ad
  · have hm0 : m = [] := by
      rcases m with _ | ⟨p, m⟩
      · rfl
      · obtain ⟨b, o, hA, _⟩ := h4 (by simp)
        cases hA
    subst hm0
    have hrun : (Builtin.append_ #[24, 24] o.type #[v, .slice none 0 cap]).run Tryz.prog w = .ok v w := by
      rcases hown.2 with ⟨rfl, h0⟩ | ⟨g, cap', cur, rfl, _, _, hnc, _⟩
      · simp [Builtin.append_, run_underlying Tryz.underlying24, sizeOf, typeInfo, hi, Builtin.lenOf, Builtin.firstCells]
      · simp [Builtin.append_, run_underlying Tryz.underlying24, sizeOf, typeInfo, hi, Builtin.lenOf, Builtin.firstCells, hnc, storeCells]
    refine Lib.wpList_append_run w hgd s x _ _ ho v _ hs hx v w hrun (h v w (by rw [List.append_nil]; exact hown) hbel ⟨rfl, rfl, rfl, Nat.le_refl _, fun _ _ _ => rfl⟩)
  · refine wpList_plain hgd fun _ hK => wp_append_m w s x _ ho base 26 i0 _ 2 32 Tryz.underlying24 hi hz0 hz1 hz2 rfl (by decide) v l.length _ hs hown ad m.length cap (pairCells m) hx (by rw [pairCells_len, Nat.mul_comm]) ?_ ?_ (by unfold maxLen; omega) (by omega) hbase ?_
    · intro j u hu
      have hpos : 0 < m.length := by
        have := (List.getElem?_eq_some_iff.1 hu).1
        rw [pairCells_len] at this
        omega
      obtain ⟨b, o, hA, _, hc⟩ := h4 hpos
      obtain rfl := Option.some.inj hA
      rw [Addr.add_lit]
      exact hc j u hu
    · intro u hu
      simp only [pairCells, List.mem_flatMap] at hu
      obtain ⟨q, _, hq⟩ := hu
      simp at hq
      rcases hq with rfl | rfl <;> rfl
    · intro v' w' r1 r2 _
      refine hK _ _ (h v' w' ?_ (hbel.grown r2 hbase fun k hk => (hown.lt k hk).1) r2)
      unfold VRow
      rw [List.length_append, pairCells_append]
      exact r1
set_option maxHeartbeats 2000000 in
theorem clone_usr (l : PairL) (v : Value) (w : World) (hv : SRd w v 2 l.length (pairCells l)) (hl : l.length * 32 ≤ 140737488351232) : Calls Tryz.prog 26 #[v] w fun e w' =>
    ∃ u, e = .returned u ∧ VRow w' w.heap.size u l ∧ Below w.heap.size w w' := by
  have hv0 := hv
  obtain ⟨hlen, A, cap, rfl, hcap, hmax, hcell⟩ := hv
  unfold maxLen at hmax
  have hnil : A = none → l = [] := by
    intro hA
    rcases l with _ | ⟨p, l⟩
    · rfl
    · obtain ⟨b, o, hA2, _⟩ := hcell (by simp)
      rw [hA] at hA2; cases hA2
  clear hcell hlen
  have heq := fun (w : World) (a : Option Addr) (n c : Nat) => Lib.run_eql_slice_nil (P := Tryz.prog) w 24 26 a n c 0 0 Tryz.underlying24
  go_enter Tryz.func26, Tryz.ntmps26
  rcases A with _ | a
  · have h0 := hnil rfl
    subst h0
    clear hnil
    go_wp2_with fail
    go_ret
    exact ⟨_, rfl, MRow.nil _ _ _ _, Below.refl _ _⟩
  · have hown : VRow (w.alloc (.cells #[] 26)) w.heap.size (.slice (some ⟨w.heap.size, 0, none⟩) 0 0) [] :=
      ⟨rfl, .inr ⟨w.heap.size, 0, #[], rfl, Nat.le_refl _, BlkM.of_blk (Blk.new w _ _), Nat.le_refl _, by decide, rfl, rfl⟩⟩
    have hb0 : Below w.heap.size w (w.alloc (.cells #[] 26)) := (Below.refl _ _).alloc (Nat.le_refl _) _
    have hv1 := hv0.on hb0
    go_wp2_with (at_builtin; refine wpList_append_usr _ rfl _ _ rfl w.heap.size _ [] rfl hown _ l rfl hv1 (by simp; omega) (by simp) (w0 := w) hb0 ?_)
    intro v1 w1 hr1 hb1 hg1
    go_wp2_with fail
    go_ret
    exact ⟨_, rfl, hr1, hb1⟩
theorem del_str (ws : List (List UInt8)) (g i cap : Nat) (w : World) (hcap : ws.length ≤ cap) (hm : cap ≤ 9223372036854775807) (hi : i < ws.length) (hc : ∀ k u, (ws.map strV)[k]? = some u → w.cell? ⟨g, k, none⟩ = some u) (hf : ∀ k, k < ws.length → w.frozen? ⟨g, k, none⟩ = false) :
    Calls Tryz.prog 21 #[.slice (some ⟨g, 0, none⟩) ws.length cap, .int .i64 i, .int .i64 (i + 1 : Nat)] w fun e w' => e = .returned (.slice (some ⟨g, 0, none⟩) (ws.length - 1) cap) ∧ (∀ k u, ((ws.map strV).take i ++ (ws.map strV).drop (i + 1))[k]? = some u → w'.cell? ⟨g, k, none⟩ = some u) ∧ Below g w w' := by
  have hS : Lib.strsOf (fun k => (⟨(ws.getD k []).toArray⟩ : ByteArray)) ws.length = ws := by
    unfold Lib.strsOf
    apply List.ext_getElem
    · simp
    · intro k h1 h2
      simp [List.getD_eq_getElem?_getD, h2]
  have h := Tryz.slices_Delete_string_cells g 0 ws.length cap i (i + 1) (fun k => (⟨(ws.getD k []).toArray⟩ : ByteArray)) w hcap hm (by omega) (by omega) (fun k hk => by
    rw [Nat.zero_add]
    refine hc k _ ?_
    rw [List.getElem?_map, List.getElem?_eq_getElem hk, List.getD_eq_getElem?_getD, List.getElem?_eq_getElem hk]
    rfl) (fun k hk => by rw [Nat.zero_add]; exact hf k hk)
  rw [hS] at h
  refine h.mono ?_
  rintro e w' ⟨rfl, q, rfl⟩
  refine ⟨by rw [show ws.length - (i + 1 - i) = ws.length - 1 by omega], fun k u hu => ?_, below_sc (below_dP (Below.refl _ _) q) (Nat.le_refl _) _ _⟩
  have hk := (List.getElem?_eq_some_iff.1 hu).1
  rw [List.length_append, List.length_take, List.length_drop, List.length_map, Nat.min_eq_left (by omega)] at hk
  have hl : ((ws.take i ++ ws.drop (i + 1) ++ List.replicate (i + 1 - i) []).map encStr).length = ws.length := by simp; omega
  have := World.cell?_setCells_in g ((ws.take i ++ ws.drop (i + 1) ++ List.replicate (i + 1 - i) []).map encStr) 0 (w.drewN q) (fun t ht => by
    rw [hl] at ht
    show (w.cell? ⟨g, 0 + t, none⟩).isSome = true
    rw [Nat.zero_add, hc t _ (List.getElem?_eq_getElem (by rw [List.length_map]; exact ht))]
    rfl) k (by rw [hl]; omega)
  rw [Nat.zero_add] at this
  rw [this, ← hu, ← List.getElem?_eq_getElem, List.map_append, List.getElem?_append_left (by simp; omega), List.map_append, List.map_take, List.map_drop]
  rfl
end Go.Proofs.YtadhlnpegigadaaGreatDoor
