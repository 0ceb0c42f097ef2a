/- slices.Grow of nil, and slices.Concat of two, at pairs. -/
import Derived.Test.YtadhlnpegigadaaGreatDoorGpairs
import Derived.Lib.AppendZeros
namespace Go.Proofs.YtadhlnpegigadaaGreatDoor
open Go.ChangeShapes Go.WideShapes Go.ChangeAt Go.RowKit
set_option linter.unusedVariables false
set_option maxRecDepth 20000 in
set_option maxHeartbeats 2000000 in
theorem grow_nil (n : Nat) (w : World) (hn : n ≤ 100000) : Calls Tryz.prog 68 #[.slice none 0 0, .int .i64 n] w fun e w' => ∃ v, e = .returned v ∧ PRow w' w.heap.size v [] ∧ Below w.heap.size w w' := by
  obtain ⟨i0, hi, hz0, hz1, hz2⟩ := info_parts infoPair
  by_cases h0 : n = 0
  · subst h0
    clear hi hz0 hz1 hz2
    go_enter Tryz.func68, Tryz.ntmps68
    go_wp2_with fail
    go_ret
    exact ⟨_, rfl, MRow.nil _ _ _ _, Below.refl _ _⟩
  · have hrz := fun ty => Lib.run_append_nil_zeros (P := Tryz.prog) w 27 3 ty 52 i0 _ .i64 .i64 Tryz.underlying27 Tryz.underlying3 hi hz0 n (by omega) (by omega) (by omega) (by rw [hz2]; omega)
    have hGn := grownCap_ge w n 0 52
    have hGm := grownCap_le_maxLen w n 0 52 (by unfold maxLen; omega)
    obtain ⟨G, hG⟩ : ∃ G, grownCap w n 0 52 = G := ⟨_, rfl⟩
    rw [hG] at hrz hGn hGm
    obtain ⟨C, hC⟩ : ∃ C, Builtin.zeroCells (Value.agg #[.string ⟨#[]⟩, .string ⟨#[]⟩]).cells n ++ Builtin.zeroCells (Value.agg #[.string ⟨#[]⟩, .string ⟨#[]⟩]).cells (G - n) = C := ⟨_, rfl⟩
    have hCz : C.size = G * 2 := by
      rw [← hC, Array.size_append, size_zeroCells, size_zeroCells]
      show n * 2 + (G - n) * 2 = G * 2
      omega
    rw [hC] at hrz
    have hrow : PRow (w.drew.alloc (.cells C 52)) w.heap.size (.slice (some ⟨w.heap.size, 0, none⟩) 0 G) [] :=
      ⟨rfl, .inr ⟨w.heap.size, G, C, rfl, Nat.le_refl _, BlkM.of_blk (Blk.new w.drew _ _), Nat.zero_le _, hGm, hCz, rfl⟩⟩
    have HROW := Lib.hid hrow
    have hgp : 0 < n := by omega
    unfold maxLen at hGm
    clear hi hz0 hz1 hz2 hG hC hCz hrow h0
    go_enter Tryz.func68, Tryz.ntmps68
    go_wp2_with (at_builtin; refine Lib.wpList_append_run _ rfl _ _ _ _ rfl _ _ rfl rfl _ _ (hrz _) ?_)
    refine bodyPost_ret (results_tmp rfl _ _ _) rfl ⟨_, rfl, ?_, ((Below.refl _ _).alloc (Nat.le_refl _) _).drew⟩
    exact HROW.out
theorem grow_at (z : Int) (n : Nat) (h : z = n) (w : World) (hn : n ≤ 100000) : Calls Tryz.prog 68 #[.slice none 0 0, .int .i64 z] w fun e w' => ∃ v, e = .returned v ∧ PRow w' w.heap.size v [] ∧ Below w.heap.size w w' := by
  rw [h]; exact grow_nil n w hn
theorem step_append_many (w : World) {ops : Array Oper} {o : Oper} {a : Act} {K : Act → World → Prop} {Q : Exit → Act → World → Prop} {E : Prop} (hgd : o.guard = none) (s x : Operand)
    (ho : o.op = .call { callee := .builtin .append, args := #[s, x], argTypes := #[27, 27] })
    (base : Nat) (v : Value) (l : PairL) (hs : a.eval s = v) (hown : PRow w base v l)
    (ad : Addr) (c : Nat) (p : ByteArray × ByteArray) (hx : a.eval x = .slice (some ad) 1 c) (h0 : w.cell? (ad.add 0) = some (.string p.1)) (h1 : w.cell? (ad.add 1) = some (.string p.2)) (hlen : (l.length + 1) * 32 ≤ 140737488355328) (hbase : base ≤ w.heap.size) {w0 : World} (hbel : Below base w0 w)
    (h : ∀ v' w', PRow w' base v' (l ++ [p]) → Below base w0 w' → w.grownBy w' v.ownBlock → K (a.put o.dst v') w') : if Region.wanted o (yielded ops a.tmps) = true then Oper.wp Tryz.prog o a w K Q else E := by
  rw [if_pos (by simp [Region.wanted, hgd])]
  obtain ⟨i0, hi, hz0, hz1, hz2⟩ := info_parts infoPair
  refine wp_append_m w s x _ ho base 52 i0 _ 2 32 Tryz.underlying27 hi hz0 hz1 hz2 rfl (by decide) v l.length _ hs hown ad 1 c [.string p.1, .string p.2] hx (by simp) ?_ ?_ (by unfold maxLen; omega) (by omega) hbase ?_
  · intro j u hu
    match j with
    | 0 => cases hu; exact h0
    | 1 => cases hu; exact h1
    | j + 2 => simp at hu
  · intro u hu
    simp at hu
    rcases hu with rfl | rfl <;> rfl
  · intro v' w' r1 r2 r3
    refine h v' w' ?_ (hbel.grown r2 hbase fun k hk => (hown.lt k hk).1) r2
    unfold PRow
    rw [List.length_append, pairCells_snoc]
    exact r1
theorem wpList_append_many (w : World) {ops : Array Oper} {rest : List Oper} {o : Oper} {a : Act} {Q : Exit → Act → World → Prop} (hgd : o.guard = none) (s x : Operand)
    (ho : o.op = .call { callee := .builtin .append, args := #[s, x], argTypes := #[27, 27] })
    (base : Nat) (v : Value) (l : PairL) (hs : a.eval s = v) (hown : PRow w base v l)
    (vx : Value) (m : PairL) (hx : a.eval x = vx) (hm : SRd w vx 2 m.length (pairCells m)) (hlen : (l.length + m.length) * 32 ≤ 140737488355328) (hbase : base ≤ w.heap.size) {w0 : World} (hbel : Below base w0 w)
    (h : ∀ v' w', PRow w' base v' (l ++ m) → Below base w0 w' → w.grownBy w' v.ownBlock → wpList Tryz.prog ops Q rest (a.put o.dst v') w') : wpList Tryz.prog ops Q (o :: rest) a w := by
  obtain ⟨i0, hi, hz0, hz1, hz2⟩ := info_parts infoPair
  obtain ⟨h1, A, cap, rfl, h2, h3, h4⟩ := hm
  rcases A with _ | ad
  · have hm0 : m = [] := by
      rcases m with _ | ⟨p, m⟩
      · rfl
      · obtain ⟨b, o, hA, _⟩ := h4 (by simp)
        cases hA
    subst hm0
    have hrun : (Builtin.append_ #[27, 27] o.type #[v, .slice none 0 cap]).run Tryz.prog w = .ok v w := by
      rcases hown.2 with ⟨rfl, h0⟩ | ⟨g, cap', cur, rfl, _, _, hnc, _⟩
      · simp [Builtin.append_, run_underlying Tryz.underlying27, sizeOf, typeInfo, hi, Builtin.lenOf, Builtin.firstCells]
      · simp [Builtin.append_, run_underlying Tryz.underlying27, sizeOf, typeInfo, hi, Builtin.lenOf, Builtin.firstCells, hnc, storeCells]
    refine Lib.wpList_append_run w hgd s x _ _ ho v _ hs hx v w hrun (h v w (by rw [List.append_nil]; exact hown) hbel ⟨rfl, rfl, rfl, Nat.le_refl _, fun _ _ _ => rfl⟩)
  · refine wpList_plain hgd fun _ hK => wp_append_m w s x _ ho base 52 i0 _ 2 32 Tryz.underlying27 hi hz0 hz1 hz2 rfl (by decide) v l.length _ hs hown ad m.length cap (pairCells m) hx (by rw [pairCells_len, Nat.mul_comm]) ?_ ?_ (by unfold maxLen; omega) (by omega) hbase ?_
    · intro j u hu
      have hpos : 0 < m.length := by
        have := (List.getElem?_eq_some_iff.1 hu).1
        rw [pairCells_len] at this
        omega
      obtain ⟨b, o, hA, _, hc⟩ := h4 hpos
      obtain rfl := Option.some.inj hA
      rw [Addr.add_lit]
      exact hc j u hu
    · intro u hu
      simp only [pairCells, List.mem_flatMap] at hu
      obtain ⟨q, _, hq⟩ := hu
      simp at hq
      rcases hq with rfl | rfl <;> rfl
    · intro v' w' r1 r2 _
      refine hK _ _ (h v' w' ?_ (hbel.grown r2 hbase fun k hk => (hown.lt k hk).1) r2)
      unfold PRow
      rw [List.length_append, pairCells_append]
      exact r1
set_option maxRecDepth 20000 in
set_option maxHeartbeats 4000000 in
theorem concat_any (x y : Value) (lx ly : PairL) (b : Nat) (w : World) (hx : SRd w x 2 lx.length (pairCells lx)) (hy : SRd w y 2 ly.length (pairCells ly)) (hlx : lx.length ≤ 10000) (hly : ly.length ≤ 10000)
    (c0 : w.cell? ⟨b, 0, none⟩ = some x) (c1 : w.cell? ⟨b, 1, none⟩ = some y) (hb : b < w.heap.size) :
    Calls Tryz.prog 48 #[.slice (some ⟨b, 0, none⟩) 2 2] w fun e w' => ∃ v, e = .returned v ∧ PRow w' w.heap.size v (lx ++ ly) ∧ Below w.heap.size w w' := by
  obtain ⟨hx1, Ax, cx, rfl, hx2, hx3, hx4⟩ := hx
  have hx : SRd w (.slice Ax lx.length cx) 2 lx.length (pairCells lx) := ⟨hx1, Ax, cx, rfl, hx2, hx3, hx4⟩
  obtain ⟨hy1, Ay, cy, rfl, hy2, hy3, hy4⟩ := hy
  have hy : SRd w (.slice Ay ly.length cy) 2 ly.length (pairCells ly) := ⟨hy1, Ay, cy, rfl, hy2, hy3, hy4⟩
  clear hx1 hx2 hx3 hx4 hy1 hy2 hy3 hy4
  go_enter Tryz.func48, Tryz.ntmps48
  go_wp2_with fail
  refine wp_loop_rounds 3 ?_
  rw [rounds_succ]
  go_wp2_with fail
  rw [rounds_succ]
  go_wp2_with fail
  rw [rounds_succ]
  go_wp2_with fail
  refine (grow_at _ (lx.length + ly.length) (by omega) _ (by omega)).mono ?_
  rintro e w2 ⟨v2, rfl, hr2, hb2⟩
  have hx2 := hx.on hb2
  have hy2 := hy.on hb2
  have d0 := (hb2.cell (p := ⟨b, 0, none⟩) hb).trans c0
  have d1 := (hb2.cell (p := ⟨b, 1, none⟩) hb).trans c1
  have hs2 := hb2.size
  clear hx c0 c1
  go_wp2_with fail
  refine wp_loop_rounds 3 ?_
  rw [rounds_succ]
  go_wp2_with (at_builtin; refine wpList_append_many _ rfl _ _ rfl w.heap.size v2 [] rfl hr2 _ lx rfl hx2 (by simp; omega) hs2 (w0 := w) hb2 ?_)
  intro v3 w3 hr3 hb3 hg3
  have hy3 := hy.on hb3
  have e1 := (hb3.cell (p := ⟨b, 1, none⟩) hb).trans ((hb2.cell (p := ⟨b, 1, none⟩) hb).symm.trans d1)
  have hs3 := hb3.size
  clear hr2 hb2 hg3 hx2 hy2 d0 d1 hy
  go_wp2_with fail
  rw [rounds_succ]
  go_wp2_with (at_builtin; refine wpList_append_many _ rfl _ _ rfl w.heap.size v3 lx rfl hr3 _ ly rfl hy3 (by omega) hs3 (w0 := w) hb3 ?_)
  intro v4 w4 hr4 hb4 hg4
  clear hr3 hb3 hg4
  go_wp2_with fail
  rw [rounds_succ]
  go_wp2_with fail
  go_ret
  exact ⟨_, rfl, hr4, hb4⟩
end Go.Proofs.YtadhlnpegigadaaGreatDoor
