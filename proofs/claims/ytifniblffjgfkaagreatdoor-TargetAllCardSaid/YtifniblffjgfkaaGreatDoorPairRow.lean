/- Rows of pairs that a call makes: append of one, of many; slices.Clone. -/
import Derived.Test.YtifniblffjgfkaaGreatDoorPairsParse
import Derived.Lib.AppendZeros
import Derived.Lib.SliceRun
namespace Go.Proofs.YtifniblffjgfkaaGreatDoor
open Go.ChangeShapes Go.WideShapes Go.ChangeAt Go.RowKit
set_option linter.unusedVariables false
theorem step_append_pair (w : World) {ops : Array Oper} {o : Oper} {a : Act} {K : Act → World → Prop} {Q : Exit → Act → World → Prop} {E : Prop} (hgd : o.guard = none) (s x : Operand)
    (ho : o.op = .call { callee := .builtin .append, args := #[s, x], argTypes := #[75, 75] })
    (base : Nat) (v : Value) (l : PairL) (hs : a.eval s = v) (hown : PRow w base v l)
    (ad : Addr) (c : Nat) (p : ByteArray × ByteArray) (hx : a.eval x = .slice (some ad) 1 c) (h0 : w.cell? (ad.add 0) = some (.string p.1)) (h1 : w.cell? (ad.add 1) = some (.string p.2)) (hlen : (l.length + 1) * 32 ≤ 140737488355328) (hbase : base ≤ w.heap.size) {w0 : World} (hbel : Below base w0 w)
    (h : ∀ v' w', PRow w' base v' (l ++ [p]) → Below base w0 w' → w.grownBy w' v.ownBlock → K (a.put o.dst v') w') : if Region.wanted o (yielded ops a.tmps) = true then Oper.wp Tryz.prog o a w K Q else E := by
  rw [if_pos (by simp [Region.wanted, hgd])]
  obtain ⟨i0, hi, hz0, hz1, hz2⟩ := info_parts infoPair
  refine wp_append_m w s x _ ho base 96 i0 _ 2 32 Tryz.underlying75 hi hz0 hz1 hz2 rfl (by decide) v l.length _ hs hown ad 1 c [.string p.1, .string p.2] hx (by simp) ?_ ?_ (by unfold maxLen; omega) (by omega) hbase ?_
  · intro j u hu
    match j with
    | 0 => cases hu; exact h0
    | 1 => cases hu; exact h1
    | j + 2 => simp at hu
  · intro u hu
    simp at hu
    rcases hu with rfl | rfl <;> rfl
  · intro v' w' r1 r2 r3
    refine h v' w' ?_ (hbel.grown r2 hbase fun k hk => (hown.lt k hk).1) r2
    unfold PRow
    rw [List.length_append, pairCells_snoc]
    exact r1
theorem wpList_append_pairs (w : World) {ops : Array Oper} {rest : List Oper} {o : Oper} {a : Act} {Q : Exit → Act → World → Prop} (hgd : o.guard = none) (s x : Operand)
    (ho : o.op = .call { callee := .builtin .append, args := #[s, x], argTypes := #[75, 75] })
    (base : Nat) (v : Value) (l : PairL) (hs : a.eval s = v) (hown : PRow w base v l)
    (vx : Value) (m : PairL) (hx : a.eval x = vx) (hm : SRd w vx 2 m.length (pairCells m)) (hlen : (l.length + m.length) * 32 ≤ 140737488355328) (hbase : base ≤ w.heap.size) {w0 : World} (hbel : Below base w0 w)
    (h : ∀ v' w', PRow w' base v' (l ++ m) → Below base w0 w' → w.grownBy w' v.ownBlock → wpList Tryz.prog ops Q rest (a.put o.dst v') w') : wpList Tryz.prog ops Q (o :: rest) a w := by
  obtain ⟨i0, hi, hz0, hz1, hz2⟩ := info_parts infoPair
  obtain ⟨h1, A, cap, rfl, h2, h3, h4⟩ := hm
  rcases A with _ | ad
  · have hm0 : m = [] := by
      rcases m with _ | ⟨p, m⟩
      · rfl
      · obtain ⟨b, o, hA, _⟩ := h4 (by simp)
        cases hA
    subst hm0
    have hrun : (Builtin.append_ #[75, 75] o.type #[v, .slice none 0 cap]).run Tryz.prog w = .ok v w := by
      rcases hown.2 with ⟨rfl, h0⟩ | ⟨g, cap', cur, rfl, _, _, hnc, _⟩
      · simp [Builtin.append_, run_underlying Tryz.underlying75, sizeOf, typeInfo, hi, Builtin.lenOf, Builtin.firstCells]
      · simp [Builtin.append_, run_underlying Tryz.underlying75, sizeOf, typeInfo, hi, Builtin.lenOf, Builtin.firstCells, hnc, storeCells]
    refine Lib.wpList_append_run w hgd s x _ _ ho v _ hs hx v w hrun (h v w (by rw [List.append_nil]; exact hown) hbel ⟨rfl, rfl, rfl, Nat.le_refl _, fun _ _ _ => rfl⟩)
  · refine wpList_plain hgd fun _ hK => wp_append_m w s x _ ho base 96 i0 _ 2 32 Tryz.underlying75 hi hz0 hz1 hz2 rfl (by decide) v l.length _ hs hown ad m.length cap (pairCells m) hx (by rw [pairCells_len, Nat.mul_comm]) ?_ ?_ (by unfold maxLen; omega) (by omega) hbase ?_
    · intro j u hu
      have hpos : 0 < m.length := by
        have := (List.getElem?_eq_some_iff.1 hu).1
        rw [pairCells_len] at this
        omega
      obtain ⟨b, o, hA, _, hc⟩ := h4 hpos
      obtain rfl := Option.some.inj hA
      rw [Addr.add_lit]
      exact hc j u hu
    · intro u hu
      simp only [pairCells, List.mem_flatMap] at hu
      obtain ⟨q, _, hq⟩ := hu
      simp at hq
      rcases hq with rfl | rfl <;> rfl
    · intro v' w' r1 r2 _
      refine hK _ _ (h v' w' ?_ (hbel.grown r2 hbase fun k hk => (hown.lt k hk).1) r2)
      unfold PRow
      rw [List.length_append, pairCells_append]
      exact r1
set_option maxHeartbeats 2000000 in
theorem clone_pair (l : PairL) (v : Value) (w : World) (hv : SRd w v 2 l.length (pairCells l)) (hl : l.length * 32 ≤ 140737488351232) : Calls Tryz.prog 100 #[v] w fun e w' =>
    ∃ u, e = .returned u ∧ PRow w' w.heap.size u l ∧ Below w.heap.size w w' := by
  have hv0 := hv
  obtain ⟨hlen, A, cap, rfl, hcap, hmax, hcell⟩ := hv
  unfold maxLen at hmax
  have hnil : A = none → l = [] := by
    intro hA
    rcases l with _ | ⟨p, l⟩
    · rfl
    · obtain ⟨b, o, hA2, _⟩ := hcell (by simp)
      rw [hA] at hA2; cases hA2
  clear hcell hlen
  have heq := fun (w : World) (a : Option Addr) (n c : Nat) => Lib.run_eql_slice_nil (P := Tryz.prog) w 75 96 a n c 0 0 Tryz.underlying75
  go_enter Tryz.func100, Tryz.ntmps100
  rcases A with _ | a
  · have h0 := hnil rfl
    subst h0
    clear hnil
    go_wp2_with fail
    go_ret
    exact ⟨_, rfl, MRow.nil _ _ _ _, Below.refl _ _⟩
  · have hown : PRow (w.alloc (.cells #[] 96)) w.heap.size (.slice (some ⟨w.heap.size, 0, none⟩) 0 0) [] :=
      ⟨rfl, .inr ⟨w.heap.size, 0, #[], rfl, Nat.le_refl _, BlkM.of_blk (Blk.new w _ _), Nat.le_refl _, by decide, rfl, rfl⟩⟩
    have hb0 : Below w.heap.size w (w.alloc (.cells #[] 96)) := (Below.refl _ _).alloc (Nat.le_refl _) _
    have hv1 := hv0.on hb0
    go_wp2_with (at_builtin; refine wpList_append_pairs _ rfl _ _ rfl w.heap.size _ [] rfl hown _ l rfl hv1 (by simp; omega) (by simp) (w0 := w) hb0 ?_)
    intro v1 w1 hr1 hb1 hg1
    go_wp2_with fail
    go_ret
    exact ⟨_, rfl, hr1, hb1⟩
end Go.Proofs.YtifniblffjgfkaaGreatDoor
