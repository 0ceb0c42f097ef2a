/- TargetHas: the walk; slices.Clone of strings. -/
import Derived.Test.YtadhlnpegigadaaGreatDoorTargetFact
import Derived.Test.YtadhlnpegigadaaGreatDoorStrRow
namespace Go.Proofs.YtadhlnpegigadaaGreatDoor
open Go.ChangeShapes Go.WideShapes Go.ChangeAt Go.RowKit Go.Shelf
set_option linter.unusedVariables false
set_option linter.unusedSimpArgs false
theorem box7h {w : World} {g : Nat} {t : TypeId} {a b c d e f h : Value} (hB : Blk w g t #[a, b, c, d, e, f, h]) : w.cell? ⟨g, 0, none⟩ = some a ∧ w.cell? ⟨g, 1, none⟩ = some b ∧ w.cell? ⟨g, 2, none⟩ = some c ∧ w.cell? ⟨g, 3, none⟩ = some d ∧ w.cell? ⟨g, 4, none⟩ = some e ∧ w.cell? ⟨g, 5, none⟩ = some f ∧ w.cell? ⟨g, 6, none⟩ = some h :=
  ⟨hB.cell 0, hB.cell 1, hB.cell 2, hB.cell 3, hB.cell 4, hB.cell 5, hB.cell 6⟩
def wB (l : List UInt8) : ByteArray := ⟨l.toArray⟩
theorem map_strV (ws : List (List UInt8)) : (ws.map wB).map Value.string = ws.map strV := by rw [List.map_map]; rfl
theorem clone_str (ws : List (List UInt8)) (v : Value) (w : World) (hv : WRd w v ws) (hl : ws.length * 16 ≤ 140737488351232) : Calls Tryz.prog 22 #[v] w fun e w' =>
    ∃ u, e = .returned u ∧ TRow w' w.heap.size u (ws.map wB) ∧ Below w.heap.size w w' := by
  obtain ⟨hlen, A, cap, rfl, h1, h2, h3⟩ := hv
  rcases ws with _ | ⟨x, r⟩
  · rcases A with _ | a
    · refine (Tryz.slices_Clone_string_nil _ _ w).mono ?_
      rintro e w' ⟨rfl, rfl⟩
      exact ⟨_, rfl, TRow.nil _ _, Below.refl _ _⟩
    · refine (Tryz.slices_Clone_string_zero a _ w).mono ?_
      rintro e w' ⟨v', rfl, hr, _, hb⟩
      exact ⟨_, rfl, MRow.of_own hr, hb⟩
  · obtain ⟨b, o, rfl, hb, hc⟩ := h3 (by simp)
    have hcl := Tryz.slices_Clone_string b o (x :: r).length cap ((x :: r).map wB) w (by simp) (by omega) (fun j hj => by
      refine hc j _ ?_
      rw [List.length_map] at hj
      rw [List.getElem?_map, List.getElem?_eq_getElem hj, List.getD_eq_getElem?_getD, List.getElem?_map, List.getElem?_eq_getElem hj]
      rfl)
    refine hcl.mono ?_
    rintro e w' ⟨v', rfl, hr, _, hb⟩
    have ht : ((x :: r).map wB).take (x :: r).length = (x :: r).map wB := List.take_of_length_le (by simp)
    rw [ht] at hr
    refine ⟨_, rfl, ?_, hb⟩
    have := MRow.of_own hr
    unfold TRow
    rw [List.length_map]
    exact this
theorem wpList_append_str2 (w : World) {ops : Array Oper} {rest : List Oper} {o : Oper} {a : Act} {Q : Exit → Act → World → Prop} (hgd : o.guard = none) (s x : Operand)
    (ho : o.op = .call { callee := .builtin .append, args := #[s, x], argTypes := #[22, 22] })
    (base : Nat) (v : Value) (l : List ByteArray) (hs : a.eval s = v) (hown : TRow w base v l)
    (ad : Addr) (p : ByteArray) (c : Nat) (hx : a.eval x = .slice (some ad) 1 c) (h0 : w.cell? (ad.add 0) = some (.string p))
    (hlen : (l.length + 1) * 16 ≤ 140737488355328) (hbase : base ≤ w.heap.size) {w0 : World} (hbel : Below base w0 w)
    (h : ∀ v' w', TRow w' base v' (l ++ [p]) → Below base w0 w' → w.grownBy w' v.ownBlock → wpList Tryz.prog ops Q rest (a.put o.dst v') w') : wpList Tryz.prog ops Q (o :: rest) a w := by
  obtain ⟨i0, hi, hz0, hz1, hz2⟩ := info_parts infoStr
  refine wpList_plain hgd fun _ hK => wp_append_m w s x _ ho base 9 i0 _ 1 16 Tryz.underlying22 hi hz0 hz1 hz2 rfl (by decide) v l.length _ hs hown ad 1 c [.string p] hx (by simp) ?_ ?_ (by unfold maxLen; omega) (by omega) hbase ?_
  · intro j u hu
    match j with
    | 0 => cases hu; exact h0
    | j + 1 => simp at hu
  · intro u hu
    simp at hu
    subst hu
    rfl
  · intro v' w' r1 r2 r3
    refine hK _ _ (h v' w' ?_ (hbel.grown r2 hbase fun k hk => (hown.lt k hk).1) r2)
    unfold TRow
    rw [List.length_append, List.map_append]
    exact r1
end Go.Proofs.YtadhlnpegigadaaGreatDoor
