/- Rows of strings that the call itself made; gather.Split: its contract. -/
import Derived.Test.YtadhlnpegigadaaGreatDoorGbase
import Derived.Deep.RegionLaw
namespace Go.Proofs.YtadhlnpegigadaaGreatDoor
open Go.ChangeShapes Go.WideShapes Go.ChangeAt Go.RowKit
set_option linter.unusedVariables false
theorem infoStr : (Tryz.prog.info? 9).map (fun i => (i.zero, i.size, i.bytes)) = some (some (.string ⟨#[]⟩), 1, 16) := by kernel_rfl
def TRow (w : World) (base : Nat) (v : Value) (l : List ByteArray) : Prop := MRow w base 9 1 v l.length (l.map Value.string)
theorem wpList_append_str (w : World) {ops : Array Oper} {rest : List Oper} {o : Oper} {a : Act} {Q : Exit → Act → World → Prop} (hgd : o.guard = none) (s x : Operand)
    (ho : o.op = .call { callee := .builtin .append, args := #[s, x], argTypes := #[22, 22] })
    (base : Nat) (v : Value) (l : List ByteArray) (hs : a.eval s = v) (hown : TRow w base v l)
    (ad : Addr) (p : ByteArray) (c : Nat) (hx : a.eval x = .slice (some ad) 1 c) (h0 : w.cell? (ad.add 0) = some (.string p))
    (hlen : l.length ≤ 1000000) (hbase : base ≤ w.heap.size) {w0 : World} (hbel : Below base w0 w)
    (h : ∀ v' w', TRow w' base v' (l ++ [p]) → v' ≠ .slice none 0 0 → Below base w0 w' → w.grownBy w' v.ownBlock → wpList Tryz.prog ops Q rest (a.put o.dst v') w') : wpList Tryz.prog ops Q (o :: rest) a w := by
  obtain ⟨i0, hi, hz0, hz1, hz2⟩ := info_parts infoStr
  refine wpList_plain hgd fun _ hK => wp_append_m w s x _ ho base 9 i0 _ 1 16 Tryz.underlying22 hi hz0 hz1 hz2 rfl (by decide) v l.length _ hs hown ad 1 c [.string p] hx (by simp) ?_ ?_ (by unfold maxLen; omega) (by omega) hbase ?_
  · intro j u hu
    match j with
    | 0 => cases hu; exact h0
    | j + 1 => simp at hu
  · intro u hu
    simp at hu
    subst hu
    rfl
  · intro v' w' r1 r2 r3
    refine hK _ _ (h v' w' ?_ (fun e => absurd (r3 e) (by decide)) (hbel.grown r2 hbase fun k hk => (hown.lt k hk).1) r2)
    unfold TRow
    rw [List.length_append, List.map_append]
    exact r1
theorem step_append_str (w : World) {ops : Array Oper} {o : Oper} {a : Act} {K : Act → World → Prop} {Q : Exit → Act → World → Prop} {E : Prop} (hgd : o.guard = none) (s x : Operand)
    (ho : o.op = .call { callee := .builtin .append, args := #[s, x], argTypes := #[22, 22] })
    (base : Nat) (v : Value) (l : List ByteArray) (hs : a.eval s = v) (hown : TRow w base v l)
    (ad : Addr) (p : ByteArray) (c : Nat) (hx : a.eval x = .slice (some ad) 1 c) (h0 : w.cell? (ad.add 0) = some (.string p))
    (hlen : l.length ≤ 1000000) (hbase : base ≤ w.heap.size) {w0 : World} (hbel : Below base w0 w)
    (h : ∀ v' w', TRow w' base v' (l ++ [p]) → v' ≠ .slice none 0 0 → Below base w0 w' → w.grownBy w' v.ownBlock → K (a.put o.dst v') w') : if Region.wanted o (yielded ops a.tmps) = true then Oper.wp Tryz.prog o a w K Q else E := by
  rw [if_pos (by simp [Region.wanted, hgd])]
  obtain ⟨i0, hi, hz0, hz1, hz2⟩ := info_parts infoStr
  refine wp_append_m w s x _ ho base 9 i0 _ 1 16 Tryz.underlying22 hi hz0 hz1 hz2 rfl (by decide) v l.length _ hs hown ad 1 c [.string p] hx (by simp) ?_ ?_ (by unfold maxLen; omega) (by omega) hbase ?_
  · intro j u hu
    match j with
    | 0 => cases hu; exact h0
    | j + 1 => simp at hu
  · intro u hu
    simp at hu
    subst hu
    rfl
  · intro v' w' r1 r2 r3
    refine h v' w' ?_ (fun e => absurd (r3 e) (by decide)) (hbel.grown r2 hbase fun k hk => (hown.lt k hk).1) r2
    unfold TRow
    rw [List.length_append, List.map_append]
    exact r1
theorem tcell0 (w : World) (t : TypeId) (a : Value) : (w.alloc (.cells #[a] t)).cell? ((⟨w.heap.size, 0, none⟩ : Addr).add 0) = some a := by
  rw [Addr.add_lit]
  exact (Blk.new w t _).cell 0
section
variable {w w' : World} {base : Nat} {v : Value} {l : List ByteArray}
theorem TRow.alloc (h : TRow w base v l) (o : Obj) : TRow (w.alloc o) base v l := MRow.alloc h o
theorem TRow.drew (h : TRow w base v l) : TRow w.drew base v l := h
theorem TRow.drewN (h : TRow w base v l) (k : Nat) : TRow (w.drewN k) base v l := h
theorem TRow.below {B : Nat} (h : TRow w base v l) (hb : Below B w w') (hB : w.heap.size ≤ B) : TRow w' base v l := MRow.below h hb hB
theorem TRow.nil (w : World) (base : Nat) : TRow w base (.slice none 0 0) [] := MRow.nil w base _ _
end
end Go.Proofs.YtadhlnpegigadaaGreatDoor
