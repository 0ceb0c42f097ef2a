/- One's things (own, record) in memory, and what a call may change of them. -/
import Derived.Test.YtadhlnpegigadaaGreatDoorNegoNew
import Derived.Test.YtadhlnpegigadaaGreatDoorNegoP
import Derived.Maps.AppendAt
namespace Go.Proofs.YtadhlnpegigadaaGreatDoor
open Go.ChangeShapes Go.WideShapes Go.ChangeAt Go.RowKit Go.Shelf
set_option linter.unusedVariables false
structure NF (S : List Nat) (A C : World) : Prop where
  os : C.os = A.os
  tape : C.tape = A.tape
  output : C.output = A.output
  size : A.heap.size ≤ C.heap.size
  block : ∀ k, k < A.heap.size → k ∉ S → C.heap[k]? = A.heap[k]?
theorem NF.of_below {S : List Nat} {A C : World} (h : Below A.heap.size A C) : NF S A C := ⟨h.os, h.tape, h.output, h.size, fun k hk _ => h.block k hk⟩
theorem NF.refl (S : List Nat) (A : World) : NF S A A := ⟨rfl, rfl, rfl, Nat.le_refl _, fun _ _ _ => rfl⟩
theorem NF.trans {S S' : List Nat} {A B C : World} (h : NF S A B) (k : NF S' B C) (hs : ∀ x ∈ S', x ∈ S ∨ A.heap.size ≤ x) : NF S A C :=
  ⟨k.os.trans h.os, k.tape.trans h.tape, k.output.trans h.output, Nat.le_trans h.size k.size, fun x hx hn => by
    refine (k.block x (Nat.lt_of_lt_of_le hx h.size) fun hm => ?_).trans (h.block x hx hn)
    rcases hs x hm with h1 | h1
    · exact hn h1
    · omega⟩
theorem NF.then_below {S : List Nat} {A B C : World} (h : NF S A B) (k : Below B.heap.size B C) : NF S A C := h.trans (NF.of_below (S := []) k) (by simp)
theorem NF.below {S : List Nat} {A C : World} {n : Nat} (h : NF S A C) (hS : ∀ x ∈ S, n ≤ x) (hn : n ≤ A.heap.size) : Below n A C :=
  ⟨h.os, h.tape, h.output, h.size, fun k hk => h.block k (by omega) fun hm => by have := hS k hm; omega⟩
theorem below_nf {S : List Nat} {w0 A C : World} (h0 : Below w0.heap.size w0 A) (h : NF S A C) (hS : ∀ x ∈ S, w0.heap.size ≤ x) : Below w0.heap.size w0 C := h0.trans (h.below hS h0.size)
/- rows of pairs of one's own -/
def ORow (w : World) (base : Nat) (v : Value) (l : PairL) : Prop := w.ownsRow base 52 2 v l.length (pairCells l)
theorem ORow.keep {w w' : World} {base : Nat} {v : Value} {l : PairL} (h : ORow w base v l) (hk : ∀ k, v.ownBlock = some k → w'.heap[k]? = w.heap[k]?) : ORow w' base v l := by
  refine ⟨h.1, ?_⟩
  rcases h.2 with hn | ⟨g, cap, cur, rfl, h2, h3, h4⟩
  · exact .inl hn
  · exact .inr ⟨g, cap, cur, rfl, h2, (hk g rfl).trans h3, h4⟩
theorem ORow.lt {w : World} {base : Nat} {v : Value} {l : PairL} (h : ORow w base v l) : ∀ k, v.ownBlock = some k → base ≤ k ∧ k < w.heap.size := World.ownsRow.lt h
theorem ORow.row {w : World} {base : Nat} {v : Value} {l : PairL} (h : ORow w base v l) : PRow w base v l := MRow.of_own h
theorem ORow.rd {w : World} {base : Nat} {v : Value} {l : PairL} (h : ORow w base v l) : SRd w v 2 l.length (pairCells l) := SRd.of_m h.row
theorem ORow.nil (w : World) (base : Nat) : ORow w base (.slice none 0 0) [] := World.ownsRow_nil w base _ _
theorem ORow.form {w : World} {base : Nat} {v : Value} {l : PairL} (h : ORow w base v l) : ∃ A cap, v = .slice A l.length cap := by
  obtain ⟨A, cap, h1, _⟩ := h.row.form
  exact ⟨A, cap, h1⟩
theorem ORow.alloc {w : World} {base : Nat} {v : Value} {l : PairL} (h : ORow w base v l) (o : Obj) : ORow (w.alloc o) base v l := h.keep fun k hk => Below.heap_alloc _ _ _ (h.lt k hk).2
theorem ORow.drew {w : World} {base : Nat} {v : Value} {l : PairL} (h : ORow w base v l) : ORow w.drew base v l := h
theorem ORow.drewN {w : World} {base : Nat} {v : Value} {l : PairL} (h : ORow w base v l) (k : Nat) : ORow (w.drewN k) base v l := h
theorem ORow.on {w w' : World} {base : Nat} {v : Value} {l : PairL} (h : ORow w base v l) (hb : Below w.heap.size w w') : ORow w' base v l := h.keep fun k hk => hb.block k (h.lt k hk).2
theorem wpList_append_po (w : World) {ops : Array Oper} {rest : List Oper} {o : Oper} {a : Act} {Q : Exit → Act → World → Prop} (hgd : o.guard = none) (s x : Operand)
    (ho : o.op = .call { callee := .builtin .append, args := #[s, x], argTypes := #[27, 27] })
    (base : Nat) (v : Value) (l : PairL) (hs : a.eval s = v) (hown : ORow w base v l)
    (ad : Addr) (c : Nat) (p : ByteArray × ByteArray) (hx : a.eval x = .slice (some ad) 1 c) (h0 : w.cell? (ad.add 0) = some (.string p.1)) (h1 : w.cell? (ad.add 1) = some (.string p.2)) (hlen : (l.length + 1) * 32 ≤ 140737488355328) (hbase : base ≤ w.heap.size)
    (h : ∀ v' w', ORow w' base v' (l ++ [p]) → w.grownBy w' v.ownBlock → (v'.ownBlock = v.ownBlock ∨ v'.ownBlock = some w.heap.size) → wpList Tryz.prog ops Q rest (a.put o.dst v') w') : wpList Tryz.prog ops Q (o :: rest) a w := by
  obtain ⟨i0, hi, hz0, hz1, hz2⟩ := info_parts infoPair
  refine wpList_append_own_at w hgd s x _ ho base 52 i0 _ 2 32 Tryz.underlying27 hi hz0 hz1 hz2 rfl (by decide) v l.length _ hs hown ad 1 c [.string p.1, .string p.2] hx (by simp) ?_ ?_ (by unfold maxLen; omega) (by omega) hbase ?_
  · intro j u hu
    match j with
    | 0 => cases hu; exact h0
    | 1 => cases hu; exact h1
    | j + 2 => simp at hu
  · intro u hu
    simp at hu
    rcases hu with rfl | rfl <;> rfl
  · intro v' w' r1 r2 _ r4
    refine h v' w' ?_ r2 r4
    unfold ORow
    rw [List.length_append, pairCells_snoc]
    exact r1
theorem step_append_po (w : World) {ops : Array Oper} {o : Oper} {a : Act} {K : Act → World → Prop} {Q : Exit → Act → World → Prop} {E : Prop} (hgd : o.guard = none) (s x : Operand)
    (ho : o.op = .call { callee := .builtin .append, args := #[s, x], argTypes := #[27, 27] })
    (base : Nat) (v : Value) (l : PairL) (hs : a.eval s = v) (hown : ORow w base v l)
    (ad : Addr) (c : Nat) (p : ByteArray × ByteArray) (hx : a.eval x = .slice (some ad) 1 c) (h0 : w.cell? (ad.add 0) = some (.string p.1)) (h1 : w.cell? (ad.add 1) = some (.string p.2)) (hlen : (l.length + 1) * 32 ≤ 140737488355328) (hbase : base ≤ w.heap.size)
    (h : ∀ v' w', ORow w' base v' (l ++ [p]) → w.grownBy w' v.ownBlock → (v'.ownBlock = v.ownBlock ∨ v'.ownBlock = some w.heap.size) → K (a.put o.dst v') w') : if Region.wanted o (yielded ops a.tmps) = true then Oper.wp Tryz.prog o a w K Q else E := by
  rw [if_pos (by simp [Region.wanted, hgd])]
  obtain ⟨i0, hi, hz0, hz1, hz2⟩ := info_parts infoPair
  obtain ⟨v', w', hr, h2, h3, _, h5⟩ := run_append_own_at (P := Tryz.prog) w base 27 o.type 52 i0 _ 2 32 Tryz.underlying27 hi hz0 hz1 hz2 rfl (by decide) v l.length _ hown ad 1 c [.string p.1, .string p.2] (by simp) (by
    intro j u hu
    match j with
    | 0 => cases hu; exact h0
    | 1 => cases hu; exact h1
    | j + 2 => simp at hu) (by
    intro u hu
    simp at hu
    rcases hu with rfl | rfl <;> rfl) (by unfold maxLen; omega) (by omega) hbase
  unfold Oper.wp execOp
  simp only [ho, resolve, invoke, builtin, Sem.run_bind, Sem.run_pure, Result.andThen_ok, List.map_toArray, List.map_cons, List.map_nil, hs, hx, hr]
  refine h v' w' ?_ h3 h5
  unfold ORow
  rw [List.length_append, pairCells_snoc]
  exact h2
/- one's things: the blocks of S are its own -/
def NegoH (w : World) (S : List Nat) (g : Nat) (own rc : PairL) : Prop := ∃ ov rv, Blk w g 99 #[ov, rv] ∧ PRow w 0 ov own ∧ ORow w 0 rv rc ∧ g ∈ S ∧ (∀ k, ov.ownBlock = some k → k ∈ S ∧ k ≠ g ∧ rv.ownBlock ≠ some k) ∧ (∀ k, rv.ownBlock = some k → k ∈ S ∧ k ≠ g) ∧ ∀ k ∈ S, k < w.heap.size
theorem NegoH.keep {w w' : World} {S : List Nat} {g : Nat} {own rc : PairL} (h : NegoH w S g own rc) (hz : w.heap.size ≤ w'.heap.size) (hk : ∀ k ∈ S, w'.heap[k]? = w.heap[k]?) : NegoH w' S g own rc := by
  obtain ⟨ov, rv, h1, h2, h3, h4, h5, h6, h7⟩ := h
  exact ⟨ov, rv, (hk g h4).trans h1, h2.keep fun k hb => hk k (h5 k hb).1, h3.keep fun k hb => hk k (h6 k hb).1, h4, h5, h6, fun k hm => Nat.lt_of_lt_of_le (h7 k hm) hz⟩
theorem NegoH.on {w w' : World} {S : List Nat} {g : Nat} {own rc : PairL} (h : NegoH w S g own rc) (hb : Below w.heap.size w w') : NegoH w' S g own rc := by
  obtain ⟨ov, rv, _, _, _, _, _, _, h7⟩ := id h
  exact h.keep hb.size fun k hm => hb.block k (h7 k hm)
theorem NegoH.lt {w : World} {S : List Nat} {g : Nat} {own rc : PairL} (h : NegoH w S g own rc) : ∀ k ∈ S, k < w.heap.size := by
  obtain ⟨ov, rv, _, _, _, _, _, _, h7⟩ := h
  exact h7
theorem NegoH.other {w w' : World} {S S' : List Nat} {g : Nat} {own rc : PairL} (h : NegoH w S g own rc) (hf : NF S' w w') (hd : ∀ k ∈ S, k ∉ S') : NegoH w' S g own rc :=
  h.keep hf.size fun k hm => hf.block k (h.lt k hm) (hd k hm)
theorem NegoH.new {w : World} {base g : Nat} {ov : Value} {own : PairL} (hg : base ≤ g) (hB : NegoAt w g ov (.slice none 0 0)) (hr : PRow w base ov own) (hne : ∀ k, ov.ownBlock = some k → k ≠ g) : ∃ S, NegoH w S g own [] ∧ ∀ k ∈ S, base ≤ k := by
  rcases ho : ov.ownBlock with _ | b
  · refine ⟨[g], ⟨ov, _, hB, hr.more (Nat.zero_le _), ORow.nil _ _, by simp, fun k hk => (by rw [ho] at hk; cases hk), fun k hk => (by cases hk), fun k hk => by obtain rfl := List.mem_singleton.1 hk; exact hB.lt⟩, fun k hk => by obtain rfl := List.mem_singleton.1 hk; exact hg⟩
  · have hb := hr.lt b ho
    have hn := hne b ho
    refine ⟨[g, b], ⟨ov, _, hB, hr.more (Nat.zero_le _), ORow.nil _ _, by simp, fun k hk => ?_, fun k hk => (by cases hk), fun k hk => ?_⟩, fun k hk => ?_⟩
    · rw [ho] at hk
      cases hk
      exact ⟨by simp, hn, by simp [Value.ownBlock]⟩
    · simp at hk
      rcases hk with rfl | rfl
      · exact hB.lt
      · exact hb.2
    · simp at hk
      rcases hk with rfl | rfl
      · exact hg
      · exact hb.1
end Go.Proofs.YtadhlnpegigadaaGreatDoor
