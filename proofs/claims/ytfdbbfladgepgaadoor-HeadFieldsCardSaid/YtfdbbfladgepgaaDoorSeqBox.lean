/- A range over an iterator that keeps what is left of its string in a box of its own: the law of the caller. -/
import Derived.RangeFuncNested
import Derived.RangeFuncLeaves
import Derived.RangeFuncBound
namespace Go.Proofs.YtfdbbfladgepgaaDoor
open Go.RowKit
set_option linter.unusedVariables false
/-- What an iterator's step may turn: new blocks, its own box b, and what is no cells from B on. -/
structure But (b B : Nat) (A C : World) : Prop where
  os : C.os = A.os
  tape : C.tape = A.tape
  output : C.output = A.output
  size : A.heap.size ≤ C.heap.size
  cells : ∀ (k : Nat) (o : Obj), k ≠ b → A.heap[k]? = some o → (o.isCells = true ∨ k < B) → C.heap[k]? = some o
/-- An iterator's step: new blocks, and its own box b. -/
structure Step (b : Nat) (A C : World) : Prop where
  os : C.os = A.os
  tape : C.tape = A.tape
  output : C.output = A.output
  size : A.heap.size ≤ C.heap.size
  block : ∀ k, k ≠ b → k < A.heap.size → C.heap[k]? = A.heap[k]?
theorem Step.of_below {b : Nat} {A C : World} (h : Below A.heap.size A C) : Step b A C := ⟨h.os, h.tape, h.output, h.size, fun k _ hk => h.block k hk⟩
theorem Step.setBox (b : Nat) (A : World) (v : Value) : Step b A (A.setCell ⟨b, 0, none⟩ v) :=
  ⟨rfl, rfl, rfl, by simp [World.setCell], fun k hk _ => Below.heap_setCell A _ v k hk⟩
theorem Step.obj {b : Nat} {A C : World} (h : Step b A C) {k : Nat} {o : Obj} (hk : k ≠ b) (ho : A.heap[k]? = some o) : C.heap[k]? = some o :=
  (h.block k hk (Array.getElem?_eq_some_iff.1 ho).1).trans ho
/-- What a round keeps: what is no cells from B on, and the iterator's own blocks K. -/
structure Held (K : Nat → Prop) (B : Nat) (A C : World) : Prop where
  size : A.heap.size ≤ C.heap.size
  same : ∀ (k : Nat) (o : Obj), B ≤ k → A.heap[k]? = some o → o.isCells = false → C.heap[k]? = some o
  box : ∀ k, K k → C.heap[k]? = A.heap[k]?
theorem But.putObj {b B : Nat} {A : World} {l : Nat} {o : Obj} (hl : A.heap[l]? = some o) (ho : o.isCells = false) (hB : B ≤ l) (o' : Obj) : But b B A (A.putObj l o') :=
  ⟨rfl, rfl, rfl, by simp, fun k u _ hk hc => by
    by_cases e : k = l
    · subst e
      rw [hl] at hk
      cases hk
      rcases hc with hc | hc
      · rw [ho] at hc; cases hc
      · omega
    · exact (World.putObj_heap_other e).trans hk⟩
theorem But.of_below {b B : Nat} {A C : World} (h : Below A.heap.size A C) : But b B A C :=
  ⟨h.os, h.tape, h.output, h.size, fun k o _ hk _ => (h.block k (Array.getElem?_eq_some_iff.1 hk).1).trans hk⟩
theorem But.of_step {b B : Nat} {A C : World} (h : Step b A C) : But b B A C := ⟨h.os, h.tape, h.output, h.size, fun k o hk ho _ => h.obj hk ho⟩
theorem Held.refl (K : Nat → Prop) (B : Nat) (A : World) : Held K B A A := ⟨Nat.le_refl _, fun _ _ _ h _ => h, fun _ _ => rfl⟩
theorem Held.trans {K : Nat → Prop} {B : Nat} {X Y Z : World} (h : Held K B X Y) (k : Held K B Y Z) : Held K B X Z :=
  ⟨Nat.le_trans h.size k.size, fun i o hB hi ho => k.same i o hB (h.same i o hB hi ho) ho, fun j hj => (k.box j hj).trans (h.box j hj)⟩
theorem Held.of_below {K : Nat → Prop} {B n : Nat} {A C : World} (h : Below n A C) (hn : A.heap.size ≤ n) (hb : ∀ k, K k → k < A.heap.size) : Held K B A C :=
  ⟨h.size, fun k o _ hk _ => (h.block k (Nat.lt_of_lt_of_le (Array.getElem?_eq_some_iff.1 hk).1 hn)).trans hk, fun k hk => h.block k (Nat.lt_of_lt_of_le (hb k hk) hn)⟩
theorem Held.setCell {K : Nat → Prop} {B : Nat} (A : World) {a : Addr} (ha : ¬ K a.block) (v : Value) : Held K B A (A.setCell a v) :=
  ⟨(KeepsOthers.setCell A a v).size, fun k o _ hk ho => (KeepsOthers.setCell A a v).same k o hk ho, fun k hk => Below.heap_setCell A a v k (fun e => ha (e ▸ hk))⟩
theorem But.below {b B n : Nat} {w A C : World} (h : Below n w A) (hn : n ≤ w.heap.size) (k : But b B A C) (hb : n ≤ b) (hB : n ≤ B) : Below n w C :=
  h.trans ⟨k.os, k.tape, k.output, k.size, fun j hj => by
    have hlt : j < A.heap.size := Nat.lt_of_lt_of_le hj (Nat.le_trans hn h.size)
    have hj2 : A.heap[j]? = some A.heap[j] := Array.getElem?_eq_getElem hlt
    rw [hj2]
    exact k.cells j _ (by omega) hj2 (.inr (by omega))⟩
theorem But.cell {b B : Nat} {A C : World} (k : But b B A C) {p : Addr} {v : Value} (hp : p.block ≠ b) (h : A.cell? p = some v) : C.cell? p = some v := by
  obtain ⟨o, ho, hc⟩ := cells_of_cell h
  exact (World.cell?_of_block ((k.cells _ o hp ho (.inl hc)).trans ho.symm)).trans h
theorem But.blk {b B : Nat} {A C : World} (k : But b B A C) {j : Nat} {cs : Array Value} {t : TypeId} {fr : Nat × Nat} (hj : j ≠ b) (h : A.heap[j]? = some (.cells cs t fr)) : C.heap[j]? = some (.cells cs t fr) :=
  k.cells j _ hj h (.inl rfl)
/-- How the body of a round may be left. -/
def boxPost (K : Nat → Prop) (B : Nat) (I : List ByteArray → World → Prop) (Ix : Code → List ByteArray → World → Prop) (xs : List ByteArray) (W : World) : Exit → Act → World → Prop
  | .normal, _, W' => Held K B W W' ∧ I xs W'
  | .ret, _, W' => Held K B W W' ∧ Ix .ret xs W'
  | .exit id, _, W' => Held K B W W' ∧ Ix (.exit id) xs W'
  | .goto t, _, W' => Held K B W W' ∧ Ix (.goto t) xs W'
  | .panic _, _, _ => False
  | .outgrown, _, _ => False
/-- The iterator's contract: the strings xs come one by one, till a round says no more. -/
def SeqBox (n : Nat) (P : Program) (g : Nat) (lb : Array Value) (b : Nat) (K : Nat → Prop) (xs : List ByteArray) (w0 : World) : Prop :=
  ∀ (l : Nat) (J Jx : List ByteArray → World → Prop) (W : World), Below w0.heap.size w0 W →
    (∀ s A C, J s A → Step b A C → J s C) → (∀ s A C, Jx s A → Step b A C → Jx s C) →
    (∀ pre x W1, J pre W1 → pre ++ [x] <+: xs → YieldAt Fence.wide (n - 1) P l #[.string x] W1 fun e W' =>
      (e = .returned (.bool true) ∧ J (pre ++ [x]) W' ∧ ∀ k, K k → W'.heap[k]? = W1.heap[k]?) ∨ (e = .returned (.bool false) ∧ Jx (pre ++ [x]) W')) →
    J [] W →
    CallsIn Fence.wide n P g (#[.func (.yield l) #[] #[]] ++ lb) W fun e W' => (∃ v, e = .returned v) ∧ (J xs W' ∨ (∃ pre, pre <+: xs ∧ Jx pre W'))
theorem wpIn_rangeBox {n : Nat} {P : Program} {g : Operand} {p : Tmp} {assign body : Code} {Q : Exit → Act → World → Prop} {a : Act} {w : World}
    {gf : Nat} {lb : Array Value} (hg : a.eval g = .func (.func gf) #[] lb) (eg : ∀ args w, (callFunc gf args).run P w = .ok (.enter gf args) w)
    {b : Nat} {K : Nat → Prop} {xs : List ByteArray} (hseq : SeqBox (n - 1) P gf lb b K xs w) (hbl : b < w.heap.size) (hKl : ∀ k, K k → k < w.heap.size)
    (I : List ByteArray → World → Prop) (Ix : Code → List ByteArray → World → Prop) (hI : ∀ s A C, I s A → But b w.heap.size A C → I s C) (hIx : ∀ c s A C, Ix c s A → But b w.heap.size A C → Ix c s C)
    (h0 : I [] w) (a₁ : ByteArray → Act)
    (hassign : ∀ (l : Nat) (x : ByteArray) (W : World) (K : Act → World → Prop), K (a₁ x) W →
      assign.wpIn (Fence.wide.inRound l) (n - 1 - 1) P (Exit.then K (fun _ _ _ => False)) { tmps := a.tmps.setIfInBounds p (.string x), defers := [] } W)
    (hbody : ∀ (l : Nat) (pre : List ByteArray) (x : ByteArray) (W : World), w.heap.size ≤ W.heap.size → I pre W → pre ++ [x] <+: xs → body.wpIn (Fence.wide.inRound l) (n - 1 - 1) P (boxPost K w.heap.size I Ix (pre ++ [x]) W) (a₁ x) W)
    (hdone : ∀ (D : Nat) (W : World), w.heap.size ≤ D → I xs W → W.heap[D]? = some (.deferred (some [])) → Q .normal { a with defers := { target := .collected D, args := #[] } :: a.defers } W)
    (hstop : ∀ (D : Nat) (c : Code) (pre : List ByteArray) (W : World), w.heap.size ≤ D → pre <+: xs → Ix c pre W → W.heap[D]? = some (.deferred (some [])) → c.wpIn Fence.wide n P Q { a with defers := { target := .collected D, args := #[] } :: a.defers } W) :
    (Code.rangeFunc g #[p] assign body).wpIn Fence.wide n P Q a w := by
  refine wpIn_rangeFunc ?_
  intro fn hfn
  rw [show Fence.wide.round = none from rfl]
  obtain ⟨rec, hrec⟩ : ∃ rec : LoopState → Option Code → Loop, rec = fun st pe => { state := st, pending := pe, fn, tmps := a.tmps, params := #[p], assign, body, defers := w.heap.size } := ⟨_, rfl⟩
  obtain ⟨L, hLz⟩ : ∃ L, w.heap.size + 1 = L := ⟨_, rfl⟩
  obtain ⟨W1, hW1⟩ : ∃ W1, (w.alloc (.deferred (some []))).alloc (.loop (rec .ready none)) = W1 := ⟨_, rfl⟩
  have hb1 : Below w.heap.size w W1 := by rw [← hW1]; exact ((Below.refl _ w).alloc (Nat.le_refl _) _).alloc (by simp) _
  have hL1 : W1.heap[L]? = some (.loop (rec .ready none)) := by
    rw [← hW1, ← hLz]; have := World.alloc_heap_new (w.alloc (.deferred (some []))) (.loop (rec .ready none)); rwa [World.size_alloc] at this
  have hK1 : W1.heap[w.heap.size]? = some (.deferred (some [])) := by
    rw [← hW1]; exact (Below.heap_alloc _ _ _ (by simp)).trans (World.alloc_heap_new w _)
  refine ⟨L, [{ target := .collected w.heap.size, args := #[] }], W1, { target := .fn (.func gf) lb, args := #[.func (.yield L) #[] #[]] }, W1, gf,
    #[.func (.yield L) #[] #[]] ++ lb, W1, ?_, ?_, ?_, ?_, (fun h => by cases h), ?_⟩
  · rw [← hW1, hrec, ← hLz]; exact run_enterLoop_outer _ _ _ _ _
  · simp only [resolve, hg]
    simp [go_sem]
  · exact fun _ _ => trivial
  · simp [invoke, go_sem, eg]
  · refine (hseq L
      (fun pre W => I pre W ∧ W.heap[L]? = some (.loop (rec .ready none)) ∧ W.heap[w.heap.size]? = some (.deferred (some [])) ∧ w.heap.size ≤ W.heap.size)
      (fun pre W => ∃ c, Ix c pre W ∧ W.heap[L]? = some (.loop (rec .done (some c))) ∧ W.heap[w.heap.size]? = some (.deferred (some [])))
      W1 hb1 ?_ ?_ ?_ ⟨hI _ _ _ h0 (.of_below hb1), hL1, hK1, hb1.size⟩).mono ?_
    · rintro s A C ⟨h1, h2, h3, h4⟩ hs
      exact ⟨hI _ _ _ h1 (.of_step hs), hs.obj (by omega) h2, hs.obj (by omega) h3, Nat.le_trans h4 hs.size⟩
    · rintro s A C ⟨c, h1, h2, h3⟩ hs
      exact ⟨c, hIx _ _ _ _ h1 (.of_step hs), hs.obj (by omega) h2, hs.obj (by omega) h3⟩
    · rintro pre x W ⟨hi, hl, hk, hz⟩ hpx
      have hy := run_yield (P := P) (args := #[.string x]) hl (by rw [hrec]; rfl)
      rw [hrec] at hy
      refine ⟨fn, _, assign, body, hy, roundIn_of_wpIn hfn ?_⟩
      have hz1 : ∀ T : Array Value, ((#[p] : Array Tmp).zip #[Value.string x]).foldl (fun t (q, v) => t.setIfInBounds q v) T = T.setIfInBounds p (.string x) := fun T => by simp
      simp only [hz1]
      refine hassign L x W _ ?_
      refine ⟨_, run_beginRound hl (by rw [hrec]), ?_⟩
      obtain ⟨o2, ho2⟩ : ∃ o2 : Obj, Obj.loop { rec .ready none with state := .busy } = o2 := ⟨_, rfl⟩
      rw [ho2]
      have hl2 : (W.putObj L o2).heap[L]? = some o2 := World.putObj_heap_same (Array.getElem?_eq_some_iff.1 hl).1
      have hk2 : (W.putObj L o2).heap[w.heap.size]? = some (.deferred (some [])) := (World.putObj_heap_other (by omega)).trans hk
      have hx2 : ∀ k, K k → (W.putObj L o2).heap[k]? = W.heap[k]? := fun k hk => World.putObj_heap_other (by have := hKl k hk; omega)
      have ho2c : o2.isCells = false := by rw [← ho2]; rfl
      refine wpIn_mono (hbody _ pre x _ (by simpa using hz) (hI _ _ _ hi (.putObj hl rfl (by omega) _)) hpx) ?_
      have fin : ∀ (jump : Option Code) (W3 : World), Held K w.heap.size (W.putObj L o2) W3 →
          ∃ o3 : Obj, o3 = .loop (rec (if jump.isNone then .ready else .done) jump) ∧ (Instr.endRound L jump).run P W3 = .ok (.bool jump.isNone) (W3.putObj L o3) ∧ But b w.heap.size W3 (W3.putObj L o3) ∧
          (W3.putObj L o3).heap[L]? = some o3 ∧ (W3.putObj L o3).heap[w.heap.size]? = some (.deferred (some [])) ∧ (∀ k, K k → (W3.putObj L o3).heap[k]? = W.heap[k]?) ∧ w.heap.size ≤ (W3.putObj L o3).heap.size := fun jump W3 h3 => by
        have hl3 := h3.same L o2 (by omega) hl2 ho2c
        refine ⟨_, rfl, ?_, .putObj hl3 ho2c (by omega) _, World.putObj_heap_same (Array.getElem?_eq_some_iff.1 hl3).1, (World.putObj_heap_other (by omega)).trans (h3.same _ _ (Nat.le_refl _) hk2 rfl),
          fun k hk => (World.putObj_heap_other (by have := hKl k hk; omega)).trans ((h3.box k hk).trans (hx2 k hk)), ?_⟩
        · rw [← ho2] at hl3
          have := run_endRound (P := P) jump hl3
          rw [hrec] at this ⊢
          exact this
        · have := h3.size
          simp at this ⊢
          omega
      rintro e a3 W3 hp
      cases e with
      | normal =>
        obtain ⟨h3, hi3⟩ := hp
        obtain ⟨o3, rfl, hr, hb3, hl4, hk4, hx4, hz4⟩ := fin none W3 h3
        exact ⟨_, _, hr, .inl ⟨rfl, ⟨hI _ _ _ hi3 hb3, hl4, hk4, hz4⟩, hx4⟩⟩
      | ret =>
        obtain ⟨h3, hi3⟩ := hp
        obtain ⟨o3, rfl, hr, hb3, hl4, hk4, _⟩ := fin (some .ret) W3 h3
        exact ⟨_, _, hr, .inr ⟨rfl, .ret, hIx _ _ _ _ hi3 hb3, hl4, hk4⟩⟩
      | exit id =>
        obtain ⟨h3, hi3⟩ := hp
        obtain ⟨o3, rfl, hr, hb3, hl4, hk4, _⟩ := fin (some (.exit id)) W3 h3
        exact ⟨_, _, hr, .inr ⟨rfl, .exit id, hIx _ _ _ _ hi3 hb3, hl4, hk4⟩⟩
      | goto t =>
        obtain ⟨h3, hi3⟩ := hp
        obtain ⟨o3, rfl, hr, hb3, hl4, hk4, _⟩ := fin (some (.goto t)) W3 h3
        exact ⟨_, _, hr, .inr ⟨rfl, .goto t, hIx _ _ _ _ hi3 hb3, hl4, hk4⟩⟩
      | panic ch => exact hp.elim
      | outgrown => exact hp.elim
    · rintro e W2 ⟨⟨v, rfl⟩, (⟨hi, hl, hk, _⟩ | ⟨pre, hpx, c, hi, hl, hk⟩)⟩
      · refine ⟨none, _, by have := run_endLoop (P := P) hl (by rw [hrec]; simp); rw [hrec] at this; exact this, hdone _ _ (Nat.le_refl _) (hI _ _ _ hi (.putObj hl rfl (by omega) _)) ((World.putObj_heap_other (by omega)).trans hk)⟩
      · refine ⟨some c, _, by have := run_endLoop (P := P) hl (by rw [hrec]; simp); rw [hrec] at this; exact this, hstop _ c pre _ (Nat.le_refl _) hpx (hIx _ _ _ _ hi (.putObj hl rfl (by omega) _)) ((World.putObj_heap_other (by omega)).trans hk)⟩
end Go.Proofs.YtfdbbfladgepgaaDoor
