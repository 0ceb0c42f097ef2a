/- SeqBox HeadPlain SplitSeq HeadRow HeadLaid SeqRegion. -/
import Derived.RangeFuncNested
import Derived.RangeFuncLeaves
import Derived.RangeFuncBound
import Derived.Lib.ItoaNum
import Derived.Lib.Fields
import Derived.Lib.Split
import Derived.Lib.Atoi
import Derived.Test.YtadhlnpegigadaaGreatDoorGbase
import Derived.Test.YtadhlnpegigadaaGreatDoorShelf
import Derived.Shelf.Abstract
import Derived.WalkKit
import Derived.OwnWalkIn
import Derived.TacticsInMore
import Derived.LoopNIn
import Derived.LoopIn
import Derived.Shelf.RegionOpen
import Derived.Lib.LaidU8
import Derived.ProofKit
import Derived.OrdersHeld
import Derived.OrdersIn
import Derived.RangeFuncCalls
import Derived.Deep.RegionHeld3
/- A range over an iterator that keeps what is left of its string in a box of its own: the law of the caller. -/
namespace Go.Proofs.YtadhlnpegigadaaGreatDoor
open Go.RowKit
set_option linter.unusedVariables false
/-- What an iterator's step may turn: new blocks, its own box b, and what is no cells from B on. -/
structure But (b B : Nat) (A C : World) : Prop where
  os : C.os = A.os
  tape : C.tape = A.tape
  output : C.output = A.output
  size : A.heap.size ≤ C.heap.size
  cells : ∀ (k : Nat) (o : Obj), k ≠ b → A.heap[k]? = some o → (o.isCells = true ∨ k < B) → C.heap[k]? = some o
/-- An iterator's step: new blocks, and its own box b. -/
structure Step (b : Nat) (A C : World) : Prop where
  os : C.os = A.os
  tape : C.tape = A.tape
  output : C.output = A.output
  size : A.heap.size ≤ C.heap.size
  block : ∀ k, k ≠ b → k < A.heap.size → C.heap[k]? = A.heap[k]?
theorem Step.of_below {b : Nat} {A C : World} (h : Below A.heap.size A C) : Step b A C := ⟨h.os, h.tape, h.output, h.size, fun k _ hk => h.block k hk⟩
theorem Step.setBox (b : Nat) (A : World) (v : Value) : Step b A (A.setCell ⟨b, 0, none⟩ v) :=
  ⟨rfl, rfl, rfl, by simp [World.setCell], fun k hk _ => Below.heap_setCell A _ v k hk⟩
theorem Step.obj {b : Nat} {A C : World} (h : Step b A C) {k : Nat} {o : Obj} (hk : k ≠ b) (ho : A.heap[k]? = some o) : C.heap[k]? = some o :=
  (h.block k hk (Array.getElem?_eq_some_iff.1 ho).1).trans ho
/-- What a round keeps: what is no cells from B on, and the iterator's own blocks K. -/
structure Held (K : Nat → Prop) (B : Nat) (A C : World) : Prop where
  size : A.heap.size ≤ C.heap.size
  same : ∀ (k : Nat) (o : Obj), B ≤ k → A.heap[k]? = some o → o.isCells = false → C.heap[k]? = some o
  box : ∀ k, K k → C.heap[k]? = A.heap[k]?
theorem But.putObj {b B : Nat} {A : World} {l : Nat} {o : Obj} (hl : A.heap[l]? = some o) (ho : o.isCells = false) (hB : B ≤ l) (o' : Obj) : But b B A (A.putObj l o') :=
  ⟨rfl, rfl, rfl, by simp, fun k u _ hk hc => by
    by_cases e : k = l
    · subst e
      rw [hl] at hk
      cases hk
      rcases hc with hc | hc
      · rw [ho] at hc; cases hc
      · omega
    · exact (World.putObj_heap_other e).trans hk⟩
theorem But.of_below {b B : Nat} {A C : World} (h : Below A.heap.size A C) : But b B A C :=
  ⟨h.os, h.tape, h.output, h.size, fun k o _ hk _ => (h.block k (Array.getElem?_eq_some_iff.1 hk).1).trans hk⟩
theorem But.of_step {b B : Nat} {A C : World} (h : Step b A C) : But b B A C := ⟨h.os, h.tape, h.output, h.size, fun k o hk ho _ => h.obj hk ho⟩
theorem Held.refl (K : Nat → Prop) (B : Nat) (A : World) : Held K B A A := ⟨Nat.le_refl _, fun _ _ _ h _ => h, fun _ _ => rfl⟩
theorem Held.trans {K : Nat → Prop} {B : Nat} {X Y Z : World} (h : Held K B X Y) (k : Held K B Y Z) : Held K B X Z :=
  ⟨Nat.le_trans h.size k.size, fun i o hB hi ho => k.same i o hB (h.same i o hB hi ho) ho, fun j hj => (k.box j hj).trans (h.box j hj)⟩
theorem Held.of_below {K : Nat → Prop} {B n : Nat} {A C : World} (h : Below n A C) (hn : A.heap.size ≤ n) (hb : ∀ k, K k → k < A.heap.size) : Held K B A C :=
  ⟨h.size, fun k o _ hk _ => (h.block k (Nat.lt_of_lt_of_le (Array.getElem?_eq_some_iff.1 hk).1 hn)).trans hk, fun k hk => h.block k (Nat.lt_of_lt_of_le (hb k hk) hn)⟩
theorem Held.setCell {K : Nat → Prop} {B : Nat} (A : World) {a : Addr} (ha : ¬ K a.block) (v : Value) : Held K B A (A.setCell a v) :=
  ⟨(KeepsOthers.setCell A a v).size, fun k o _ hk ho => (KeepsOthers.setCell A a v).same k o hk ho, fun k hk => Below.heap_setCell A a v k (fun e => ha (e ▸ hk))⟩
theorem But.below {b B n : Nat} {w A C : World} (h : Below n w A) (hn : n ≤ w.heap.size) (k : But b B A C) (hb : n ≤ b) (hB : n ≤ B) : Below n w C :=
  h.trans ⟨k.os, k.tape, k.output, k.size, fun j hj => by
    have hlt : j < A.heap.size := Nat.lt_of_lt_of_le hj (Nat.le_trans hn h.size)
    have hj2 : A.heap[j]? = some A.heap[j] := Array.getElem?_eq_getElem hlt
    rw [hj2]
    exact k.cells j _ (by omega) hj2 (.inr (by omega))⟩
theorem But.cell {b B : Nat} {A C : World} (k : But b B A C) {p : Addr} {v : Value} (hp : p.block ≠ b) (h : A.cell? p = some v) : C.cell? p = some v := by
  obtain ⟨o, ho, hc⟩ := cells_of_cell h
  exact (World.cell?_of_block ((k.cells _ o hp ho (.inl hc)).trans ho.symm)).trans h
theorem But.blk {b B : Nat} {A C : World} (k : But b B A C) {j : Nat} {cs : Array Value} {t : TypeId} {fr : Nat × Nat} (hj : j ≠ b) (h : A.heap[j]? = some (.cells cs t fr)) : C.heap[j]? = some (.cells cs t fr) :=
  k.cells j _ hj h (.inl rfl)
/-- How the body of a round may be left. -/
def boxPost (K : Nat → Prop) (B : Nat) (I : List ByteArray → World → Prop) (Ix : Code → List ByteArray → World → Prop) (xs : List ByteArray) (W : World) : Exit → Act → World → Prop
  | .normal, _, W' => Held K B W W' ∧ I xs W'
  | .ret, _, W' => Held K B W W' ∧ Ix .ret xs W'
  | .exit id, _, W' => Held K B W W' ∧ Ix (.exit id) xs W'
  | .goto t, _, W' => Held K B W W' ∧ Ix (.goto t) xs W'
  | .panic _, _, _ => False
  | .outgrown, _, _ => False
/-- The iterator's contract: the strings xs come one by one, till a round says no more. -/
def SeqBox (n : Nat) (P : Program) (g : Nat) (lb : Array Value) (b : Nat) (K : Nat → Prop) (xs : List ByteArray) (w0 : World) : Prop :=
  ∀ (l : Nat) (J Jx : List ByteArray → World → Prop) (W : World), Below w0.heap.size w0 W →
    (∀ s A C, J s A → Step b A C → J s C) → (∀ s A C, Jx s A → Step b A C → Jx s C) →
    (∀ pre x W1, J pre W1 → pre ++ [x] <+: xs → YieldAt Fence.wide (n - 1) P l #[.string x] W1 fun e W' =>
      (e = .returned (.bool true) ∧ J (pre ++ [x]) W' ∧ ∀ k, K k → W'.heap[k]? = W1.heap[k]?) ∨ (e = .returned (.bool false) ∧ Jx (pre ++ [x]) W')) →
    J [] W →
    CallsIn Fence.wide n P g (#[.func (.yield l) #[] #[]] ++ lb) W fun e W' => (∃ v, e = .returned v) ∧ (J xs W' ∨ (∃ pre, pre <+: xs ∧ Jx pre W'))
theorem wpIn_rangeBox {n : Nat} {P : Program} {g : Operand} {p : Tmp} {assign body : Code} {Q : Exit → Act → World → Prop} {a : Act} {w : World}
    {gf : Nat} {lb : Array Value} (hg : a.eval g = .func (.func gf) #[] lb) (eg : ∀ args w, (callFunc gf args).run P w = .ok (.enter gf args) w)
    {b : Nat} {K : Nat → Prop} {xs : List ByteArray} (hseq : SeqBox (n - 1) P gf lb b K xs w) (hbl : b < w.heap.size) (hKl : ∀ k, K k → k < w.heap.size)
    (I : List ByteArray → World → Prop) (Ix : Code → List ByteArray → World → Prop) (hI : ∀ s A C, I s A → But b w.heap.size A C → I s C) (hIx : ∀ c s A C, Ix c s A → But b w.heap.size A C → Ix c s C)
    (h0 : I [] w) (a₁ : ByteArray → Act)
    (hassign : ∀ (l : Nat) (x : ByteArray) (W : World) (K : Act → World → Prop), K (a₁ x) W →
      assign.wpIn (Fence.wide.inRound l) (n - 1 - 1) P (Exit.then K (fun _ _ _ => False)) { tmps := a.tmps.setIfInBounds p (.string x), defers := [] } W)
    (hbody : ∀ (l : Nat) (pre : List ByteArray) (x : ByteArray) (W : World), w.heap.size ≤ W.heap.size → I pre W → pre ++ [x] <+: xs → body.wpIn (Fence.wide.inRound l) (n - 1 - 1) P (boxPost K w.heap.size I Ix (pre ++ [x]) W) (a₁ x) W)
    (hdone : ∀ (D : Nat) (W : World), w.heap.size ≤ D → I xs W → W.heap[D]? = some (.deferred (some [])) → Q .normal { a with defers := { target := .collected D, args := #[] } :: a.defers } W)
    (hstop : ∀ (D : Nat) (c : Code) (pre : List ByteArray) (W : World), w.heap.size ≤ D → pre <+: xs → Ix c pre W → W.heap[D]? = some (.deferred (some [])) → c.wpIn Fence.wide n P Q { a with defers := { target := .collected D, args := #[] } :: a.defers } W) :
    (Code.rangeFunc g #[p] assign body).wpIn Fence.wide n P Q a w := by
  refine wpIn_rangeFunc ?_
  intro fn hfn
  rw [show Fence.wide.round = none from rfl]
  obtain ⟨rec, hrec⟩ : ∃ rec : LoopState → Option Code → Loop, rec = fun st pe => { state := st, pending := pe, fn, tmps := a.tmps, params := #[p], assign, body, defers := w.heap.size } := ⟨_, rfl⟩
  obtain ⟨L, hLz⟩ : ∃ L, w.heap.size + 1 = L := ⟨_, rfl⟩
  obtain ⟨W1, hW1⟩ : ∃ W1, (w.alloc (.deferred (some []))).alloc (.loop (rec .ready none)) = W1 := ⟨_, rfl⟩
  have hb1 : Below w.heap.size w W1 := by rw [← hW1]; exact ((Below.refl _ w).alloc (Nat.le_refl _) _).alloc (by simp) _
  have hL1 : W1.heap[L]? = some (.loop (rec .ready none)) := by
    rw [← hW1, ← hLz]; have := World.alloc_heap_new (w.alloc (.deferred (some []))) (.loop (rec .ready none)); rwa [World.size_alloc] at this
  have hK1 : W1.heap[w.heap.size]? = some (.deferred (some [])) := by
    rw [← hW1]; exact (Below.heap_alloc _ _ _ (by simp)).trans (World.alloc_heap_new w _)
  refine ⟨L, [{ target := .collected w.heap.size, args := #[] }], W1, { target := .fn (.func gf) lb, args := #[.func (.yield L) #[] #[]] }, W1, gf,
    #[.func (.yield L) #[] #[]] ++ lb, W1, ?_, ?_, ?_, ?_, (fun h => by cases h), ?_⟩
  · rw [← hW1, hrec, ← hLz]; exact run_enterLoop_outer _ _ _ _ _
  · simp only [resolve, hg]
    simp [go_sem]
  · exact fun _ _ => trivial
  · simp [invoke, go_sem, eg]
  · refine (hseq L
      (fun pre W => I pre W ∧ W.heap[L]? = some (.loop (rec .ready none)) ∧ W.heap[w.heap.size]? = some (.deferred (some [])) ∧ w.heap.size ≤ W.heap.size)
      (fun pre W => ∃ c, Ix c pre W ∧ W.heap[L]? = some (.loop (rec .done (some c))) ∧ W.heap[w.heap.size]? = some (.deferred (some [])))
      W1 hb1 ?_ ?_ ?_ ⟨hI _ _ _ h0 (.of_below hb1), hL1, hK1, hb1.size⟩).mono ?_
    · rintro s A C ⟨h1, h2, h3, h4⟩ hs
      exact ⟨hI _ _ _ h1 (.of_step hs), hs.obj (by omega) h2, hs.obj (by omega) h3, Nat.le_trans h4 hs.size⟩
    · rintro s A C ⟨c, h1, h2, h3⟩ hs
      exact ⟨c, hIx _ _ _ _ h1 (.of_step hs), hs.obj (by omega) h2, hs.obj (by omega) h3⟩
    · rintro pre x W ⟨hi, hl, hk, hz⟩ hpx
      have hy := run_yield (P := P) (args := #[.string x]) hl (by rw [hrec]; rfl)
      rw [hrec] at hy
      refine ⟨fn, _, assign, body, hy, roundIn_of_wpIn hfn ?_⟩
      have hz1 : ∀ T : Array Value, ((#[p] : Array Tmp).zip #[Value.string x]).foldl (fun t (q, v) => t.setIfInBounds q v) T = T.setIfInBounds p (.string x) := fun T => by simp
      simp only [hz1]
      refine hassign L x W _ ?_
      refine ⟨_, run_beginRound hl (by rw [hrec]), ?_⟩
      obtain ⟨o2, ho2⟩ : ∃ o2 : Obj, Obj.loop { rec .ready none with state := .busy } = o2 := ⟨_, rfl⟩
      rw [ho2]
      have hl2 : (W.putObj L o2).heap[L]? = some o2 := World.putObj_heap_same (Array.getElem?_eq_some_iff.1 hl).1
      have hk2 : (W.putObj L o2).heap[w.heap.size]? = some (.deferred (some [])) := (World.putObj_heap_other (by omega)).trans hk
      have hx2 : ∀ k, K k → (W.putObj L o2).heap[k]? = W.heap[k]? := fun k hk => World.putObj_heap_other (by have := hKl k hk; omega)
      have ho2c : o2.isCells = false := by rw [← ho2]; rfl
      refine wpIn_mono (hbody _ pre x _ (by simpa using hz) (hI _ _ _ hi (.putObj hl rfl (by omega) _)) hpx) ?_
      have fin : ∀ (jump : Option Code) (W3 : World), Held K w.heap.size (W.putObj L o2) W3 →
          ∃ o3 : Obj, o3 = .loop (rec (if jump.isNone then .ready else .done) jump) ∧ (Instr.endRound L jump).run P W3 = .ok (.bool jump.isNone) (W3.putObj L o3) ∧ But b w.heap.size W3 (W3.putObj L o3) ∧
          (W3.putObj L o3).heap[L]? = some o3 ∧ (W3.putObj L o3).heap[w.heap.size]? = some (.deferred (some [])) ∧ (∀ k, K k → (W3.putObj L o3).heap[k]? = W.heap[k]?) ∧ w.heap.size ≤ (W3.putObj L o3).heap.size := fun jump W3 h3 => by
        have hl3 := h3.same L o2 (by omega) hl2 ho2c
        refine ⟨_, rfl, ?_, .putObj hl3 ho2c (by omega) _, World.putObj_heap_same (Array.getElem?_eq_some_iff.1 hl3).1, (World.putObj_heap_other (by omega)).trans (h3.same _ _ (Nat.le_refl _) hk2 rfl),
          fun k hk => (World.putObj_heap_other (by have := hKl k hk; omega)).trans ((h3.box k hk).trans (hx2 k hk)), ?_⟩
        · rw [← ho2] at hl3
          have := run_endRound (P := P) jump hl3
          rw [hrec] at this ⊢
          exact this
        · have := h3.size
          simp at this ⊢
          omega
      rintro e a3 W3 hp
      cases e with
      | normal =>
        obtain ⟨h3, hi3⟩ := hp
        obtain ⟨o3, rfl, hr, hb3, hl4, hk4, hx4, hz4⟩ := fin none W3 h3
        exact ⟨_, _, hr, .inl ⟨rfl, ⟨hI _ _ _ hi3 hb3, hl4, hk4, hz4⟩, hx4⟩⟩
      | ret =>
        obtain ⟨h3, hi3⟩ := hp
        obtain ⟨o3, rfl, hr, hb3, hl4, hk4, _⟩ := fin (some .ret) W3 h3
        exact ⟨_, _, hr, .inr ⟨rfl, .ret, hIx _ _ _ _ hi3 hb3, hl4, hk4⟩⟩
      | exit id =>
        obtain ⟨h3, hi3⟩ := hp
        obtain ⟨o3, rfl, hr, hb3, hl4, hk4, _⟩ := fin (some (.exit id)) W3 h3
        exact ⟨_, _, hr, .inr ⟨rfl, .exit id, hIx _ _ _ _ hi3 hb3, hl4, hk4⟩⟩
      | goto t =>
        obtain ⟨h3, hi3⟩ := hp
        obtain ⟨o3, rfl, hr, hb3, hl4, hk4, _⟩ := fin (some (.goto t)) W3 h3
        exact ⟨_, _, hr, .inr ⟨rfl, .goto t, hIx _ _ _ _ hi3 hb3, hl4, hk4⟩⟩
      | panic ch => exact hp.elim
      | outgrown => exact hp.elim
    · rintro e W2 ⟨⟨v, rfl⟩, (⟨hi, hl, hk, _⟩ | ⟨pre, hpx, c, hi, hl, hk⟩)⟩
      · refine ⟨none, _, by have := run_endLoop (P := P) hl (by rw [hrec]; simp); rw [hrec] at this; exact this, hdone _ _ (Nat.le_refl _) (hI _ _ _ hi (.putObj hl rfl (by omega) _)) ((World.putObj_heap_other (by omega)).trans hk)⟩
      · refine ⟨some c, _, by have := run_endLoop (P := P) hl (by rw [hrec]; simp); rw [hrec] at this; exact this, hstop _ c pre _ (Nat.le_refl _) hpx (hIx _ _ _ _ hi (.putObj hl rfl (by omega) _)) ((World.putObj_heap_other (by omega)).trans hk)⟩
end Go.Proofs.YtadhlnpegigadaaGreatDoor

/- What is known of heads: the table, its words, and what a number's numeral is. -/
namespace Go.Proofs.YtadhlnpegigadaaGreatDoor
set_option linter.unusedVariables false
def headT : List (Nat × List UInt8 × Nat × List (List UInt8 × Nat × Nat)) := [
  (0, [78, 111, 112, 79, 117, 116], 128, [([76, 85, 78], 8, 8), ([73, 84, 84], 16, 4), ([84, 84, 84], 20, 4), ([67, 109, 100, 83, 78], 24, 4), ([69, 120, 112, 83, 116, 97, 116, 83, 78], 28, 4)]),
  (1, [83, 99, 115, 105, 67, 111, 109, 109, 97, 110, 100], 231, [([76, 85, 78], 8, 8), ([73, 84, 84], 16, 4), ([76, 101, 110, 103, 116, 104], 20, 4), ([67, 109, 100, 83, 78], 24, 4), ([69, 120, 112, 83, 116, 97, 116, 83, 78], 28, 4), ([67, 100, 98, 65], 32, 8), ([67, 100, 98, 66], 40, 8)]),
  (2, [84, 97, 115, 107, 82, 101, 113, 117, 101, 115, 116], 255, [([76, 85, 78], 8, 8), ([73, 84, 84], 16, 4), ([82, 101, 102, 84, 97, 103], 20, 4), ([67, 109, 100, 83, 78], 24, 4), ([69, 120, 112, 83, 116, 97, 116, 83, 78], 28, 4), ([82, 101, 102, 67, 109, 100, 83, 78], 32, 4), ([69, 120, 112, 68, 97, 116, 97, 83, 78], 36, 4)]),
  (3, [76, 111, 103, 105, 110, 82, 101, 113, 117, 101, 115, 116], 207, [([86, 101, 114, 115, 105, 111, 110, 77, 97, 120], 2, 1), ([86, 101, 114, 115, 105, 111, 110, 77, 105, 110], 3, 1), ([73, 83, 73, 68], 8, 6), ([84, 83, 73, 72], 14, 2), ([73, 84, 84], 16, 4), ([67, 73, 68], 20, 2), ([67, 109, 100, 83, 78], 24, 4), ([69, 120, 112, 83, 116, 97, 116, 83, 78], 28, 4)]),
  (4, [84, 101, 120, 116, 82, 101, 113, 117, 101, 115, 116], 192, [([76, 85, 78], 8, 8), ([73, 84, 84], 16, 4), ([84, 84, 84], 20, 4), ([67, 109, 100, 83, 78], 24, 4), ([69, 120, 112, 83, 116, 97, 116, 83, 78], 28, 4)]),
  (5, [68, 97, 116, 97, 79, 117, 116], 128, [([76, 85, 78], 8, 8), ([73, 84, 84], 16, 4), ([84, 84, 84], 20, 4), ([69, 120, 112, 83, 116, 97, 116, 83, 78], 28, 4), ([68, 97, 116, 97, 83, 78], 36, 4), ([79, 102, 102, 115, 101, 116], 40, 4)]),
  (6, [76, 111, 103, 111, 117, 116, 82, 101, 113, 117, 101, 115, 116], 255, [([73, 84, 84], 16, 4), ([67, 73, 68], 20, 2), ([67, 109, 100, 83, 78], 24, 4), ([69, 120, 112, 83, 116, 97, 116, 83, 78], 28, 4)]),
  (16, [83, 110, 97, 99, 107], 143, [([76, 85, 78], 8, 8), ([73, 84, 84], 16, 4), ([84, 84, 84], 20, 4), ([69, 120, 112, 83, 116, 97, 116, 83, 78], 28, 4), ([66, 101, 103, 82, 117, 110], 40, 4), ([82, 117, 110, 76, 101, 110, 103, 116, 104], 44, 4)]),
  (32, [78, 111, 112, 73, 110], 128, [([76, 85, 78], 8, 8), ([73, 84, 84], 16, 4), ([84, 84, 84], 20, 4), ([83, 116, 97, 116, 83, 78], 24, 4), ([69, 120, 112, 67, 109, 100, 83, 78], 28, 4), ([77, 97, 120, 67, 109, 100, 83, 78], 32, 4)]),
  (33, [83, 99, 115, 105, 82, 101, 115, 112, 111, 110, 115, 101], 158, [([82, 101, 115, 112, 111, 110, 115, 101], 2, 1), ([83, 116, 97, 116, 117, 115], 3, 1), ([73, 84, 84], 16, 4), ([83, 110, 97, 99, 107, 84, 97, 103], 20, 4), ([83, 116, 97, 116, 83, 78], 24, 4), ([69, 120, 112, 67, 109, 100, 83, 78], 28, 4), ([77, 97, 120, 67, 109, 100, 83, 78], 32, 4), ([69, 120, 112, 68, 97, 116, 97, 83, 78], 36, 4), ([66, 105, 100, 105, 82, 101, 115, 105, 100, 117, 97, 108], 40, 4), ([82, 101, 115, 105, 100, 117, 97, 108], 44, 4)]),
  (34, [84, 97, 115, 107, 82, 101, 115, 112, 111, 110, 115, 101], 128, [([82, 101, 115, 112, 111, 110, 115, 101], 2, 1), ([73, 84, 84], 16, 4), ([83, 116, 97, 116, 83, 78], 24, 4), ([69, 120, 112, 67, 109, 100, 83, 78], 28, 4), ([77, 97, 120, 67, 109, 100, 83, 78], 32, 4)]),
  (35, [76, 111, 103, 105, 110, 82, 101, 115, 112, 111, 110, 115, 101], 207, [([86, 101, 114, 115, 105, 111, 110, 77, 97, 120], 2, 1), ([86, 101, 114, 115, 105, 111, 110, 65, 99, 116, 105, 118, 101], 3, 1), ([73, 83, 73, 68], 8, 6), ([84, 83, 73, 72], 14, 2), ([73, 84, 84], 16, 4), ([83, 116, 97, 116, 83, 78], 24, 4), ([69, 120, 112, 67, 109, 100, 83, 78], 28, 4), ([77, 97, 120, 67, 109, 100, 83, 78], 32, 4), ([83, 116, 97, 116, 117, 115, 67, 108, 97, 115, 115], 36, 1), ([83, 116, 97, 116, 117, 115, 68, 101, 116, 97, 105, 108], 37, 1)]),
  (36, [84, 101, 120, 116, 82, 101, 115, 112, 111, 110, 115, 101], 192, [([76, 85, 78], 8, 8), ([73, 84, 84], 16, 4), ([84, 84, 84], 20, 4), ([83, 116, 97, 116, 83, 78], 24, 4), ([69, 120, 112, 67, 109, 100, 83, 78], 28, 4), ([77, 97, 120, 67, 109, 100, 83, 78], 32, 4)]),
  (37, [68, 97, 116, 97, 73, 110], 199, [([83, 116, 97, 116, 117, 115], 3, 1), ([76, 85, 78], 8, 8), ([73, 84, 84], 16, 4), ([84, 84, 84], 20, 4), ([83, 116, 97, 116, 83, 78], 24, 4), ([69, 120, 112, 67, 109, 100, 83, 78], 28, 4), ([77, 97, 120, 67, 109, 100, 83, 78], 32, 4), ([68, 97, 116, 97, 83, 78], 36, 4), ([79, 102, 102, 115, 101, 116], 40, 4), ([82, 101, 115, 105, 100, 117, 97, 108], 44, 4)]),
  (38, [76, 111, 103, 111, 117, 116, 82, 101, 115, 112, 111, 110, 115, 101], 128, [([82, 101, 115, 112, 111, 110, 115, 101], 2, 1), ([73, 84, 84], 16, 4), ([83, 116, 97, 116, 83, 78], 24, 4), ([69, 120, 112, 67, 109, 100, 83, 78], 28, 4), ([77, 97, 120, 67, 109, 100, 83, 78], 32, 4), ([84, 105, 109, 101, 50, 87, 97, 105, 116], 40, 2), ([84, 105, 109, 101, 50, 82, 101, 116, 97, 105, 110], 42, 2)]),
  (49, [82, 50, 84], 128, [([76, 85, 78], 8, 8), ([73, 84, 84], 16, 4), ([84, 84, 84], 20, 4), ([83, 116, 97, 116, 83, 78], 24, 4), ([69, 120, 112, 67, 109, 100, 83, 78], 28, 4), ([77, 97, 120, 67, 109, 100, 83, 78], 32, 4), ([82, 50, 84, 83, 78], 36, 4), ([79, 102, 102, 115, 101, 116], 40, 4), ([76, 101, 110, 103, 116, 104], 44, 4)]),
  (50, [65, 115, 121, 110, 99], 128, [([76, 85, 78], 8, 8), ([73, 84, 84], 16, 4), ([83, 116, 97, 116, 83, 78], 24, 4), ([69, 120, 112, 67, 109, 100, 83, 78], 28, 4), ([77, 97, 120, 67, 109, 100, 83, 78], 32, 4), ([69, 118, 101, 110, 116], 36, 1), ([86, 67, 111, 100, 101], 37, 1), ([80, 97, 114, 97, 109, 101, 116, 101, 114, 49], 38, 2), ([80, 97, 114, 97, 109, 101, 116, 101, 114, 50], 40, 2), ([80, 97, 114, 97, 109, 101, 116, 101, 114, 51], 42, 2)]),
  (63, [82, 101, 106, 101, 99, 116], 128, [([82, 101, 97, 115, 111, 110], 2, 1), ([73, 84, 84], 16, 4), ([83, 116, 97, 116, 83, 78], 24, 4), ([69, 120, 112, 67, 109, 100, 83, 78], 28, 4), ([77, 97, 120, 67, 109, 100, 83, 78], 32, 4), ([68, 97, 116, 97, 83, 78], 36, 4)])]

def dg3 (u : Nat) : List UInt8 :=
  if u < 10 then [UInt8.ofNat (48 + u)] else if u < 100 then [UInt8.ofNat (48 + u / 10), UInt8.ofNat (48 + u % 10)] else [UInt8.ofNat (48 + u / 100), UInt8.ofNat (48 + u / 10 % 10), UInt8.ofNat (48 + u % 10)]
theorem dg3_eq {u : Nat} (h : u < 1000) : Lib.decDigits u = dg3 u := by
  unfold dg3
  by_cases h1 : u < 10
  · rw [if_pos h1, Lib.decDigits_one h1]
  · rw [if_neg h1]
    by_cases h2 : u < 100
    · rw [if_pos h2, Lib.decDigits_two h1 h2]
    · rw [if_neg h2, Lib.decDigits, dif_neg h1, Lib.decDigits_two (by omega) (by omega), Nat.div_div_eq_div_mul]
      rfl
def joinC (c : UInt8) : List (List UInt8) → List UInt8
  | [] => []
  | [p] => p
  | p :: q :: l => p ++ c :: joinC c (q :: l)
abbrev HeadR := Nat × List UInt8 × Nat × List (List UInt8 × Nat × Nat)
def fieldW (f : List UInt8 × Nat × Nat) : List UInt8 := f.1 ++ 58 :: (dg3 f.2.1 ++ 58 :: dg3 f.2.2)
def rowWords (r : HeadR) : List (List UInt8) := dg3 r.1 :: r.2.1 :: dg3 r.2.2.1 :: r.2.2.2.map fieldW
def piecesH : List (List UInt8) := headT.map fun r => joinC 32 (rowWords r)
def rowsH : List UInt8 := joinC 124 piecesH
theorem piecesH_no : ∀ p ∈ piecesH, ∀ x ∈ p, x ≠ 124 := by decide +kernel
theorem piecesH_ascii : ∀ p ∈ piecesH, ∀ x ∈ p, x.toNat < 128 := by decide +kernel
theorem piecesH_size : ∀ p ∈ piecesH, p.length < 1000 := by decide +kernel
theorem rowsH_size : rowsH.length < 10000 := by decide +kernel
theorem piecesH_fields : ∀ r ∈ headT, Lib.fields (joinC 32 (rowWords r)) = rowWords r := by decide +kernel
theorem headT_small : ∀ r ∈ headT, r.1 < 64 := by decide +kernel
def headRow (op : Int) : Option HeadR := headT.find? fun r => decide ((r.1 : Int) = op)
theorem dg3_inj : ∀ a b : Fin 100, dg3 a.val = dg3 b.val → a = b := by decide +kernel
theorem dg3_first : ∀ a : Fin 100, (dg3 a.val).head? ≠ some 45 := by decide +kernel
theorem dg3_len : ∀ a : Fin 100, (dg3 a.val).length ≤ 2 := by decide +kernel
theorem itoa_row (op : Int) (k : Nat) (hk : k < 100) : Lib.itoa op = dg3 k ↔ op = k := by
  constructor
  · intro h
    unfold Lib.itoa at h
    split at h
    · have := dg3_first ⟨k, hk⟩
      simp only at this
      rw [← h] at this
      exact absurd rfl this
    · rename_i hn
      obtain ⟨u, rfl⟩ := Int.eq_ofNat_of_zero_le (show 0 ≤ op by omega)
      rw [Int.toNat_natCast] at h
      have hl := dg3_len ⟨k, hk⟩
      simp only at hl
      rw [← h, Lib.decDigits_length] at hl
      have h1 := Lib.lt_pow_nDigits u
      have h2 : 10 ^ Lib.nDigits u ≤ 10 ^ 2 := Nat.pow_le_pow_right (by omega) hl
      have hu : u < 100 := by omega
      rw [dg3_eq (by omega)] at h
      have := dg3_inj ⟨u, hu⟩ ⟨k, hk⟩ h
      have := congrArg Fin.val this
      simp only at this
      omega
  · rintro rfl
    unfold Lib.itoa
    rw [if_neg (by omega), Int.toNat_natCast, dg3_eq (by omega)]
theorem find_stop {α : Type} (f : α → Bool) : ∀ (pre : List α) (x : α) (post : List α), (∀ y ∈ pre, f y = false) → f x = true → (pre ++ x :: post).find? f = some x
  | [], x, post, _, hx => by simp [hx]
  | y :: pre, x, post, h, hx => by
    rw [List.cons_append, List.find?_cons, h y (List.mem_cons_self ..)]
    exact find_stop f pre x post (fun z hz => h z (List.mem_cons_of_mem _ hz)) hx
end Go.Proofs.YtadhlnpegigadaaGreatDoor

/- strings.SplitSeq at a separator of one byte: the contract of its iterator. -/
namespace Go.Proofs.YtadhlnpegigadaaGreatDoor
open Go.ChangeShapes Go.WideShapes Go.ChangeAt Go.RowKit Go.Shelf
set_option linter.unusedVariables false
theorem splitSeq0 (s sep : ByteArray) (w : World) : Calls Tryz.prog 79 #[.string s, .string sep, .int .i64 0] w fun e w' =>
    e = .returned (.func (.func 96) #[] #[.pointer (some ⟨w.heap.size + 1, 0, none⟩), .pointer (some ⟨w.heap.size, 0, none⟩), .pointer (some ⟨w.heap.size + 2, 0, none⟩)]) ∧
    w' = ((w.alloc (.cells #[.string s] 9)).alloc (.cells #[.string sep] 9)).alloc (.cells #[.int .i64 0] 3) := by
  go_enter Tryz.func79, Tryz.ntmps79
  go_wp2_with fail
  go_ret
  exact ⟨rfl, rfl⟩
theorem splitSeq_any (s sep : ByteArray) (w : World) : Calls Tryz.prog 61 #[.string s, .string sep] w fun e w' =>
    e = .returned (.func (.func 96) #[] #[.pointer (some ⟨w.heap.size + 1, 0, none⟩), .pointer (some ⟨w.heap.size, 0, none⟩), .pointer (some ⟨w.heap.size + 2, 0, none⟩)]) ∧
    w' = ((w.alloc (.cells #[.string s] 9)).alloc (.cells #[.string sep] 9)).alloc (.cells #[.int .i64 0] 3) := by
  go_enter Tryz.func61, Tryz.ntmps61
  go_wp2_with fail
  refine (splitSeq0 s sep _).mono ?_
  rintro e w' ⟨rfl, rfl⟩
  go_wp2_with fail
  go_ret
  exact ⟨rfl, rfl⟩
def boxLen (b : Nat) (wr : World) : Nat := match wr.cell? ⟨b, 0, none⟩ with | some (.string s) => s.size | _ => 0
theorem boxLen_eq {b : Nat} {wr : World} {t : TypeId} {s : ByteArray} (h : Blk wr b t #[.string s]) : boxLen b wr = s.size := by
  have := h.cell 0
  unfold boxLen
  rw [this]
  rfl
theorem indexByte_no (a : List UInt8) (c : UInt8) (h : ∀ x ∈ a, x ≠ c) : Lib.indexByte a c = -1 := by
  induction a with
  | nil => rfl
  | cons x a ih =>
    have hx := h x (by simp)
    unfold Lib.indexByte
    rw [if_neg (by simpa using hx), ih (fun y hy => h y (by simp [hy]))]
    rfl
theorem indexByte_at (a b : List UInt8) (c : UInt8) (h : ∀ x ∈ a, x ≠ c) : Lib.indexByte (a ++ c :: b) c = a.length := by
  induction a with
  | nil => simp [Lib.indexByte]
  | cons x a ih =>
    have hx := h x (by simp)
    rw [List.cons_append]
    unfold Lib.indexByte
    rw [if_neg (by simpa using hx), ih (fun y hy => h y (by simp [hy])), if_neg (by simp <;> omega), List.length_cons]
    omega
theorem index_to (s : ByteArray) (c : UInt8) (k : Int) (h : Lib.indexByte s.data.toList c = k) (w : World) : Calls Tryz.prog 98 #[.string s, .string ⟨#[c]⟩] w fun e w' => e = .returned (.int .i64 k) ∧ w' = w := by
  rw [← h]
  exact Tryz.strings_Index_one s c w
attribute [local go_sem] Oper.semAt_some
set_option maxRecDepth 100000 in
set_option maxHeartbeats 2000000 in
theorem split_stops (n : Nat) (hn : 2 ≤ n) (c : UInt8) (ps : List (List UInt8)) (hne : ps ≠ []) (hno : ∀ p ∈ ps, ∀ x ∈ p, x ≠ c) (hsz : (joinC c ps).length < 1000000) (b : Nat) (w : World)
    (h0 : Blk w b 9 #[.string ⟨(joinC c ps).toArray⟩]) (h1 : Blk w (b + 1) 9 #[.string ⟨#[c]⟩]) (h2 : Blk w (b + 2) 3 #[.int .i64 0]) :
    SeqBox n Tryz.prog 96 #[.pointer (some ⟨b + 1, 0, none⟩), .pointer (some ⟨b, 0, none⟩), .pointer (some ⟨b + 2, 0, none⟩)] b (fun k => b ≤ k ∧ k ≤ b + 2) (ps.map fun p => ⟨p.toArray⟩) w := by
  intro l J Jx W hbW hJ hJx hY hJ0
  refine callsIn_of_wp Tryz.func96 rfl trivial ?_ rfl
  simp only [Tryz.ntmps96, List.size_toArray, List.length_cons, List.length_nil, Nat.reduceAdd, Nat.reduceSub, Array.replicate_succ, Array.replicate_zero, List.push_toArray, List.append_toArray, List.nil_append, List.cons_append]
  have B0 := h0.below hbW h0.lt
  have B1 := h1.below hbW h1.lt
  have B2 := h2.below hbW h2.lt
  have c1 := B1.cell 0
  gi_wp2
  clear c1
  gi_loopw [7] (fun _ wr => ∃ (pre : List (List UInt8)) (p : List UInt8) (rest : List (List UInt8)), ps = pre ++ p :: rest ∧ Blk wr b 9 #[.string ⟨(joinC c (p :: rest)).toArray⟩] ∧ Blk wr (b + 1) 9 #[.string ⟨#[c]⟩] ∧ Blk wr (b + 2) 3 #[.int .i64 0] ∧ J (pre.map fun p => ⟨p.toArray⟩) wr) (fun _ wr => boxLen b wr)
  case atStart =>
    rcases ps with _ | ⟨p, rest⟩
    · exact absurd rfl hne
    · exact ⟨[], p, rest, rfl, B0, B1, B2, hJ0⟩
  case round =>
    obtain ⟨pre, p, rest, hps, R0, R1, R2, hJs⟩ := hrel
    have c0 := R0.cell 0
    have c1 := R1.cell 0
    have c2 := R2.cell 0
    have hpn : ∀ x ∈ p, x ≠ c := hno p (by rw [hps]; simp)
    rcases rest with _ | ⟨q, rest⟩
    · have hix : Lib.indexByte (⟨(joinC c [p]).toArray⟩ : ByteArray).data.toList c = -1 := indexByte_no p c hpn
      have HIX := Lib.hid hix
      clear hix hpn
      obtain ⟨fn, tmps, assign, body, hy, hR⟩ := hY _ ⟨p.toArray⟩ wr hJs ⟨[], by rw [hps]; simp⟩
      dsimp only [joinC] at c0 HIX hy
      gi_wp2
      refine ⟨trivial, (fun h => by cases h), ?_⟩
      refine (callsIn_wide.2 (index_to _ c _ HIX.out _)).mono ?_
      rintro e w' ⟨rfl, rfl⟩
      gi_wp2
      refine ⟨(fun h => by cases h), ?_⟩
      refine hR.mono ?_
      rintro e W' (⟨rfl, hJ', hk⟩ | ⟨rfl, hJx'⟩)
      · gi_wp2
        go_end0
        refine ⟨⟨_, rfl⟩, .inl ?_⟩
        have e : ps.map (fun p => (⟨p.toArray⟩ : ByteArray)) = pre.map (fun p => ⟨p.toArray⟩) ++ [⟨p.toArray⟩] := by rw [hps]; simp
        rw [e]
        exact hJ'
      · gi_wp2
        go_end0
        refine ⟨⟨_, rfl⟩, .inr ⟨_, ⟨[], by rw [hps]; simp⟩, hJx'⟩⟩
    · have hix : Lib.indexByte (⟨(joinC c (p :: q :: rest)).toArray⟩ : ByteArray).data.toList c = p.length := indexByte_at p (joinC c (q :: rest)) c hpn
      have hS : (⟨(joinC c (p :: q :: rest)).toArray⟩ : ByteArray).data.toList = p ++ c :: joinC c (q :: rest) := rfl
      obtain ⟨S, hSS⟩ : ∃ S : ByteArray, (⟨(joinC c (p :: q :: rest)).toArray⟩ : ByteArray) = S := ⟨_, rfl⟩
      rw [hSS] at hix hS c0
      have hSz : S.size = p.length + 1 + (joinC c (q :: rest)).length := by rw [← len_of, hS]; simp; omega
      have hx1 : S.extract 0 p.length = ⟨p.toArray⟩ := by rw [ext_of, hS]; simp
      have hx2 : S.extract (p.length + 1) S.size = ⟨(joinC c (q :: rest)).toArray⟩ := by
        rw [ext_of, hS, hSz, show p ++ c :: joinC c (q :: rest) = (p ++ [c]) ++ joinC c (q :: rest) by simp, List.drop_left' (by simp)]
        congr 2
        exact List.take_of_length_le (by omega)
      have hlt : S.size < 1000000 := by
        refine Nat.lt_of_le_of_lt ?_ hsz
        rw [hps, ← len_of, hS]
        clear hps hJs hJ0 hno hne h0 hsz
        induction pre with
        | nil => simp [joinC]
        | cons a pre ih =>
          refine Nat.le_trans ih ?_
          cases pre <;> simp [joinC] <;> omega
      have HIX := Lib.hid hix
      have HX1 := Lib.hid hx1
      rw [hSz] at hx2
      have HX2 := Lib.hid hx2
      have HSZ := Lib.hid hSz
      have HSS := Lib.hid hSS
      have R0s := R0
      rw [hSS] at R0s
      clear hix hpn hS hx1 hx2 hSS
      obtain ⟨fn, tmps, assign, body, hy, hR⟩ := hY _ ⟨p.toArray⟩ wr hJs ⟨(q :: rest).map fun p => ⟨p.toArray⟩, by rw [hps]; simp⟩
      rw [← HX1.out] at hy
      gi_wp2
      refine ⟨trivial, (fun h => by cases h), ?_⟩
      refine (callsIn_wide.2 (index_to _ c _ HIX.out _)).mono ?_
      rintro e w' ⟨rfl, rfl⟩
      gi_wp2
      refine ⟨(fun h => by cases h), ?_⟩
      refine hR.mono ?_
      clear c0 c1 c2
      rintro e W' (⟨rfl, hJ', hk⟩ | ⟨rfl, hJx'⟩)
      · have Q0 : Blk W' b 9 #[.string S] := (hk b ⟨Nat.le_refl _, by omega⟩).trans (by rw [← HSS.out]; exact R0)
        have Q1 : Blk W' (b + 1) 9 #[.string ⟨#[c]⟩] := (hk (b + 1) ⟨by omega, by omega⟩).trans R1
        have Q2 : Blk W' (b + 2) 3 #[.int .i64 0] := (hk (b + 2) ⟨by omega, by omega⟩).trans R2
        have c0 := Q0.cell 0
        have f0 := Q0.frozen 0
        have c1 := Q1.cell 0
        have c2 := Q2.cell 0
        gi_wp2
        go_roundw
        case rel =>
          refine ⟨pre ++ [p], q, rest, by rw [hps]; simp, ?_, Q1.far (by simp) _, Q2.far (by simp) _, ?_⟩
          · have := Q0.put 0 (.string (S.extract (p.length + 1) (p.length + 1 + (joinC c (q :: rest)).length)))
            rw [HX2.out] at this ⊢
            exact this
          · rw [List.map_append]
            exact hJ _ _ _ hJ' (Step.setBox b _ _)
        case measure =>
          have := Q0.put 0 (.string (S.extract (p.length + 1) (p.length + 1 + (joinC c (q :: rest)).length)))
          rw [boxLen_eq this, boxLen_eq R0s, HX2.out, size_mkl, HSZ.out]
          omega
      · gi_wp2
        refine bodyPost_ret (results_none rfl _ _ _) rfl ?_
        refine ⟨⟨_, rfl⟩, .inr ⟨_, ⟨(q :: rest).map fun p => ⟨p.toArray⟩, ?_⟩, hJx'⟩⟩
        rw [hps]; simp
end Go.Proofs.YtadhlnpegigadaaGreatDoor

/- The contract of head.row: the words of what is known of a PDU. -/
namespace Go.Proofs.YtadhlnpegigadaaGreatDoor
open Go.ChangeShapes Go.WideShapes Go.ChangeAt Go.RowKit Go.Shelf
set_option linter.unusedVariables false
def Tabs (w : World) : Prop := Lib.TabIs Tryz.prog w "strings.asciiSpace" .u8 Lib.asciiSpaceTab ∧ Lib.TabIs Tryz.prog w "internal/strconv.uint64pow10" .u64 Lib.pow10Tab
theorem tab_on {w w' : World} {name : String} {k : IntKind} {zs : List Int} (h : Lib.TabIs Tryz.prog w name k zs) (hb : Below w.heap.size w w') : Lib.TabIs Tryz.prog w' name k zs := by
  unfold Lib.TabIs World.var? at h ⊢
  rcases hg : (Tryz.prog).globalNamed name with _ | g
  · rw [hg] at h; simp at h
  · rw [hg] at h
    simp only [Option.bind_some] at h ⊢
    rw [hb.block g ?_]
    · exact h
    · by_cases hlt : g < w.heap.size
      · exact hlt
      · rw [Array.getElem?_eq_none (by omega)] at h
        simp at h
theorem Tabs.on {w w' : World} (h : Tabs w) (hb : Below w.heap.size w w') : Tabs w' := ⟨tab_on h.1 hb, tab_on h.2 hb⟩
def wordVs (r : HeadR) : List Value := (rowWords r).map fun l => .string ⟨l.toArray⟩
theorem fields_at (r : HeadR) (hr : r ∈ headT) (w : World) (T : Tabs w) : Calls Tryz.prog 62 #[.string ⟨(joinC 32 (rowWords r)).toArray⟩] w fun e w' =>
    e = .returned (.slice (some ⟨w.heap.size, 0, none⟩) (rowWords r).length (rowWords r).length) ∧ w' = w.alloc (.cells (wordVs r).toArray 9) := by
  have hp : joinC 32 (rowWords r) ∈ piecesH := List.mem_map.2 ⟨r, hr, rfl⟩
  have h := Tryz.strings_Fields_laid ⟨(joinC 32 (rowWords r)).toArray⟩ w (by have := piecesH_size _ hp; rw [size_mkl]; omega) (fun j b hj => piecesH_ascii _ hp b (List.mem_of_getElem? hj)) T.1
  rw [show (⟨(joinC 32 (rowWords r)).toArray⟩ : ByteArray).data.toList = joinC 32 (rowWords r) from rfl, piecesH_fields r hr] at h
  exact h
theorem itoa_to (op : Int) (X : ByteArray) (hX : X = ⟨(Lib.itoa op).toArray⟩) (w : World) (h0 : -9223372036854775808 ≤ op ∧ op ≤ 9223372036854775807) (T : Tabs w) : Calls Tryz.prog 74 #[.int .i64 op] w fun e w' => e = .returned (.string X) ∧ Below w.heap.size w w' := by
  refine (Tryz.strconv_Itoa op h0.1 h0.2 w T.2).mono ?_
  rintro e w' ⟨rfl, k, os, rfl⟩
  rw [hX]
  exact ⟨rfl, ⟨rfl, rfl, rfl, by simp [Go.Sort.grow], fun j hj => by simp only [Go.Sort.grow]; rw [Array.getElem?_append_left (by simpa using hj)]; rfl⟩⟩
theorem split_rows (s sep : ByteArray) (h : s = ⟨rowsH.toArray⟩) (w : World) : Calls Tryz.prog 61 #[.string s, .string sep] w fun e w' =>
    e = .returned (.func (.func 96) #[] #[.pointer (some ⟨w.heap.size + 1, 0, none⟩), .pointer (some ⟨w.heap.size, 0, none⟩), .pointer (some ⟨w.heap.size + 2, 0, none⟩)]) ∧
    w' = ((w.alloc (.cells #[.string ⟨rowsH.toArray⟩] 9)).alloc (.cells #[.string sep] 9)).alloc (.cells #[.int .i64 0] 3) := by
  rw [h]
  exact splitSeq_any _ sep w
def rowIs (w : World) (v : Value) : Option HeadR → Prop
  | none => v = .slice none 0 0
  | some r => ∃ g, v = .slice (some ⟨g, 0, none⟩) (rowWords r).length (rowWords r).length ∧ Blk w g 9 (wordVs r).toArray
theorem piece_at (pre : List ByteArray) (x : ByteArray) (h : pre ++ [x] <+: piecesH.map fun p => (⟨p.toArray⟩ : ByteArray)) : ∃ r, headT[pre.length]? = some r ∧ x = ⟨(joinC 32 (rowWords r)).toArray⟩ := by
  obtain ⟨post, hp⟩ := h
  have h1 : (piecesH.map fun p => (⟨p.toArray⟩ : ByteArray))[pre.length]? = some x := by rw [← hp]; simp
  rw [piecesH, List.map_map, List.getElem?_map] at h1
  rcases hr : headT[pre.length]? with _ | r
  · rw [hr] at h1; simp at h1
  · rw [hr, Option.map_some, Option.some.injEq] at h1
    exact ⟨r, rfl, h1.symm⟩
theorem row_hit (op : Int) (k : Nat) (r : HeadR) (hr : headT[k]? = some r) (hno : ∀ q ∈ headT.take k, (q.1 : Int) ≠ op) (h : (r.1 : Int) = op) : headRow op = some r := by
  have hk : k < headT.length := (List.getElem?_eq_some_iff.1 hr).1
  have he : headT = headT.take k ++ r :: headT.drop (k + 1) := by
    rw [List.getElem?_eq_getElem hk, Option.some.injEq] at hr
    rw [← hr, ← List.drop_eq_getElem_cons hk, List.take_append_drop]
  unfold headRow
  rw [he]
  exact find_stop _ _ _ _ (fun q hq => by simpa using hno q hq) (by simpa using h)
theorem row_none (op : Int) (hno : ∀ q ∈ headT, (q.1 : Int) ≠ op) : headRow op = none := by
  unfold headRow
  rw [List.find?_eq_none]
  intro q hq
  simpa using hno q hq
attribute [local go_sem] Oper.semAt_some
end Go.Proofs.YtadhlnpegigadaaGreatDoor

/- What the listed tables give: of a row that lists strings.asciiSpace and the powers of ten. -/
namespace Go.Proofs.YtadhlnpegigadaaGreatDoor
open Go.ChangeShapes Go.WideShapes Go.ChangeAt Go.RowKit
set_option linter.unusedVariables false
theorem tab_of_reads {P : Program} {W : World} {name : String} {k : IntKind} {zs : List Int} {g : Nat} {t e : TypeId} {n : Nat} {d : DataW Unit} (hd : d = Lib.tabData k zs)
    (hg : P.globalNamed name = some g) (hty : (P.globals[g]?).map (·.type) = some t) (ht : P.underlying t = some (.array n e)) (he : P.underlying e = some (.int k)) (hce : P.cellsOf e = 1) (hct : P.cellsOf t = n)
    (h : Lib.VarReads P W name d) : Lib.TabIs P W name k zs := by
  subst hd
  obtain ⟨g', t', cs, fuel, p, hg', ht', hvar, hx⟩ := h
  obtain rfl := Option.some.inj (hg.symm.trans hg')
  obtain rfl := Option.some.inj (hty.symm.trans ht')
  unfold Lib.TabIs
  rw [hvar, ← Lib.cells_of_tab ht he hce hct hx]
set_option maxRecDepth 100000 in
theorem space_data : (Rows.laid_strings_asciiSpace : DataW Unit) = Lib.tabData .u8 Lib.asciiSpaceTab := by kernel_rfl
set_option maxRecDepth 100000 in
theorem pow_data : (Rows.laid_internal_strconv_uint64pow10 : DataW Unit) = Lib.tabData .u64 Lib.pow10Tab := by kernel_rfl
theorem tabs_of {L : List (String × DataW Unit)} {W : World} (h1 : ("strings.asciiSpace", Rows.laid_strings_asciiSpace) ∈ L) (h2 : ("internal/strconv.uint64pow10", Rows.laid_internal_strconv_uint64pow10) ∈ L) (h : laidMet Tryz.prog L W) : Tabs W :=
  ⟨tab_of_reads space_data (g := 1) (t := 143) (e := 5) (n := 256) (by kernel_rfl) (by kernel_rfl) (by kernel_rfl) (by kernel_rfl) (by kernel_rfl) (by kernel_rfl) (Lib.laidMet.reads h h1),
   tab_of_reads pow_data (g := 8) (t := 234) (e := 155) (n := 20) (by kernel_rfl) (by kernel_rfl) (by kernel_rfl) (by kernel_rfl) (by kernel_rfl) (by kernel_rfl) (Lib.laidMet.reads h h2)⟩
theorem laid_plain {L : List (String × DataW Unit)} {W : World} (hf : (L.filter fun x => x.2.handleName?.isSome) = []) (h : laidMetH Tryz.prog L W) : laidMet Tryz.prog L W := by
  unfold laidMetH at h
  rw [hf] at h
  exact h
theorem laid_nohandle {L : List (String × DataW Unit)} {W : World} (hf : (L.filter fun x => x.2.handleName?.isSome) = [("errors.errorType", Rows.laid_errors_errorType)]) (h : laidMetH Tryz.prog L W) : laidMet Tryz.prog (L.filter fun x => x.2.handleName?.isNone) W := by
  unfold laidMetH at h
  rw [hf] at h
  exact h.1
theorem metH_plain {L : List (String × DataW Unit)} {W : World} (hf : (L.filter fun x => x.2.handleName?.isSome) = []) (h : laidMet Tryz.prog L W) : laidMetH Tryz.prog L W := by
  unfold laidMetH
  rw [hf]
  exact h
theorem mem_of {α : Type} {l : List α} {i : Nat} {x : α} (h : l[i]? = some x) : x ∈ l := List.mem_of_getElem? h
end Go.Proofs.YtadhlnpegigadaaGreatDoor

/- A region that draws its order, inside a round of a range over a function: by the plain law of regions. -/
namespace Go.Proofs.YtadhlnpegigadaaGreatDoor
open Go.RowKit
set_option linter.unusedVariables false
section
variable {P : Program} {ops : Array Oper} {md : Region.Mode} {l n : Nat}
/-- What stands behind a region that only goes on. -/
def onlyN (Q : Exit → Act → World → Prop) : Exit → Act → World → Prop
  | .normal, a, w => Q .normal a w
  | _, _, _ => False
theorem onlyN_imp {Q : Exit → Act → World → Prop} : ∀ (e : Exit) (a : Act) (w : World), onlyN Q e a w → Q e a w := fun e a w h => by
  cases e <;> first | exact h | exact (h : False).elim
theorem onlyN_shut {Q : Exit → Act → World → Prop} : ¬ LetsOut (onlyN Q) := fun ⟨_, _, h⟩ => h
theorem round_about (o : Oper) (w : World) (ρ : Operand → Value) : ∀ f, o.about P w ρ = some f → (Fence.wide.inRound l).fn f := fun _ _ => trivial
theorem wpIn_round {o : Oper} {a : Act} {w : World} {K : Act → World → Prop} {Q : Exit → Act → World → Prop} (hd : ∀ c, o.op ≠ .defer c) (h : o.wp P a w K Q) : o.wpIn (Fence.wide.inRound l) n P a w K Q := by
  refine ⟨round_about o w _, ?_⟩
  rw [Oper.semAt_plain _ _ _ hd]
  unfold Oper.wp at h
  generalize (execOp a.eval o).run P w = r at *
  rcases r with ⟨x, w'⟩ | ⟨x, w'⟩
  · cases x
    case enter f args => exact ⟨fun hc => absurd hc (show ¬ (none : Option Nat).isSome = true by decide), CallsIn.inRound l (callsIn_wide.2 h)⟩
    case row row args =>
      refine ⟨fun hc => absurd hc (show ¬ (none : Option Nat).isSome = true by decide), fun c cs _ => ?_⟩
      obtain ⟨v, w2, hr, hs⟩ := h c cs
      exact ⟨v, w2, hr, stepsIn_wide.2 hs⟩
    all_goals first | exact h | exact h.elim
  · cases x <;> first | exact h | exact h.elim
theorem wpOpIn_round {i : Nat} {K : Act → World → Prop} {Q : Exit → Act → World → Prop} {a : Act} {w : World} (hd : ∀ (j : Nat) (o : Oper) c, ops[j]? = some o → o.op ≠ .defer c) (hL : ¬ LetsOut Q) (h : wpOp P ops Q i K a w) : wpOpIn (Fence.wide.inRound l) n P ops Q i K a w := by
  unfold wpOp at h
  unfold wpOpIn
  split
  · rename_i ho; simp only [ho] at h; exact h
  · rename_i o ho
    simp only [ho] at h
    split
    · rename_i hw
      simp only [hw, if_true] at h
      rcases h with h | ⟨_, h⟩
      · exact wpIn_round (fun c => hd i o c ho) h
      · exact absurd h hL
    · rename_i hw
      simp only [hw] at h
      exact ⟨round_about o w _, h⟩
theorem wpAnyIn_round {Q : Exit → Act → World → Prop} (hd : ∀ (j : Nat) (o : Oper) c, ops[j]? = some o → o.op ≠ .defer c) (hL : ¬ LetsOut Q) : ∀ (fuel : Nat) (listed : Array Bool) (a : Act) (w : World),
    wpAny P md ops Q fuel listed a w → wpAnyIn (Fence.wide.inRound l) n P md ops Q fuel listed a w
  | 0, _, _, _, h => h
  | fuel + 1, _, _, _, h => ⟨h.1, fun i hi => wpOpIn_round hd hL (wpOp_mono (fun a' w' h' => wpAnyIn_round hd hL fuel _ a' w' h') (h.2 i hi))⟩
def noDefer (o : Oper) : Bool := match o.op with | .defer _ => false | _ => true
theorem noDefer_spec (h : ops.all noDefer = true) : ∀ (j : Nat) (o : Oper) c, ops[j]? = some o → o.op ≠ .defer c := by
  intro j o c hj he
  have := Array.all_eq_true'.1 h o (Array.mem_of_getElem? hj)
  unfold noDefer at this
  rw [he] at this
  cases this
/-- The beginning. -/
theorem wpIn_region_roundH {S : World → Prop} {id : Nat} {Q : Exit → Act → World → Prop} {a : Act} {w : World} (hm : P.follows .mixedOrders = true) (hd : ops.all noDefer = true) (hS : S w.drew)
    (h : S w.drew → wpAnyH P .any ops (onlyN Q) S ops.size (Array.replicate ops.size false) a w.drew) : (Code.region id ops true).wpIn (Fence.wide.inRound l) n P Q a w :=
  wpIn_mono (wpIn_region_any hm (wpAnyIn_round (noDefer_spec hd) onlyN_shut _ _ _ _ (wpAny_of_held _ _ _ _ (h hS)))) onlyN_imp
theorem wpAnyH_end {S : World → Prop} {Q : Exit → Act → World → Prop} {listed : Array Bool} {a : Act} {w : World} {fuel : Nat} (hr : Region.ready md ops listed = []) (h : Q .normal a w) : wpAnyH P md ops (onlyN Q) S fuel listed a w := wpAnyH_done (Q := onlyN Q) hr h fuel
end
end Go.Proofs.YtadhlnpegigadaaGreatDoor
