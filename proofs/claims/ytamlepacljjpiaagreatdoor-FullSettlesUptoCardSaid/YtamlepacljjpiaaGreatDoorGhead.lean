/- SeqBox HeadPlain SplitSeq HeadRow HeadFmt HeadGet HeadRight OpenHead HeadLaid SeqRegion. -/
import Derived.RangeFuncNested
import Derived.RangeFuncLeaves
import Derived.RangeFuncBound
import Derived.Lib.ItoaNum
import Derived.Lib.Fields
import Derived.Lib.Split
import Derived.Lib.Atoi
import Derived.Test.YtamlepacljjpiaaGreatDoorGbase
import Derived.Test.YtamlepacljjpiaaGreatDoorShelf
import Derived.Shelf.Abstract
import Derived.WalkKit
import Derived.OwnWalkIn
import Derived.TacticsInMore
import Derived.LoopNIn
import Derived.LoopIn
import Derived.Shelf.RegionOpen
import Derived.Lib.SliceRun
import Derived.ChangeSlices
import Derived.Lib.LaidU8
import Derived.ProofKit
import Derived.OrdersHeld
import Derived.OrdersIn
import Derived.RangeFuncCalls
import Derived.Deep.RegionHeld3
/- A range over an iterator that keeps what is left of its string in a box of its own: the law of the caller. -/
namespace Go.Proofs.YtamlepacljjpiaaGreatDoor
open Go.RowKit
set_option linter.unusedVariables false
/-- What an iterator's step may turn: new blocks, its own box b, and what is no cells from B on. -/
structure But (b B : Nat) (A C : World) : Prop where
  os : C.os = A.os
  tape : C.tape = A.tape
  output : C.output = A.output
  size : A.heap.size ≤ C.heap.size
  cells : ∀ (k : Nat) (o : Obj), k ≠ b → A.heap[k]? = some o → (o.isCells = true ∨ k < B) → C.heap[k]? = some o
/-- An iterator's step: new blocks, and its own box b. -/
structure Step (b : Nat) (A C : World) : Prop where
  os : C.os = A.os
  tape : C.tape = A.tape
  output : C.output = A.output
  size : A.heap.size ≤ C.heap.size
  block : ∀ k, k ≠ b → k < A.heap.size → C.heap[k]? = A.heap[k]?
theorem Step.of_below {b : Nat} {A C : World} (h : Below A.heap.size A C) : Step b A C := ⟨h.os, h.tape, h.output, h.size, fun k _ hk => h.block k hk⟩
theorem Step.setBox (b : Nat) (A : World) (v : Value) : Step b A (A.setCell ⟨b, 0, none⟩ v) :=
  ⟨rfl, rfl, rfl, by simp [World.setCell], fun k hk _ => Below.heap_setCell A _ v k hk⟩
theorem Step.obj {b : Nat} {A C : World} (h : Step b A C) {k : Nat} {o : Obj} (hk : k ≠ b) (ho : A.heap[k]? = some o) : C.heap[k]? = some o :=
  (h.block k hk (Array.getElem?_eq_some_iff.1 ho).1).trans ho
/-- What a round keeps: what is no cells from B on, and the iterator's own blocks K. -/
structure Held (K : Nat → Prop) (B : Nat) (A C : World) : Prop where
  size : A.heap.size ≤ C.heap.size
  same : ∀ (k : Nat) (o : Obj), B ≤ k → A.heap[k]? = some o → o.isCells = false → C.heap[k]? = some o
  box : ∀ k, K k → C.heap[k]? = A.heap[k]?
theorem But.putObj {b B : Nat} {A : World} {l : Nat} {o : Obj} (hl : A.heap[l]? = some o) (ho : o.isCells = false) (hB : B ≤ l) (o' : Obj) : But b B A (A.putObj l o') :=
  ⟨rfl, rfl, rfl, by simp, fun k u _ hk hc => by
    by_cases e : k = l
    · subst e
      rw [hl] at hk
      cases hk
      rcases hc with hc | hc
      · rw [ho] at hc; cases hc
      · omega
    · exact (World.putObj_heap_other e).trans hk⟩
theorem But.of_below {b B : Nat} {A C : World} (h : Below A.heap.size A C) : But b B A C :=
  ⟨h.os, h.tape, h.output, h.size, fun k o _ hk _ => (h.block k (Array.getElem?_eq_some_iff.1 hk).1).trans hk⟩
theorem But.of_step {b B : Nat} {A C : World} (h : Step b A C) : But b B A C := ⟨h.os, h.tape, h.output, h.size, fun k o hk ho _ => h.obj hk ho⟩
theorem Held.refl (K : Nat → Prop) (B : Nat) (A : World) : Held K B A A := ⟨Nat.le_refl _, fun _ _ _ h _ => h, fun _ _ => rfl⟩
theorem Held.trans {K : Nat → Prop} {B : Nat} {X Y Z : World} (h : Held K B X Y) (k : Held K B Y Z) : Held K B X Z :=
  ⟨Nat.le_trans h.size k.size, fun i o hB hi ho => k.same i o hB (h.same i o hB hi ho) ho, fun j hj => (k.box j hj).trans (h.box j hj)⟩
theorem Held.of_below {K : Nat → Prop} {B n : Nat} {A C : World} (h : Below n A C) (hn : A.heap.size ≤ n) (hb : ∀ k, K k → k < A.heap.size) : Held K B A C :=
  ⟨h.size, fun k o _ hk _ => (h.block k (Nat.lt_of_lt_of_le (Array.getElem?_eq_some_iff.1 hk).1 hn)).trans hk, fun k hk => h.block k (Nat.lt_of_lt_of_le (hb k hk) hn)⟩
theorem Held.setCell {K : Nat → Prop} {B : Nat} (A : World) {a : Addr} (ha : ¬ K a.block) (v : Value) : Held K B A (A.setCell a v) :=
  ⟨(KeepsOthers.setCell A a v).size, fun k o _ hk ho => (KeepsOthers.setCell A a v).same k o hk ho, fun k hk => Below.heap_setCell A a v k (fun e => ha (e ▸ hk))⟩
theorem But.below {b B n : Nat} {w A C : World} (h : Below n w A) (hn : n ≤ w.heap.size) (k : But b B A C) (hb : n ≤ b) (hB : n ≤ B) : Below n w C :=
  h.trans ⟨k.os, k.tape, k.output, k.size, fun j hj => by
    have hlt : j < A.heap.size := Nat.lt_of_lt_of_le hj (Nat.le_trans hn h.size)
    have hj2 : A.heap[j]? = some A.heap[j] := Array.getElem?_eq_getElem hlt
    rw [hj2]
    exact k.cells j _ (by omega) hj2 (.inr (by omega))⟩
theorem But.cell {b B : Nat} {A C : World} (k : But b B A C) {p : Addr} {v : Value} (hp : p.block ≠ b) (h : A.cell? p = some v) : C.cell? p = some v := by
  obtain ⟨o, ho, hc⟩ := cells_of_cell h
  exact (World.cell?_of_block ((k.cells _ o hp ho (.inl hc)).trans ho.symm)).trans h
theorem But.blk {b B : Nat} {A C : World} (k : But b B A C) {j : Nat} {cs : Array Value} {t : TypeId} {fr : Nat × Nat} (hj : j ≠ b) (h : A.heap[j]? = some (.cells cs t fr)) : C.heap[j]? = some (.cells cs t fr) :=
  k.cells j _ hj h (.inl rfl)
/-- How the body of a round may be left. -/
def boxPost (K : Nat → Prop) (B : Nat) (I : List ByteArray → World → Prop) (Ix : Code → List ByteArray → World → Prop) (xs : List ByteArray) (W : World) : Exit → Act → World → Prop
  | .normal, _, W' => Held K B W W' ∧ I xs W'
  | .ret, _, W' => Held K B W W' ∧ Ix .ret xs W'
  | .exit id, _, W' => Held K B W W' ∧ Ix (.exit id) xs W'
  | .goto t, _, W' => Held K B W W' ∧ Ix (.goto t) xs W'
  | .panic _, _, _ => False
  | .outgrown, _, _ => False
/-- The iterator's contract: the strings xs come one by one, till a round says no more. -/
def SeqBox (n : Nat) (P : Program) (g : Nat) (lb : Array Value) (b : Nat) (K : Nat → Prop) (xs : List ByteArray) (w0 : World) : Prop :=
  ∀ (l : Nat) (J Jx : List ByteArray → World → Prop) (W : World), Below w0.heap.size w0 W →
    (∀ s A C, J s A → Step b A C → J s C) → (∀ s A C, Jx s A → Step b A C → Jx s C) →
    (∀ pre x W1, J pre W1 → pre ++ [x] <+: xs → YieldAt Fence.wide (n - 1) P l #[.string x] W1 fun e W' =>
      (e = .returned (.bool true) ∧ J (pre ++ [x]) W' ∧ ∀ k, K k → W'.heap[k]? = W1.heap[k]?) ∨ (e = .returned (.bool false) ∧ Jx (pre ++ [x]) W')) →
    J [] W →
    CallsIn Fence.wide n P g (#[.func (.yield l) #[] #[]] ++ lb) W fun e W' => (∃ v, e = .returned v) ∧ (J xs W' ∨ (∃ pre, pre <+: xs ∧ Jx pre W'))
theorem wpIn_rangeBox {n : Nat} {P : Program} {g : Operand} {p : Tmp} {assign body : Code} {Q : Exit → Act → World → Prop} {a : Act} {w : World}
    {gf : Nat} {lb : Array Value} (hg : a.eval g = .func (.func gf) #[] lb) (eg : ∀ args w, (callFunc gf args).run P w = .ok (.enter gf args) w)
    {b : Nat} {K : Nat → Prop} {xs : List ByteArray} (hseq : SeqBox (n - 1) P gf lb b K xs w) (hbl : b < w.heap.size) (hKl : ∀ k, K k → k < w.heap.size)
    (I : List ByteArray → World → Prop) (Ix : Code → List ByteArray → World → Prop) (hI : ∀ s A C, I s A → But b w.heap.size A C → I s C) (hIx : ∀ c s A C, Ix c s A → But b w.heap.size A C → Ix c s C)
    (h0 : I [] w) (a₁ : ByteArray → Act)
    (hassign : ∀ (l : Nat) (x : ByteArray) (W : World) (K : Act → World → Prop), K (a₁ x) W →
      assign.wpIn (Fence.wide.inRound l) (n - 1 - 1) P (Exit.then K (fun _ _ _ => False)) { tmps := a.tmps.setIfInBounds p (.string x), defers := [] } W)
    (hbody : ∀ (l : Nat) (pre : List ByteArray) (x : ByteArray) (W : World), w.heap.size ≤ W.heap.size → I pre W → pre ++ [x] <+: xs → body.wpIn (Fence.wide.inRound l) (n - 1 - 1) P (boxPost K w.heap.size I Ix (pre ++ [x]) W) (a₁ x) W)
    (hdone : ∀ (D : Nat) (W : World), w.heap.size ≤ D → I xs W → W.heap[D]? = some (.deferred (some [])) → Q .normal { a with defers := { target := .collected D, args := #[] } :: a.defers } W)
    (hstop : ∀ (D : Nat) (c : Code) (pre : List ByteArray) (W : World), w.heap.size ≤ D → pre <+: xs → Ix c pre W → W.heap[D]? = some (.deferred (some [])) → c.wpIn Fence.wide n P Q { a with defers := { target := .collected D, args := #[] } :: a.defers } W) :
    (Code.rangeFunc g #[p] assign body).wpIn Fence.wide n P Q a w := by
  refine wpIn_rangeFunc ?_
  intro fn hfn
  rw [show Fence.wide.round = none from rfl]
  obtain ⟨rec, hrec⟩ : ∃ rec : LoopState → Option Code → Loop, rec = fun st pe => { state := st, pending := pe, fn, tmps := a.tmps, params := #[p], assign, body, defers := w.heap.size } := ⟨_, rfl⟩
  obtain ⟨L, hLz⟩ : ∃ L, w.heap.size + 1 = L := ⟨_, rfl⟩
  obtain ⟨W1, hW1⟩ : ∃ W1, (w.alloc (.deferred (some []))).alloc (.loop (rec .ready none)) = W1 := ⟨_, rfl⟩
  have hb1 : Below w.heap.size w W1 := by rw [← hW1]; exact ((Below.refl _ w).alloc (Nat.le_refl _) _).alloc (by simp) _
  have hL1 : W1.heap[L]? = some (.loop (rec .ready none)) := by
    rw [← hW1, ← hLz]; have := World.alloc_heap_new (w.alloc (.deferred (some []))) (.loop (rec .ready none)); rwa [World.size_alloc] at this
  have hK1 : W1.heap[w.heap.size]? = some (.deferred (some [])) := by
    rw [← hW1]; exact (Below.heap_alloc _ _ _ (by simp)).trans (World.alloc_heap_new w _)
  refine ⟨L, [{ target := .collected w.heap.size, args := #[] }], W1, { target := .fn (.func gf) lb, args := #[.func (.yield L) #[] #[]] }, W1, gf,
    #[.func (.yield L) #[] #[]] ++ lb, W1, ?_, ?_, ?_, ?_, (fun h => by cases h), ?_⟩
  · rw [← hW1, hrec, ← hLz]; exact run_enterLoop_outer _ _ _ _ _
  · simp only [resolve, hg]
    simp [go_sem]
  · exact fun _ _ => trivial
  · simp [invoke, go_sem, eg]
  · refine (hseq L
      (fun pre W => I pre W ∧ W.heap[L]? = some (.loop (rec .ready none)) ∧ W.heap[w.heap.size]? = some (.deferred (some [])) ∧ w.heap.size ≤ W.heap.size)
      (fun pre W => ∃ c, Ix c pre W ∧ W.heap[L]? = some (.loop (rec .done (some c))) ∧ W.heap[w.heap.size]? = some (.deferred (some [])))
      W1 hb1 ?_ ?_ ?_ ⟨hI _ _ _ h0 (.of_below hb1), hL1, hK1, hb1.size⟩).mono ?_
    · rintro s A C ⟨h1, h2, h3, h4⟩ hs
      exact ⟨hI _ _ _ h1 (.of_step hs), hs.obj (by omega) h2, hs.obj (by omega) h3, Nat.le_trans h4 hs.size⟩
    · rintro s A C ⟨c, h1, h2, h3⟩ hs
      exact ⟨c, hIx _ _ _ _ h1 (.of_step hs), hs.obj (by omega) h2, hs.obj (by omega) h3⟩
    · rintro pre x W ⟨hi, hl, hk, hz⟩ hpx
      have hy := run_yield (P := P) (args := #[.string x]) hl (by rw [hrec]; rfl)
      rw [hrec] at hy
      refine ⟨fn, _, assign, body, hy, roundIn_of_wpIn hfn ?_⟩
      have hz1 : ∀ T : Array Value, ((#[p] : Array Tmp).zip #[Value.string x]).foldl (fun t (q, v) => t.setIfInBounds q v) T = T.setIfInBounds p (.string x) := fun T => by simp
      simp only [hz1]
      refine hassign L x W _ ?_
      refine ⟨_, run_beginRound hl (by rw [hrec]), ?_⟩
      obtain ⟨o2, ho2⟩ : ∃ o2 : Obj, Obj.loop { rec .ready none with state := .busy } = o2 := ⟨_, rfl⟩
      rw [ho2]
      have hl2 : (W.putObj L o2).heap[L]? = some o2 := World.putObj_heap_same (Array.getElem?_eq_some_iff.1 hl).1
      have hk2 : (W.putObj L o2).heap[w.heap.size]? = some (.deferred (some [])) := (World.putObj_heap_other (by omega)).trans hk
      have hx2 : ∀ k, K k → (W.putObj L o2).heap[k]? = W.heap[k]? := fun k hk => World.putObj_heap_other (by have := hKl k hk; omega)
      have ho2c : o2.isCells = false := by rw [← ho2]; rfl
      refine wpIn_mono (hbody _ pre x _ (by simpa using hz) (hI _ _ _ hi (.putObj hl rfl (by omega) _)) hpx) ?_
      have fin : ∀ (jump : Option Code) (W3 : World), Held K w.heap.size (W.putObj L o2) W3 →
          ∃ o3 : Obj, o3 = .loop (rec (if jump.isNone then .ready else .done) jump) ∧ (Instr.endRound L jump).run P W3 = .ok (.bool jump.isNone) (W3.putObj L o3) ∧ But b w.heap.size W3 (W3.putObj L o3) ∧
          (W3.putObj L o3).heap[L]? = some o3 ∧ (W3.putObj L o3).heap[w.heap.size]? = some (.deferred (some [])) ∧ (∀ k, K k → (W3.putObj L o3).heap[k]? = W.heap[k]?) ∧ w.heap.size ≤ (W3.putObj L o3).heap.size := fun jump W3 h3 => by
        have hl3 := h3.same L o2 (by omega) hl2 ho2c
        refine ⟨_, rfl, ?_, .putObj hl3 ho2c (by omega) _, World.putObj_heap_same (Array.getElem?_eq_some_iff.1 hl3).1, (World.putObj_heap_other (by omega)).trans (h3.same _ _ (Nat.le_refl _) hk2 rfl),
          fun k hk => (World.putObj_heap_other (by have := hKl k hk; omega)).trans ((h3.box k hk).trans (hx2 k hk)), ?_⟩
        · rw [← ho2] at hl3
          have := run_endRound (P := P) jump hl3
          rw [hrec] at this ⊢
          exact this
        · have := h3.size
          simp at this ⊢
          omega
      rintro e a3 W3 hp
      cases e with
      | normal =>
        obtain ⟨h3, hi3⟩ := hp
        obtain ⟨o3, rfl, hr, hb3, hl4, hk4, hx4, hz4⟩ := fin none W3 h3
        exact ⟨_, _, hr, .inl ⟨rfl, ⟨hI _ _ _ hi3 hb3, hl4, hk4, hz4⟩, hx4⟩⟩
      | ret =>
        obtain ⟨h3, hi3⟩ := hp
        obtain ⟨o3, rfl, hr, hb3, hl4, hk4, _⟩ := fin (some .ret) W3 h3
        exact ⟨_, _, hr, .inr ⟨rfl, .ret, hIx _ _ _ _ hi3 hb3, hl4, hk4⟩⟩
      | exit id =>
        obtain ⟨h3, hi3⟩ := hp
        obtain ⟨o3, rfl, hr, hb3, hl4, hk4, _⟩ := fin (some (.exit id)) W3 h3
        exact ⟨_, _, hr, .inr ⟨rfl, .exit id, hIx _ _ _ _ hi3 hb3, hl4, hk4⟩⟩
      | goto t =>
        obtain ⟨h3, hi3⟩ := hp
        obtain ⟨o3, rfl, hr, hb3, hl4, hk4, _⟩ := fin (some (.goto t)) W3 h3
        exact ⟨_, _, hr, .inr ⟨rfl, .goto t, hIx _ _ _ _ hi3 hb3, hl4, hk4⟩⟩
      | panic ch => exact hp.elim
      | outgrown => exact hp.elim
    · rintro e W2 ⟨⟨v, rfl⟩, (⟨hi, hl, hk, _⟩ | ⟨pre, hpx, c, hi, hl, hk⟩)⟩
      · refine ⟨none, _, by have := run_endLoop (P := P) hl (by rw [hrec]; simp); rw [hrec] at this; exact this, hdone _ _ (Nat.le_refl _) (hI _ _ _ hi (.putObj hl rfl (by omega) _)) ((World.putObj_heap_other (by omega)).trans hk)⟩
      · refine ⟨some c, _, by have := run_endLoop (P := P) hl (by rw [hrec]; simp); rw [hrec] at this; exact this, hstop _ c pre _ (Nat.le_refl _) hpx (hIx _ _ _ _ hi (.putObj hl rfl (by omega) _)) ((World.putObj_heap_other (by omega)).trans hk)⟩
end Go.Proofs.YtamlepacljjpiaaGreatDoor

/- What is known of heads: the table, its words, and what a number's numeral is. -/
namespace Go.Proofs.YtamlepacljjpiaaGreatDoor
set_option linter.unusedVariables false
def headT : List (Nat × List UInt8 × Nat × List (List UInt8 × Nat × Nat)) := [
  (0, [78, 111, 112, 79, 117, 116], 128, [([76, 85, 78], 8, 8), ([73, 84, 84], 16, 4), ([84, 84, 84], 20, 4), ([67, 109, 100, 83, 78], 24, 4), ([69, 120, 112, 83, 116, 97, 116, 83, 78], 28, 4)]),
  (1, [83, 99, 115, 105, 67, 111, 109, 109, 97, 110, 100], 231, [([76, 85, 78], 8, 8), ([73, 84, 84], 16, 4), ([76, 101, 110, 103, 116, 104], 20, 4), ([67, 109, 100, 83, 78], 24, 4), ([69, 120, 112, 83, 116, 97, 116, 83, 78], 28, 4), ([67, 100, 98, 65], 32, 8), ([67, 100, 98, 66], 40, 8)]),
  (2, [84, 97, 115, 107, 82, 101, 113, 117, 101, 115, 116], 255, [([76, 85, 78], 8, 8), ([73, 84, 84], 16, 4), ([82, 101, 102, 84, 97, 103], 20, 4), ([67, 109, 100, 83, 78], 24, 4), ([69, 120, 112, 83, 116, 97, 116, 83, 78], 28, 4), ([82, 101, 102, 67, 109, 100, 83, 78], 32, 4), ([69, 120, 112, 68, 97, 116, 97, 83, 78], 36, 4)]),
  (3, [76, 111, 103, 105, 110, 82, 101, 113, 117, 101, 115, 116], 207, [([86, 101, 114, 115, 105, 111, 110, 77, 97, 120], 2, 1), ([86, 101, 114, 115, 105, 111, 110, 77, 105, 110], 3, 1), ([73, 83, 73, 68], 8, 6), ([84, 83, 73, 72], 14, 2), ([73, 84, 84], 16, 4), ([67, 73, 68], 20, 2), ([67, 109, 100, 83, 78], 24, 4), ([69, 120, 112, 83, 116, 97, 116, 83, 78], 28, 4)]),
  (4, [84, 101, 120, 116, 82, 101, 113, 117, 101, 115, 116], 192, [([76, 85, 78], 8, 8), ([73, 84, 84], 16, 4), ([84, 84, 84], 20, 4), ([67, 109, 100, 83, 78], 24, 4), ([69, 120, 112, 83, 116, 97, 116, 83, 78], 28, 4)]),
  (5, [68, 97, 116, 97, 79, 117, 116], 128, [([76, 85, 78], 8, 8), ([73, 84, 84], 16, 4), ([84, 84, 84], 20, 4), ([69, 120, 112, 83, 116, 97, 116, 83, 78], 28, 4), ([68, 97, 116, 97, 83, 78], 36, 4), ([79, 102, 102, 115, 101, 116], 40, 4)]),
  (6, [76, 111, 103, 111, 117, 116, 82, 101, 113, 117, 101, 115, 116], 255, [([73, 84, 84], 16, 4), ([67, 73, 68], 20, 2), ([67, 109, 100, 83, 78], 24, 4), ([69, 120, 112, 83, 116, 97, 116, 83, 78], 28, 4)]),
  (16, [83, 110, 97, 99, 107], 143, [([76, 85, 78], 8, 8), ([73, 84, 84], 16, 4), ([84, 84, 84], 20, 4), ([69, 120, 112, 83, 116, 97, 116, 83, 78], 28, 4), ([66, 101, 103, 82, 117, 110], 40, 4), ([82, 117, 110, 76, 101, 110, 103, 116, 104], 44, 4)]),
  (32, [78, 111, 112, 73, 110], 128, [([76, 85, 78], 8, 8), ([73, 84, 84], 16, 4), ([84, 84, 84], 20, 4), ([83, 116, 97, 116, 83, 78], 24, 4), ([69, 120, 112, 67, 109, 100, 83, 78], 28, 4), ([77, 97, 120, 67, 109, 100, 83, 78], 32, 4)]),
  (33, [83, 99, 115, 105, 82, 101, 115, 112, 111, 110, 115, 101], 158, [([82, 101, 115, 112, 111, 110, 115, 101], 2, 1), ([83, 116, 97, 116, 117, 115], 3, 1), ([73, 84, 84], 16, 4), ([83, 110, 97, 99, 107, 84, 97, 103], 20, 4), ([83, 116, 97, 116, 83, 78], 24, 4), ([69, 120, 112, 67, 109, 100, 83, 78], 28, 4), ([77, 97, 120, 67, 109, 100, 83, 78], 32, 4), ([69, 120, 112, 68, 97, 116, 97, 83, 78], 36, 4), ([66, 105, 100, 105, 82, 101, 115, 105, 100, 117, 97, 108], 40, 4), ([82, 101, 115, 105, 100, 117, 97, 108], 44, 4)]),
  (34, [84, 97, 115, 107, 82, 101, 115, 112, 111, 110, 115, 101], 128, [([82, 101, 115, 112, 111, 110, 115, 101], 2, 1), ([73, 84, 84], 16, 4), ([83, 116, 97, 116, 83, 78], 24, 4), ([69, 120, 112, 67, 109, 100, 83, 78], 28, 4), ([77, 97, 120, 67, 109, 100, 83, 78], 32, 4)]),
  (35, [76, 111, 103, 105, 110, 82, 101, 115, 112, 111, 110, 115, 101], 207, [([86, 101, 114, 115, 105, 111, 110, 77, 97, 120], 2, 1), ([86, 101, 114, 115, 105, 111, 110, 65, 99, 116, 105, 118, 101], 3, 1), ([73, 83, 73, 68], 8, 6), ([84, 83, 73, 72], 14, 2), ([73, 84, 84], 16, 4), ([83, 116, 97, 116, 83, 78], 24, 4), ([69, 120, 112, 67, 109, 100, 83, 78], 28, 4), ([77, 97, 120, 67, 109, 100, 83, 78], 32, 4), ([83, 116, 97, 116, 117, 115, 67, 108, 97, 115, 115], 36, 1), ([83, 116, 97, 116, 117, 115, 68, 101, 116, 97, 105, 108], 37, 1)]),
  (36, [84, 101, 120, 116, 82, 101, 115, 112, 111, 110, 115, 101], 192, [([76, 85, 78], 8, 8), ([73, 84, 84], 16, 4), ([84, 84, 84], 20, 4), ([83, 116, 97, 116, 83, 78], 24, 4), ([69, 120, 112, 67, 109, 100, 83, 78], 28, 4), ([77, 97, 120, 67, 109, 100, 83, 78], 32, 4)]),
  (37, [68, 97, 116, 97, 73, 110], 199, [([83, 116, 97, 116, 117, 115], 3, 1), ([76, 85, 78], 8, 8), ([73, 84, 84], 16, 4), ([84, 84, 84], 20, 4), ([83, 116, 97, 116, 83, 78], 24, 4), ([69, 120, 112, 67, 109, 100, 83, 78], 28, 4), ([77, 97, 120, 67, 109, 100, 83, 78], 32, 4), ([68, 97, 116, 97, 83, 78], 36, 4), ([79, 102, 102, 115, 101, 116], 40, 4), ([82, 101, 115, 105, 100, 117, 97, 108], 44, 4)]),
  (38, [76, 111, 103, 111, 117, 116, 82, 101, 115, 112, 111, 110, 115, 101], 128, [([82, 101, 115, 112, 111, 110, 115, 101], 2, 1), ([73, 84, 84], 16, 4), ([83, 116, 97, 116, 83, 78], 24, 4), ([69, 120, 112, 67, 109, 100, 83, 78], 28, 4), ([77, 97, 120, 67, 109, 100, 83, 78], 32, 4), ([84, 105, 109, 101, 50, 87, 97, 105, 116], 40, 2), ([84, 105, 109, 101, 50, 82, 101, 116, 97, 105, 110], 42, 2)]),
  (49, [82, 50, 84], 128, [([76, 85, 78], 8, 8), ([73, 84, 84], 16, 4), ([84, 84, 84], 20, 4), ([83, 116, 97, 116, 83, 78], 24, 4), ([69, 120, 112, 67, 109, 100, 83, 78], 28, 4), ([77, 97, 120, 67, 109, 100, 83, 78], 32, 4), ([82, 50, 84, 83, 78], 36, 4), ([79, 102, 102, 115, 101, 116], 40, 4), ([76, 101, 110, 103, 116, 104], 44, 4)]),
  (50, [65, 115, 121, 110, 99], 128, [([76, 85, 78], 8, 8), ([73, 84, 84], 16, 4), ([83, 116, 97, 116, 83, 78], 24, 4), ([69, 120, 112, 67, 109, 100, 83, 78], 28, 4), ([77, 97, 120, 67, 109, 100, 83, 78], 32, 4), ([69, 118, 101, 110, 116], 36, 1), ([86, 67, 111, 100, 101], 37, 1), ([80, 97, 114, 97, 109, 101, 116, 101, 114, 49], 38, 2), ([80, 97, 114, 97, 109, 101, 116, 101, 114, 50], 40, 2), ([80, 97, 114, 97, 109, 101, 116, 101, 114, 51], 42, 2)]),
  (63, [82, 101, 106, 101, 99, 116], 128, [([82, 101, 97, 115, 111, 110], 2, 1), ([73, 84, 84], 16, 4), ([83, 116, 97, 116, 83, 78], 24, 4), ([69, 120, 112, 67, 109, 100, 83, 78], 28, 4), ([77, 97, 120, 67, 109, 100, 83, 78], 32, 4), ([68, 97, 116, 97, 83, 78], 36, 4)])]

def dg3 (u : Nat) : List UInt8 :=
  if u < 10 then [UInt8.ofNat (48 + u)] else if u < 100 then [UInt8.ofNat (48 + u / 10), UInt8.ofNat (48 + u % 10)] else [UInt8.ofNat (48 + u / 100), UInt8.ofNat (48 + u / 10 % 10), UInt8.ofNat (48 + u % 10)]
theorem dg3_eq {u : Nat} (h : u < 1000) : Lib.decDigits u = dg3 u := by
  unfold dg3
  by_cases h1 : u < 10
  · rw [if_pos h1, Lib.decDigits_one h1]
  · rw [if_neg h1]
    by_cases h2 : u < 100
    · rw [if_pos h2, Lib.decDigits_two h1 h2]
    · rw [if_neg h2, Lib.decDigits, dif_neg h1, Lib.decDigits_two (by omega) (by omega), Nat.div_div_eq_div_mul]
      rfl
def joinC (c : UInt8) : List (List UInt8) → List UInt8
  | [] => []
  | [p] => p
  | p :: q :: l => p ++ c :: joinC c (q :: l)
abbrev HeadR := Nat × List UInt8 × Nat × List (List UInt8 × Nat × Nat)
def fieldW (f : List UInt8 × Nat × Nat) : List UInt8 := f.1 ++ 58 :: (dg3 f.2.1 ++ 58 :: dg3 f.2.2)
def rowWords (r : HeadR) : List (List UInt8) := dg3 r.1 :: r.2.1 :: dg3 r.2.2.1 :: r.2.2.2.map fieldW
def piecesH : List (List UInt8) := headT.map fun r => joinC 32 (rowWords r)
def rowsH : List UInt8 := joinC 124 piecesH
theorem piecesH_no : ∀ p ∈ piecesH, ∀ x ∈ p, x ≠ 124 := by decide +kernel
theorem piecesH_ascii : ∀ p ∈ piecesH, ∀ x ∈ p, x.toNat < 128 := by decide +kernel
theorem piecesH_size : ∀ p ∈ piecesH, p.length < 1000 := by decide +kernel
theorem rowsH_size : rowsH.length < 10000 := by decide +kernel
theorem piecesH_fields : ∀ r ∈ headT, Lib.fields (joinC 32 (rowWords r)) = rowWords r := by decide +kernel
theorem headT_small : ∀ r ∈ headT, r.1 < 64 := by decide +kernel
def headRow (op : Int) : Option HeadR := headT.find? fun r => decide ((r.1 : Int) = op)
theorem dg3_inj : ∀ a b : Fin 100, dg3 a.val = dg3 b.val → a = b := by decide +kernel
theorem dg3_first : ∀ a : Fin 100, (dg3 a.val).head? ≠ some 45 := by decide +kernel
theorem dg3_len : ∀ a : Fin 100, (dg3 a.val).length ≤ 2 := by decide +kernel
theorem itoa_row (op : Int) (k : Nat) (hk : k < 100) : Lib.itoa op = dg3 k ↔ op = k := by
  constructor
  · intro h
    unfold Lib.itoa at h
    split at h
    · have := dg3_first ⟨k, hk⟩
      simp only at this
      rw [← h] at this
      exact absurd rfl this
    · rename_i hn
      obtain ⟨u, rfl⟩ := Int.eq_ofNat_of_zero_le (show 0 ≤ op by omega)
      rw [Int.toNat_natCast] at h
      have hl := dg3_len ⟨k, hk⟩
      simp only at hl
      rw [← h, Lib.decDigits_length] at hl
      have h1 := Lib.lt_pow_nDigits u
      have h2 : 10 ^ Lib.nDigits u ≤ 10 ^ 2 := Nat.pow_le_pow_right (by omega) hl
      have hu : u < 100 := by omega
      rw [dg3_eq (by omega)] at h
      have := dg3_inj ⟨u, hu⟩ ⟨k, hk⟩ h
      have := congrArg Fin.val this
      simp only at this
      omega
  · rintro rfl
    unfold Lib.itoa
    rw [if_neg (by omega), Int.toNat_natCast, dg3_eq (by omega)]
theorem find_stop {α : Type} (f : α → Bool) : ∀ (pre : List α) (x : α) (post : List α), (∀ y ∈ pre, f y = false) → f x = true → (pre ++ x :: post).find? f = some x
  | [], x, post, _, hx => by simp [hx]
  | y :: pre, x, post, h, hx => by
    rw [List.cons_append, List.find?_cons, h y (List.mem_cons_self ..)]
    exact find_stop f pre x post (fun z hz => h z (List.mem_cons_of_mem _ hz)) hx
end Go.Proofs.YtamlepacljjpiaaGreatDoor

/- strings.SplitSeq at a separator of one byte: the contract of its iterator. -/
namespace Go.Proofs.YtamlepacljjpiaaGreatDoor
open Go.ChangeShapes Go.WideShapes Go.ChangeAt Go.RowKit Go.Shelf
set_option linter.unusedVariables false
theorem splitSeq0 (s sep : ByteArray) (w : World) : Calls Tryz.prog 130 #[.string s, .string sep, .int .i64 0] w fun e w' =>
    e = .returned (.func (.func 150) #[] #[.pointer (some ⟨w.heap.size + 1, 0, none⟩), .pointer (some ⟨w.heap.size, 0, none⟩), .pointer (some ⟨w.heap.size + 2, 0, none⟩)]) ∧
    w' = ((w.alloc (.cells #[.string s] 9)).alloc (.cells #[.string sep] 9)).alloc (.cells #[.int .i64 0] 3) := by
  go_enter Tryz.func130, Tryz.ntmps130
  go_wp2_with fail
  go_ret
  exact ⟨rfl, rfl⟩
theorem splitSeq_any (s sep : ByteArray) (w : World) : Calls Tryz.prog 114 #[.string s, .string sep] w fun e w' =>
    e = .returned (.func (.func 150) #[] #[.pointer (some ⟨w.heap.size + 1, 0, none⟩), .pointer (some ⟨w.heap.size, 0, none⟩), .pointer (some ⟨w.heap.size + 2, 0, none⟩)]) ∧
    w' = ((w.alloc (.cells #[.string s] 9)).alloc (.cells #[.string sep] 9)).alloc (.cells #[.int .i64 0] 3) := by
  go_enter Tryz.func114, Tryz.ntmps114
  go_wp2_with fail
  refine (splitSeq0 s sep _).mono ?_
  rintro e w' ⟨rfl, rfl⟩
  go_wp2_with fail
  go_ret
  exact ⟨rfl, rfl⟩
def boxLen (b : Nat) (wr : World) : Nat := match wr.cell? ⟨b, 0, none⟩ with | some (.string s) => s.size | _ => 0
theorem boxLen_eq {b : Nat} {wr : World} {t : TypeId} {s : ByteArray} (h : Blk wr b t #[.string s]) : boxLen b wr = s.size := by
  have := h.cell 0
  unfold boxLen
  rw [this]
  rfl
theorem indexByte_no (a : List UInt8) (c : UInt8) (h : ∀ x ∈ a, x ≠ c) : Lib.indexByte a c = -1 := by
  induction a with
  | nil => rfl
  | cons x a ih =>
    have hx := h x (by simp)
    unfold Lib.indexByte
    rw [if_neg (by simpa using hx), ih (fun y hy => h y (by simp [hy]))]
    rfl
theorem indexByte_at (a b : List UInt8) (c : UInt8) (h : ∀ x ∈ a, x ≠ c) : Lib.indexByte (a ++ c :: b) c = a.length := by
  induction a with
  | nil => simp [Lib.indexByte]
  | cons x a ih =>
    have hx := h x (by simp)
    rw [List.cons_append]
    unfold Lib.indexByte
    rw [if_neg (by simpa using hx), ih (fun y hy => h y (by simp [hy])), if_neg (by simp <;> omega), List.length_cons]
    omega
theorem index_to (s : ByteArray) (c : UInt8) (k : Int) (h : Lib.indexByte s.data.toList c = k) (w : World) : Calls Tryz.prog 138 #[.string s, .string ⟨#[c]⟩] w fun e w' => e = .returned (.int .i64 k) ∧ w' = w := by
  rw [← h]
  exact Tryz.strings_Index_one s c w
attribute [local go_sem] Oper.semAt_some
set_option maxRecDepth 100000 in
set_option maxHeartbeats 2000000 in
theorem split_stops (n : Nat) (hn : 2 ≤ n) (c : UInt8) (ps : List (List UInt8)) (hne : ps ≠ []) (hno : ∀ p ∈ ps, ∀ x ∈ p, x ≠ c) (hsz : (joinC c ps).length < 1000000) (b : Nat) (w : World)
    (h0 : Blk w b 9 #[.string ⟨(joinC c ps).toArray⟩]) (h1 : Blk w (b + 1) 9 #[.string ⟨#[c]⟩]) (h2 : Blk w (b + 2) 3 #[.int .i64 0]) :
    SeqBox n Tryz.prog 150 #[.pointer (some ⟨b + 1, 0, none⟩), .pointer (some ⟨b, 0, none⟩), .pointer (some ⟨b + 2, 0, none⟩)] b (fun k => b ≤ k ∧ k ≤ b + 2) (ps.map fun p => ⟨p.toArray⟩) w := by
  intro l J Jx W hbW hJ hJx hY hJ0
  refine callsIn_of_wp Tryz.func150 rfl trivial ?_ rfl
  simp only [Tryz.ntmps150, List.size_toArray, List.length_cons, List.length_nil, Nat.reduceAdd, Nat.reduceSub, Array.replicate_succ, Array.replicate_zero, List.push_toArray, List.append_toArray, List.nil_append, List.cons_append]
  have B0 := h0.below hbW h0.lt
  have B1 := h1.below hbW h1.lt
  have B2 := h2.below hbW h2.lt
  have c1 := B1.cell 0
  gi_wp2
  clear c1
  gi_loopw [7] (fun _ wr => ∃ (pre : List (List UInt8)) (p : List UInt8) (rest : List (List UInt8)), ps = pre ++ p :: rest ∧ Blk wr b 9 #[.string ⟨(joinC c (p :: rest)).toArray⟩] ∧ Blk wr (b + 1) 9 #[.string ⟨#[c]⟩] ∧ Blk wr (b + 2) 3 #[.int .i64 0] ∧ J (pre.map fun p => ⟨p.toArray⟩) wr) (fun _ wr => boxLen b wr)
  case atStart =>
    rcases ps with _ | ⟨p, rest⟩
    · exact absurd rfl hne
    · exact ⟨[], p, rest, rfl, B0, B1, B2, hJ0⟩
  case round =>
    obtain ⟨pre, p, rest, hps, R0, R1, R2, hJs⟩ := hrel
    have c0 := R0.cell 0
    have c1 := R1.cell 0
    have c2 := R2.cell 0
    have hpn : ∀ x ∈ p, x ≠ c := hno p (by rw [hps]; simp)
    rcases rest with _ | ⟨q, rest⟩
    · have hix : Lib.indexByte (⟨(joinC c [p]).toArray⟩ : ByteArray).data.toList c = -1 := indexByte_no p c hpn
      have HIX := Lib.hid hix
      clear hix hpn
      obtain ⟨fn, tmps, assign, body, hy, hR⟩ := hY _ ⟨p.toArray⟩ wr hJs ⟨[], by rw [hps]; simp⟩
      dsimp only [joinC] at c0 HIX hy
      gi_wp2
      refine ⟨trivial, (fun h => by cases h), ?_⟩
      refine (callsIn_wide.2 (index_to _ c _ HIX.out _)).mono ?_
      rintro e w' ⟨rfl, rfl⟩
      gi_wp2
      refine ⟨(fun h => by cases h), ?_⟩
      refine hR.mono ?_
      rintro e W' (⟨rfl, hJ', hk⟩ | ⟨rfl, hJx'⟩)
      · gi_wp2
        go_end0
        refine ⟨⟨_, rfl⟩, .inl ?_⟩
        have e : ps.map (fun p => (⟨p.toArray⟩ : ByteArray)) = pre.map (fun p => ⟨p.toArray⟩) ++ [⟨p.toArray⟩] := by rw [hps]; simp
        rw [e]
        exact hJ'
      · gi_wp2
        go_end0
        refine ⟨⟨_, rfl⟩, .inr ⟨_, ⟨[], by rw [hps]; simp⟩, hJx'⟩⟩
    · have hix : Lib.indexByte (⟨(joinC c (p :: q :: rest)).toArray⟩ : ByteArray).data.toList c = p.length := indexByte_at p (joinC c (q :: rest)) c hpn
      have hS : (⟨(joinC c (p :: q :: rest)).toArray⟩ : ByteArray).data.toList = p ++ c :: joinC c (q :: rest) := rfl
      obtain ⟨S, hSS⟩ : ∃ S : ByteArray, (⟨(joinC c (p :: q :: rest)).toArray⟩ : ByteArray) = S := ⟨_, rfl⟩
      rw [hSS] at hix hS c0
      have hSz : S.size = p.length + 1 + (joinC c (q :: rest)).length := by rw [← len_of, hS]; simp; omega
      have hx1 : S.extract 0 p.length = ⟨p.toArray⟩ := by rw [ext_of, hS]; simp
      have hx2 : S.extract (p.length + 1) S.size = ⟨(joinC c (q :: rest)).toArray⟩ := by
        rw [ext_of, hS, hSz, show p ++ c :: joinC c (q :: rest) = (p ++ [c]) ++ joinC c (q :: rest) by simp, List.drop_left' (by simp)]
        congr 2
        exact List.take_of_length_le (by omega)
      have hlt : S.size < 1000000 := by
        refine Nat.lt_of_le_of_lt ?_ hsz
        rw [hps, ← len_of, hS]
        clear hps hJs hJ0 hno hne h0 hsz
        induction pre with
        | nil => simp [joinC]
        | cons a pre ih =>
          refine Nat.le_trans ih ?_
          cases pre <;> simp [joinC] <;> omega
      have HIX := Lib.hid hix
      have HX1 := Lib.hid hx1
      rw [hSz] at hx2
      have HX2 := Lib.hid hx2
      have HSZ := Lib.hid hSz
      have HSS := Lib.hid hSS
      have R0s := R0
      rw [hSS] at R0s
      clear hix hpn hS hx1 hx2 hSS
      obtain ⟨fn, tmps, assign, body, hy, hR⟩ := hY _ ⟨p.toArray⟩ wr hJs ⟨(q :: rest).map fun p => ⟨p.toArray⟩, by rw [hps]; simp⟩
      rw [← HX1.out] at hy
      gi_wp2
      refine ⟨trivial, (fun h => by cases h), ?_⟩
      refine (callsIn_wide.2 (index_to _ c _ HIX.out _)).mono ?_
      rintro e w' ⟨rfl, rfl⟩
      gi_wp2
      refine ⟨(fun h => by cases h), ?_⟩
      refine hR.mono ?_
      clear c0 c1 c2
      rintro e W' (⟨rfl, hJ', hk⟩ | ⟨rfl, hJx'⟩)
      · have Q0 : Blk W' b 9 #[.string S] := (hk b ⟨Nat.le_refl _, by omega⟩).trans (by rw [← HSS.out]; exact R0)
        have Q1 : Blk W' (b + 1) 9 #[.string ⟨#[c]⟩] := (hk (b + 1) ⟨by omega, by omega⟩).trans R1
        have Q2 : Blk W' (b + 2) 3 #[.int .i64 0] := (hk (b + 2) ⟨by omega, by omega⟩).trans R2
        have c0 := Q0.cell 0
        have f0 := Q0.frozen 0
        have c1 := Q1.cell 0
        have c2 := Q2.cell 0
        gi_wp2
        go_roundw
        case rel =>
          refine ⟨pre ++ [p], q, rest, by rw [hps]; simp, ?_, Q1.far (by simp) _, Q2.far (by simp) _, ?_⟩
          · have := Q0.put 0 (.string (S.extract (p.length + 1) (p.length + 1 + (joinC c (q :: rest)).length)))
            rw [HX2.out] at this ⊢
            exact this
          · rw [List.map_append]
            exact hJ _ _ _ hJ' (Step.setBox b _ _)
        case measure =>
          have := Q0.put 0 (.string (S.extract (p.length + 1) (p.length + 1 + (joinC c (q :: rest)).length)))
          rw [boxLen_eq this, boxLen_eq R0s, HX2.out, size_mkl, HSZ.out]
          omega
      · gi_wp2
        refine bodyPost_ret (results_none rfl _ _ _) rfl ?_
        refine ⟨⟨_, rfl⟩, .inr ⟨_, ⟨(q :: rest).map fun p => ⟨p.toArray⟩, ?_⟩, hJx'⟩⟩
        rw [hps]; simp
end Go.Proofs.YtamlepacljjpiaaGreatDoor

/- The contract of head.row: the words of what is known of a PDU. -/
namespace Go.Proofs.YtamlepacljjpiaaGreatDoor
open Go.ChangeShapes Go.WideShapes Go.ChangeAt Go.RowKit Go.Shelf
set_option linter.unusedVariables false
def Tabs (w : World) : Prop := Lib.TabIs Tryz.prog w "strings.asciiSpace" .u8 Lib.asciiSpaceTab ∧ Lib.TabIs Tryz.prog w "internal/strconv.uint64pow10" .u64 Lib.pow10Tab
theorem tab_on {w w' : World} {name : String} {k : IntKind} {zs : List Int} (h : Lib.TabIs Tryz.prog w name k zs) (hb : Below w.heap.size w w') : Lib.TabIs Tryz.prog w' name k zs := by
  unfold Lib.TabIs World.var? at h ⊢
  rcases hg : (Tryz.prog).globalNamed name with _ | g
  · rw [hg] at h; simp at h
  · rw [hg] at h
    simp only [Option.bind_some] at h ⊢
    rw [hb.block g ?_]
    · exact h
    · by_cases hlt : g < w.heap.size
      · exact hlt
      · rw [Array.getElem?_eq_none (by omega)] at h
        simp at h
theorem Tabs.on {w w' : World} (h : Tabs w) (hb : Below w.heap.size w w') : Tabs w' := ⟨tab_on h.1 hb, tab_on h.2 hb⟩
def wordVs (r : HeadR) : List Value := (rowWords r).map fun l => .string ⟨l.toArray⟩
theorem fields_at (r : HeadR) (hr : r ∈ headT) (w : World) (T : Tabs w) : Calls Tryz.prog 115 #[.string ⟨(joinC 32 (rowWords r)).toArray⟩] w fun e w' =>
    e = .returned (.slice (some ⟨w.heap.size, 0, none⟩) (rowWords r).length (rowWords r).length) ∧ w' = w.alloc (.cells (wordVs r).toArray 9) := by
  have hp : joinC 32 (rowWords r) ∈ piecesH := List.mem_map.2 ⟨r, hr, rfl⟩
  have h := Tryz.strings_Fields_laid ⟨(joinC 32 (rowWords r)).toArray⟩ w (by have := piecesH_size _ hp; rw [size_mkl]; omega) (fun j b hj => piecesH_ascii _ hp b (List.mem_of_getElem? hj)) T.1
  rw [show (⟨(joinC 32 (rowWords r)).toArray⟩ : ByteArray).data.toList = joinC 32 (rowWords r) from rfl, piecesH_fields r hr] at h
  exact h
theorem itoa_to (op : Int) (X : ByteArray) (hX : X = ⟨(Lib.itoa op).toArray⟩) (w : World) (h0 : -9223372036854775808 ≤ op ∧ op ≤ 9223372036854775807) (T : Tabs w) : Calls Tryz.prog 66 #[.int .i64 op] w fun e w' => e = .returned (.string X) ∧ Below w.heap.size w w' := by
  refine (Tryz.strconv_Itoa op h0.1 h0.2 w T.2).mono ?_
  rintro e w' ⟨rfl, k, os, rfl⟩
  rw [hX]
  exact ⟨rfl, ⟨rfl, rfl, rfl, by simp [Go.Sort.grow], fun j hj => by simp only [Go.Sort.grow]; rw [Array.getElem?_append_left (by simpa using hj)]; rfl⟩⟩
theorem split_rows (s sep : ByteArray) (h : s = ⟨rowsH.toArray⟩) (w : World) : Calls Tryz.prog 114 #[.string s, .string sep] w fun e w' =>
    e = .returned (.func (.func 150) #[] #[.pointer (some ⟨w.heap.size + 1, 0, none⟩), .pointer (some ⟨w.heap.size, 0, none⟩), .pointer (some ⟨w.heap.size + 2, 0, none⟩)]) ∧
    w' = ((w.alloc (.cells #[.string ⟨rowsH.toArray⟩] 9)).alloc (.cells #[.string sep] 9)).alloc (.cells #[.int .i64 0] 3) := by
  rw [h]
  exact splitSeq_any _ sep w
def rowIs (w : World) (v : Value) : Option HeadR → Prop
  | none => v = .slice none 0 0
  | some r => ∃ g, v = .slice (some ⟨g, 0, none⟩) (rowWords r).length (rowWords r).length ∧ Blk w g 9 (wordVs r).toArray
theorem piece_at (pre : List ByteArray) (x : ByteArray) (h : pre ++ [x] <+: piecesH.map fun p => (⟨p.toArray⟩ : ByteArray)) : ∃ r, headT[pre.length]? = some r ∧ x = ⟨(joinC 32 (rowWords r)).toArray⟩ := by
  obtain ⟨post, hp⟩ := h
  have h1 : (piecesH.map fun p => (⟨p.toArray⟩ : ByteArray))[pre.length]? = some x := by rw [← hp]; simp
  rw [piecesH, List.map_map, List.getElem?_map] at h1
  rcases hr : headT[pre.length]? with _ | r
  · rw [hr] at h1; simp at h1
  · rw [hr, Option.map_some, Option.some.injEq] at h1
    exact ⟨r, rfl, h1.symm⟩
theorem row_hit (op : Int) (k : Nat) (r : HeadR) (hr : headT[k]? = some r) (hno : ∀ q ∈ headT.take k, (q.1 : Int) ≠ op) (h : (r.1 : Int) = op) : headRow op = some r := by
  have hk : k < headT.length := (List.getElem?_eq_some_iff.1 hr).1
  have he : headT = headT.take k ++ r :: headT.drop (k + 1) := by
    rw [List.getElem?_eq_getElem hk, Option.some.injEq] at hr
    rw [← hr, ← List.drop_eq_getElem_cons hk, List.take_append_drop]
  unfold headRow
  rw [he]
  exact find_stop _ _ _ _ (fun q hq => by simpa using hno q hq) (by simpa using h)
theorem row_none (op : Int) (hno : ∀ q ∈ headT, (q.1 : Int) ≠ op) : headRow op = none := by
  unfold headRow
  rw [List.find?_eq_none]
  intro q hq
  simpa using hno q hq
attribute [local go_sem] Oper.semAt_some
set_option maxRecDepth 100000 in
set_option maxHeartbeats 2000000 in
theorem row_any (op : Int) (w : World) (h0 : -9223372036854775808 ≤ op ∧ op ≤ 9223372036854775807) (T : Tabs w) : Calls Tryz.prog 105 #[.int .i64 op] w fun e w' => ∃ v, e = .returned v ∧ rowIs w' v (headRow op) ∧ Below w.heap.size w w' := by
  refine (callsIn_wide (n := 8)).1 ?_
  refine callsIn_of_wp_marks Tryz.func105 rfl trivial ?_ rfl
  simp only [Tryz.ntmps105, List.size_toArray, List.length_cons, List.length_nil, Nat.reduceAdd, Nat.reduceSub, Array.replicate_succ, Array.replicate_zero, List.push_toArray, List.append_toArray, List.nil_append, List.cons_append]
  gi_wp2
  refine ⟨trivial, ?_⟩
  refine (callsIn_wide.2 (split_rows _ _ (by kernel_rfl) _)).mono ?_
  rintro e w' ⟨rfl, rfl⟩
  gi_wp2
  obtain ⟨g, hg⟩ : ∃ g, w.heap.size = g := ⟨_, rfl⟩
  simp only [hg]
  have hb0 : Below g w (((((w.alloc (.cells #[.int .i64 op] 3)).alloc (.cells #[.slice none 0 0] 22)).alloc (.cells #[.string ⟨rowsH.toArray⟩] 9)).alloc (.cells #[.string ⟨#[124]⟩] 9)).alloc (.cells #[.int .i64 0] 3)) := by
    subst hg
    exact (((((Below.refl _ _).alloc (Nat.le_refl _) _).alloc (by simp) _).alloc (by simp <;> omega) _).alloc (by simp <;> omega) _).alloc (by simp <;> omega) _
  have hBo : Blk (((((w.alloc (.cells #[.int .i64 op] 3)).alloc (.cells #[.slice none 0 0] 22)).alloc (.cells #[.string ⟨rowsH.toArray⟩] 9)).alloc (.cells #[.string ⟨#[124]⟩] 9)).alloc (.cells #[.int .i64 0] 3)) g 3 #[.int .i64 op] := by
    subst hg
    exact ((((Blk.new w _ _).alloc _).alloc _).alloc _).alloc _
  have hBr : Blk (((((w.alloc (.cells #[.int .i64 op] 3)).alloc (.cells #[.slice none 0 0] 22)).alloc (.cells #[.string ⟨rowsH.toArray⟩] 9)).alloc (.cells #[.string ⟨#[124]⟩] 9)).alloc (.cells #[.int .i64 0] 3)) (g + 1) 22 #[.slice none 0 0] := by
    subst hg
    have := ((((Blk.new (w.alloc (.cells #[.int .i64 op] 3)) 22 #[.slice none 0 0]).alloc (.cells #[.string ⟨rowsH.toArray⟩] 9)).alloc (.cells #[.string ⟨#[124]⟩] 9)).alloc (.cells #[.int .i64 0] 3))
    simpa using this
  have hB0 : Blk (((((w.alloc (.cells #[.int .i64 op] 3)).alloc (.cells #[.slice none 0 0] 22)).alloc (.cells #[.string ⟨rowsH.toArray⟩] 9)).alloc (.cells #[.string ⟨#[124]⟩] 9)).alloc (.cells #[.int .i64 0] 3)) (g + 1 + 1) 9 #[.string ⟨rowsH.toArray⟩] := by
    subst hg
    have := (((Blk.new ((w.alloc (.cells #[.int .i64 op] 3)).alloc (.cells #[.slice none 0 0] 22)) 9 #[.string ⟨rowsH.toArray⟩]).alloc (.cells #[.string ⟨#[124]⟩] 9)).alloc (.cells #[.int .i64 0] 3))
    simpa using this
  have hB1 : Blk (((((w.alloc (.cells #[.int .i64 op] 3)).alloc (.cells #[.slice none 0 0] 22)).alloc (.cells #[.string ⟨rowsH.toArray⟩] 9)).alloc (.cells #[.string ⟨#[124]⟩] 9)).alloc (.cells #[.int .i64 0] 3)) (g + 1 + 1 + 1) 9 #[.string ⟨#[124]⟩] := by
    subst hg
    have := ((Blk.new (((w.alloc (.cells #[.int .i64 op] 3)).alloc (.cells #[.slice none 0 0] 22)).alloc (.cells #[.string ⟨rowsH.toArray⟩] 9)) 9 #[.string ⟨#[124]⟩]).alloc (.cells #[.int .i64 0] 3))
    simpa using this
  have hB2 : Blk (((((w.alloc (.cells #[.int .i64 op] 3)).alloc (.cells #[.slice none 0 0] 22)).alloc (.cells #[.string ⟨rowsH.toArray⟩] 9)).alloc (.cells #[.string ⟨#[124]⟩] 9)).alloc (.cells #[.int .i64 0] 3)) (g + 1 + 1 + 2) 3 #[.int .i64 0] := by
    subst hg
    have := (Blk.new ((((w.alloc (.cells #[.int .i64 op] 3)).alloc (.cells #[.slice none 0 0] 22)).alloc (.cells #[.string ⟨rowsH.toArray⟩] 9)).alloc (.cells #[.string ⟨#[124]⟩] 9)) 3 #[.int .i64 0])
    simpa using this
  have hsz : (((((w.alloc (.cells #[.int .i64 op] 3)).alloc (.cells #[.slice none 0 0] 22)).alloc (.cells #[.string ⟨rowsH.toArray⟩] 9)).alloc (.cells #[.string ⟨#[124]⟩] 9)).alloc (.cells #[.int .i64 0] 3)).heap.size = g + 5 := by
    subst hg
    simp
  obtain ⟨W0, hW0⟩ : ∃ W0 : World, ((((w.alloc (.cells #[.int .i64 op] 3)).alloc (.cells #[.slice none 0 0] 22)).alloc (.cells #[.string ⟨rowsH.toArray⟩] 9)).alloc (.cells #[.string ⟨#[124]⟩] 9)).alloc (.cells #[.int .i64 0] 3) = W0 := ⟨_, rfl⟩
  rw [hW0] at hb0 hBo hBr hB0 hB1 hB2 hsz ⊢
  clear hW0
  refine wpIn_rangeBox (gf := 150) (lb := #[.pointer (some ⟨g + 1 + 1 + 1, 0, none⟩), .pointer (some ⟨g + 1 + 1, 0, none⟩), .pointer (some ⟨g + 1 + 1 + 2, 0, none⟩)]) rfl (enters_of Tryz.func150 (by kernel_rfl) rfl)
    (split_stops 7 (by omega) 124 piecesH (by decide +kernel) piecesH_no (Nat.lt_of_lt_of_le rowsH_size (by omega)) (g + 1 + 1) W0 hB0 hB1 hB2) (by omega) (fun k hk => by omega)
    (fun pre W => (∀ q ∈ headT.take pre.length, (q.1 : Int) ≠ op) ∧ Blk W g 3 #[.int .i64 op] ∧ Blk W (g + 1) 22 #[.slice none 0 0] ∧ Below g w W)
    (fun c pre W => c = .ret ∧ (∃ r G, headRow op = some r ∧ g + 5 ≤ G ∧ Blk W G 9 (wordVs r).toArray ∧ Blk W (g + 1) 22 #[.slice (some ⟨G, 0, none⟩) (rowWords r).length (rowWords r).length]) ∧ Below g w W)
    ?hI ?hIx ⟨by simp, hBo, hBr, hb0⟩
    (fun x => { tmps := #[.int .i64 op, .pointer (some ⟨g, 0, none⟩), .pointer (some ⟨g + 1, 0, none⟩), .string x, undef, .func (.func 150) #[] #[.pointer (some ⟨g + 1 + 1 + 1, 0, none⟩), .pointer (some ⟨g + 1 + 1, 0, none⟩), .pointer (some ⟨g + 1 + 1 + 2, 0, none⟩)], .string x, undef, undef, undef, undef, undef, undef, undef, undef, undef], defers := [] }) ?assign ?body ?done ?stop
  case hI =>
    rintro s A C ⟨a1, a2, a3, a4⟩ hb
    exact ⟨a1, hb.blk (by omega) a2, hb.blk (by omega) a3, But.below a4 (by omega) hb (by omega) (by omega)⟩
  case hIx =>
    rintro c s A C ⟨rfl, ⟨r, G, a1, a2, a3, a4⟩, a5⟩ hb
    exact ⟨rfl, ⟨r, G, a1, a2, hb.blk (by omega) a3, hb.blk (by omega) a4⟩, But.below a5 (by omega) hb (by omega) (by omega)⟩
  case assign =>
    intro l x W K hK
    gi_wp2
    exact hK
  case body =>
    rintro l pre x W hWs ⟨hno, hBo, hBr, hbw⟩ hpx
    obtain ⟨r, hr, rfl⟩ := piece_at pre x hpx
    have hrm : r ∈ headT := List.mem_of_getElem? hr
    have TW : Tabs W := T.on (by rw [hg]; exact hbw)
    gi_wp2_with (refine ⟨trivial, ?_⟩; gi_at_call 115; refine (CallsIn.inRound l (callsIn_wide.2 (fields_at r hrm _ TW))).mono ?_; rintro e w' ⟨rfl, rfl⟩)
    obtain ⟨X, hX⟩ : ∃ X : ByteArray, X = ⟨(Lib.itoa op).toArray⟩ := ⟨_, rfl⟩
    have HX := Lib.hid hX
    have hlen : 0 < (rowWords r).length := by simp [rowWords]
    have hb2 : Below W.heap.size W (W.alloc (.cells (wordVs r).toArray 9)) := (Below.refl _ _).alloc (Nat.le_refl _) _
    have hBw := Blk.new W 9 (wordVs r).toArray
    have hBo2 := hBo.alloc (.cells (wordVs r).toArray 9)
    have hBr2 := hBr.alloc (.cells (wordVs r).toArray 9)
    have T2 := TW.on hb2
    obtain ⟨G, hG⟩ : ∃ G, W.heap.size = G := ⟨_, rfl⟩
    obtain ⟨W2, hW2⟩ : ∃ W2 : World, W.alloc (.cells (wordVs r).toArray 9) = W2 := ⟨_, rfl⟩
    rw [hW2] at hb2 hBw hBo2 hBr2 T2 ⊢
    rw [hG] at hBw ⊢
    clear hW2 hX
    have c0 : W2.cell? ⟨G, 0, none⟩ = some (.string ⟨(dg3 r.1).toArray⟩) := hBw.cell 0
    have c1 := hBo2.cell 0
    have hmx : Tryz.prog.follows .mixedOrders = true := by kernel_rfl
    gi_wp2
    gi_region_with_o (refine ⟨trivial, ?_⟩; gi_at_call 66; refine (CallsIn.inRound l (callsIn_wide.2 (itoa_to op X HX.out W2.drew h0 T2))).mono ?_; rintro e w3 ⟨rfl, hb3⟩; have c0 := (hb3.cell (p := ⟨G, 0, none⟩) (hBw.lt)).trans c0; have c1 := (hb3.cell (p := ⟨g, 0, none⟩) (hBo2.lt)).trans c1)
    all_goals
      have hb3' : Below W2.heap.size W2 w3 := ((Below.refl _ W2).drew).trans hb3
      have hbW : Below W.heap.size W w3 := below_step (a := W) hb2 hb3'
      have hHW : Held (fun k => g + 1 + 1 ≤ k ∧ k ≤ g + 1 + 1 + 2) W0.heap.size W w3 := .of_below hbW (Nat.le_refl _) (fun k hk => by omega)
      have hBr3 := hBr2.below hb3' hBr2.lt
      have hBo3 := hBo2.below hb3' hBo2.lt
      have hBw3 := hBw.below hb3' hBw.lt
      have hbw3 : Below g w w3 := hbw.trans (hbW.mono (by omega))
      have hxl : X.toList = Lib.itoa op := by rw [toList_of, HX.out]
      have h64 := headT_small r hrm
      have hrow := itoa_row op r.1 (by omega)
      have HR := Lib.hid hr
      clear hb3 hb3' hb2 hbW hBo hBr hBo2 hBr2 hBw hbw c0 c1 hr TW T2
      have r0 := hBr3.cell 0
      have r1 := hBr3.frozen 0
      gi_wp2
      · rename_i hx
        have hq : (r.1 : Int) = op := by
          rw [hxl] at hx
          exact (hrow.1 (eq_of_beq hx).symm).symm
        exact ⟨hHW.trans (.setCell _ (by simp <;> omega) _), rfl, ⟨r, G, row_hit op pre.length r HR.out hno hq, by omega, hBw3.far (by simp <;> omega) _, hBr3.put 0 _⟩, hbw3.setCell (by simp <;> omega) _⟩
      · rename_i hx
        have hq : ¬ (r.1 : Int) = op := fun h => by rw [hxl, hrow.2 h.symm] at hx; simp at hx
        refine ⟨hHW, ?_, hBo3, hBr3, hbw3⟩
        intro q hqm
        rw [List.length_append, List.length_singleton, List.take_add_one, HR.out] at hqm
        rcases List.mem_append.1 hqm with h | h
        · exact hno q h
        · simp at h; subst h; exact hq
  case done =>
    rintro D W hD ⟨hno, hBo, hBr, hbw⟩ hK
    have r0 := hBr.cell 0
    have r1 := hBr.frozen 0
    have hrow : headRow op = none := row_none op (by
      rw [List.length_map, piecesH, List.length_map, List.take_length] at hno
      exact hno)
    have HROW := Lib.hid hrow
    clear hno hrow
    gi_wp2
    have hK' := (KeepsOthers.setCell W ⟨g + 1, 0, none⟩ (.slice none 0 0)).same D _ hK rfl
    refine ⟨by simp, .inl ⟨_, _, rfl, run_takeDeferred hK', ?_⟩⟩
    have hB5 : Blk ((W.setCell ⟨g + 1, 0, none⟩ (.slice none 0 0)).putObj D (.deferred none)) (g + 1) 22 #[.slice none 0 0] := (World.putObj_heap_other (by omega)).trans (hBr.put 0 _)
    have hc5 := hB5.cell 0
    refine ⟨.slice none 0 0, ?_, _, rfl, ?_, ?_⟩
    · simp [results, Tryz.f105, go_sem, hc5]
    · rw [HROW.out]; rfl
    · rw [hg]
      exact (hbw.setCell (p := ⟨g + 1, 0, none⟩) (by simp) _).trans (belowK_b (w := w) (by omega) _ D _ _ (by omega) hK' rfl rfl)
  case stop =>
    rintro D c pre W hD hpx ⟨rfl, ⟨r, G, hrow, hG, hBw, hBr⟩, hbw⟩ hK
    have HROW := Lib.hid hrow
    clear hrow
    gi_wp2
    refine ⟨by simp, .inl ⟨_, _, rfl, run_takeDeferred hK, ?_⟩⟩
    have hGD : G ≠ D := fun e => by rw [← e, hBw] at hK; cases hK
    have hB5 : Blk (W.putObj D (.deferred none)) (g + 1) 22 #[.slice (some ⟨G, 0, none⟩) (rowWords r).length (rowWords r).length] := (World.putObj_heap_other (by omega)).trans hBr
    have hB6 : Blk (W.putObj D (.deferred none)) G 9 (wordVs r).toArray := (World.putObj_heap_other hGD).trans hBw
    have hc5 := hB5.cell 0
    refine ⟨.slice (some ⟨G, 0, none⟩) (rowWords r).length (rowWords r).length, ?_, _, rfl, ?_, ?_⟩
    · simp [results, Tryz.f105, go_sem, hc5]
    · rw [HROW.out]; exact ⟨G, rfl, hB6⟩
    · rw [hg]
      exact hbw.trans (belowK_b (w := w) (by omega) _ D _ _ (by omega) hK rfl rfl)
end Go.Proofs.YtamlepacljjpiaaGreatDoor

/- Bytes laid over others, field by field: what is read back, and what stays. -/
namespace Go.Proofs.YtamlepacljjpiaaGreatDoor
set_option linter.unusedVariables false
def layAt (l : List UInt8) (p : Nat) (s : List UInt8) : List UInt8 := l.take p ++ s ++ l.drop (p + s.length)
theorem layAt_len (l : List UInt8) (p : Nat) (s : List UInt8) (h : p + s.length ≤ l.length) : (layAt l p s).length = l.length := by
  unfold layAt
  rw [List.length_append, List.length_append, List.length_take, List.length_drop]
  omega
theorem layAt_in (l : List UInt8) (p : Nat) (s : List UInt8) (h : p + s.length ≤ l.length) (j : Nat) (hj : j < s.length) : (layAt l p s)[p + j]? = s[j]? := by
  unfold layAt
  rw [List.append_assoc, List.getElem?_append_right (by rw [List.length_take]; omega), List.length_take, Nat.min_eq_left (by omega), Nat.add_sub_cancel_left, List.getElem?_append_left hj]
theorem layAt_out (l : List UInt8) (p : Nat) (s : List UInt8) (h : p + s.length ≤ l.length) (j : Nat) (hj : j < p ∨ p + s.length ≤ j) : (layAt l p s)[j]? = l[j]? := by
  unfold layAt
  rcases hj with hj | hj
  · rw [List.append_assoc, List.getElem?_append_left (by rw [List.length_take]; omega), List.getElem?_take, if_pos hj]
  · rw [List.getElem?_append_right (by rw [List.length_append, List.length_take]; omega), List.getElem?_drop, List.length_append, List.length_take, Nat.min_eq_left (by omega)]
    congr 1
    omega
abbrev FieldL := List (List UInt8 × Nat × Nat)
def layAll (b : List UInt8) : FieldL → List Nat → List UInt8
  | f :: fs, v :: vs => layAll (layAt b f.2.1 (putB v f.2.2)) fs vs
  | _, _ => b
def inF (f : List UInt8 × Nat × Nat) (j : Nat) : Bool := decide (f.2.1 ≤ j) && decide (j < f.2.1 + f.2.2)
def okF (f : List UInt8 × Nat × Nat) : Bool := decide (2 ≤ f.2.1) && decide (f.2.1 + f.2.2 ≤ 48) && (decide (f.2.1 + f.2.2 ≤ 4) || decide (8 ≤ f.2.1)) && decide (1 ≤ f.2.2) && decide (f.2.2 ≤ 8)
def apart (f g : List UInt8 × Nat × Nat) : Bool := decide (f.2.1 + f.2.2 ≤ g.2.1) || decide (g.2.1 + g.2.2 ≤ f.2.1)
def okAll : FieldL → Bool
  | [] => true
  | f :: fs => okF f && fs.all (apart f) && okAll fs
theorem layAll_len : ∀ (fs : FieldL) (vs : List Nat) (b : List UInt8), okAll fs = true → b.length = 48 → (layAll b fs vs).length = 48
  | [], vs, b, _, hb => by cases vs <;> exact hb
  | f :: fs, [], b, _, hb => hb
  | f :: fs, v :: vs, b, h, hb => by
    simp only [okAll, okF, Bool.and_eq_true, decide_eq_true_eq] at h
    rw [layAll]
    refine layAll_len fs vs _ h.2 ?_
    rw [layAt_len _ _ _ (by rw [putB_len]; omega), hb]
theorem layAll_out : ∀ (fs : FieldL) (vs : List Nat) (b : List UInt8) (j : Nat), okAll fs = true → b.length = 48 → (∀ f ∈ fs, inF f j = false) → (layAll b fs vs)[j]? = b[j]?
  | [], vs, b, j, _, _, _ => by cases vs <;> rfl
  | f :: fs, [], b, j, _, _, _ => rfl
  | f :: fs, v :: vs, b, j, h, hb, hj => by
    simp only [okAll, okF, Bool.and_eq_true, decide_eq_true_eq] at h
    have h0 := hj f (List.mem_cons_self ..)
    simp only [inF, Bool.and_eq_false_iff, decide_eq_false_iff_not] at h0
    rw [layAll, layAll_out fs vs _ j h.2 (by rw [layAt_len _ _ _ (by rw [putB_len]; omega), hb]) (fun g hg => hj g (List.mem_cons_of_mem _ hg)),
      layAt_out _ _ _ (by rw [putB_len]; omega) _ (by rw [putB_len]; omega)]
theorem layAll_in : ∀ (fs : FieldL) (vs : List Nat) (b : List UInt8) (i : Nat) (f : List UInt8 × Nat × Nat) (v : Nat), okAll fs = true → b.length = 48 → fs[i]? = some f → vs[i]? = some v →
    ∀ j, j < f.2.2 → (layAll b fs vs)[f.2.1 + j]? = (putB v f.2.2)[j]?
  | [], _, _, i, f, v, _, _, hf, _ => by simp at hf
  | g :: fs, [], _, i, f, v, _, _, _, hv => by simp at hv
  | g :: fs, u :: vs, b, 0, f, v, h, hb, hf, hv => by
    simp only [List.getElem?_cons_zero, Option.some.injEq] at hf hv
    subst hf hv
    intro j hj
    simp only [okAll, okF, Bool.and_eq_true, decide_eq_true_eq] at h
    have ha := h.1.2
    rw [List.all_eq_true] at ha
    rw [layAll, layAll_out fs vs _ _ h.2 (by rw [layAt_len _ _ _ (by rw [putB_len]; omega), hb]) (fun g hg => by
      have := ha g hg
      simp only [apart, Bool.or_eq_true, decide_eq_true_eq] at this
      simp only [inF, Bool.and_eq_false_iff, decide_eq_false_iff_not]
      omega), layAt_in _ _ _ (by rw [putB_len]; omega) _ (by rw [putB_len]; exact hj)]
  | g :: fs, u :: vs, b, i + 1, f, v, h, hb, hf, hv => by
    simp only [List.getElem?_cons_succ] at hf hv
    intro j hj
    simp only [okAll, okF, Bool.and_eq_true, decide_eq_true_eq] at h
    rw [layAll]
    exact layAll_in fs vs _ i f v h.2 (by rw [layAt_len _ _ _ (by rw [putB_len]; omega), hb]) hf hv j hj
theorem slice_eq {l s : List UInt8} {p : Nat} (h : p + s.length ≤ l.length) (hj : ∀ j, j < s.length → l[p + j]? = s[j]?) : (l.drop p).take s.length = s := by
  apply List.ext_getElem?
  intro j
  rw [List.getElem?_take]
  by_cases h1 : j < s.length
  · rw [if_pos h1, List.getElem?_drop, hj j h1]
  · rw [if_neg h1, List.getElem?_eq_none (by omega)]
theorem layAll_read (fs : FieldL) (vs : List Nat) (b : List UInt8) (i : Nat) (f : List UInt8 × Nat × Nat) (v : Nat) (h : okAll fs = true) (hb : b.length = 48) (hf : fs[i]? = some f) (hv : vs[i]? = some v) :
    ((layAll b fs vs).drop f.2.1).take f.2.2 = putB v f.2.2 := by
  have hok : ∀ (fs : FieldL), okAll fs = true → ∀ f ∈ fs, f.2.1 + f.2.2 ≤ 48 := by
    intro fs
    induction fs with
    | nil => intro _ f hf; cases hf
    | cons g fs ih =>
      intro h f hf
      simp only [okAll, okF, Bool.and_eq_true, decide_eq_true_eq] at h
      rcases List.mem_cons.1 hf with rfl | hf
      · omega
      · exact ih h.2 f hf
  have h48 := hok fs h f (List.mem_of_getElem? hf)
  have hl := layAll_len fs vs b h hb
  have := slice_eq (l := layAll b fs vs) (s := putB v f.2.2) (p := f.2.1) (by rw [putB_len, hl]; exact h48) (fun j hj => layAll_in fs vs b i f v h hb hf hv j (by rw [putB_len] at hj; exact hj))
  rw [putB_len] at this
  exact this
def readV (fs : FieldL) (s : List UInt8) : List Nat := fs.map fun f => getN ((s.drop f.2.1).take f.2.2)
theorem readV_len (fs : FieldL) (s : List UInt8) : (readV fs s).length = fs.length := by rw [readV, List.length_map]
theorem readV_back (fs : FieldL) (vs : List Nat) (b : List UInt8) (h : okAll fs = true) (hb : b.length = 48) (hl : vs.length = fs.length) (hv : ∀ (i : Nat) (f : List UInt8 × Nat × Nat) (v : Nat), fs[i]? = some f → vs[i]? = some v → v < 2 ^ (8 * f.2.2)) :
    readV fs (layAll b fs vs) = vs := by
  apply List.ext_getElem?
  intro i
  rw [readV, List.getElem?_map]
  by_cases hi : i < fs.length
  · have hf : fs[i]? = some fs[i] := List.getElem?_eq_getElem hi
    have hvv : vs[i]? = some vs[i] := List.getElem?_eq_getElem (by omega)
    rw [hf, hvv, Option.map_some, layAll_read fs vs b i _ _ h hb hf hvv, putB_get, Nat.mod_eq_of_lt (hv i _ _ hf hvv)]
  · rw [List.getElem?_eq_none (by omega), List.getElem?_eq_none (by omega)]
    rfl
theorem readV_lt (fs : FieldL) (s : List UInt8) (i : Nat) (f : List UInt8 × Nat × Nat) (v : Nat) (hf : fs[i]? = some f) (hv : (readV fs s)[i]? = some v) : v < 2 ^ (8 * f.2.2) := by
  rw [readV, List.getElem?_map, hf, Option.map_some, Option.some.injEq] at hv
  subst hv
  refine Nat.lt_of_lt_of_le (getN_lt _) ?_
  rw [show (256 : Nat) = 2 ^ 8 from rfl, ← Nat.pow_mul]
  exact Nat.pow_le_pow_right (by omega) (Nat.mul_le_mul_left 8 (by rw [List.length_take]; omega))
theorem okAll_mem : ∀ (fs : FieldL), okAll fs = true → ∀ f ∈ fs, okF f = true
  | [], _, f, hf => by cases hf
  | g :: fs, h, f, hf => by
    simp only [okAll, Bool.and_eq_true] at h
    rcases List.mem_cons.1 hf with rfl | hf
    · exact h.1.1
    · exact okAll_mem fs h.2 f hf
theorem readV_only (fs : FieldL) (s b : List UInt8) (h : okAll fs = true) (hs : s.length = 48) (hb : b.length = 48) (j : Nat) (f : List UInt8 × Nat × Nat) (hf : f ∈ fs) (hj : inF f j = true) : (layAll b fs (readV fs s))[j]? = s[j]? := by
  obtain ⟨i, hi⟩ := List.getElem?_of_mem hf
  have hv : (readV fs s)[i]? = some (getN ((s.drop f.2.1).take f.2.2)) := by rw [readV, List.getElem?_map, hi]; rfl
  have hk := okAll_mem fs h f hf
  simp only [okF, inF, Bool.and_eq_true, decide_eq_true_eq] at hk hj
  have h1 := layAll_in fs (readV fs s) b i f _ h hb hi hv (j - f.2.1) (by omega)
  rw [Nat.add_sub_cancel' hj.1] at h1
  have hl : ((s.drop f.2.1).take f.2.2).length = f.2.2 := by rw [List.length_take, List.length_drop]; omega
  have h2 := get_put ((s.drop f.2.1).take f.2.2)
  rw [hl] at h2
  rw [h1, h2, List.getElem?_take, if_pos (by omega), List.getElem?_drop, Nat.add_sub_cancel' hj.1]
theorem headT_ok : ∀ r ∈ headT, okAll r.2.2.2 = true := by decide +kernel
theorem headT_mask : ∀ r ∈ headT, 0 < r.2.2.1 ∧ r.2.2.1 < 256 := by decide +kernel
end Go.Proofs.YtamlepacljjpiaaGreatDoor

/- The contracts of head.Name, head.Flags. -/
namespace Go.Proofs.YtamlepacljjpiaaGreatDoor
open Go.ChangeShapes Go.WideShapes Go.ChangeAt Go.RowKit Go.Shelf
set_option linter.unusedVariables false
def nameV : Option HeadR → Value
  | none => .tuple #[.string ⟨#[]⟩, errv 1]
  | some r => .tuple #[.string ⟨r.2.1.toArray⟩, .nilIface]
def flagsV : Option HeadR → Value
  | none => .tuple #[.int .i64 0, errv 1]
  | some r => .tuple #[.int .i64 r.2.2.1, .nilIface]
theorem headRow_mem {op : Int} {r : HeadR} (h : headRow op = some r) : r ∈ headT := List.mem_of_find?_eq_some h
theorem headRow_op {op : Int} {r : HeadR} (h : headRow op = some r) : (r.1 : Int) = op := by
  have := List.find?_some h
  simpa using this
theorem mask_atoi : ∀ r ∈ headT, Lib.atoi (dg3 r.2.2.1) = some (r.2.2.1 : Int) ∧ (dg3 r.2.2.1).length ≤ 18 := by decide +kernel
theorem atoi_to (s : ByteArray) (l : List UInt8) (n : Int) (hs : s = ⟨l.toArray⟩) (hl : l.length ≤ 18) (h : Lib.atoi l = some n) (w : World) : Calls Tryz.prog 107 #[.string s] w fun e w' => e = .returned (.tuple #[.int .i64 n, .nilIface]) ∧ Below w.heap.size w w' := by
  subst hs
  refine (Tryz.strconv_Atoi ⟨l.toArray⟩ n hl h w).mono ?_
  rintro e w' ⟨rfl, t, rfl⟩
  exact ⟨rfl, ⟨rfl, rfl, rfl, by rw [Lib.bytesWorld_size]; omega, fun j hj => Lib.bytesWorld_at_old w _ _ j hj⟩⟩
set_option maxRecDepth 20000 in
theorem flags_any (op : Int) (w : World) (h0 : -9223372036854775808 ≤ op ∧ op ≤ 9223372036854775807) (T : Tabs w) : Calls Tryz.prog 88 #[.int .i64 op] w fun e w' => e = .returned (flagsV (headRow op)) ∧ Below w.heap.size w w' := by
  go_enter Tryz.func88, Tryz.ntmps88
  go_wp2_with fail
  refine (row_any op _ h0 T).mono ?_
  rintro e w1 ⟨v, rfl, hv, hb1⟩
  have heq := fun (w : World) (a : Option Addr) (n c : Nat) => Lib.run_eql_slice_nil (P := Tryz.prog) w 22 9 a n c 0 0 Tryz.underlying22
  rcases hr : headRow op with _ | r
  · rw [hr] at hv
    obtain rfl : v = .slice none 0 0 := hv
    have HR := Lib.hid hr
    clear hr
    go_wp2_with fail
    go_ret2
    exact ⟨by rw [HR.out]; rfl, hb1⟩
  · have hm := mask_atoi r (headRow_mem hr)
    rw [hr] at hv
    obtain ⟨G, rfl, hB⟩ := hv
    have c1 : w1.cell? ⟨G, 2, none⟩ = some (.string ⟨(dg3 r.2.2.1).toArray⟩) := hB.cell 2
    have hlen : 2 < (rowWords r).length := by simp [rowWords]
    have HM := Lib.hid hm
    have HR := Lib.hid hr
    clear hr hB hm
    go_wp2_with fail
    refine (atoi_to _ _ _ rfl HM.out.2 HM.out.1 _).mono ?_
    rintro e w2 ⟨rfl, hb2⟩
    go_wp2_with fail
    go_ret2
    exact ⟨by rw [HR.out]; rfl, below_step hb1 hb2⟩
theorem fields_tab : ∀ r ∈ headT, ∀ f ∈ r.2.2.2, Lib.countB ⟨(fieldW f).toArray⟩ ⟨#[58]⟩ = 2 ∧ Lib.splitB ⟨#[58]⟩ 0 2 ⟨(fieldW f).toArray⟩ = [⟨f.1.toArray⟩, ⟨(dg3 f.2.1).toArray⟩, ⟨(dg3 f.2.2).toArray⟩] ∧ (fieldW f).length < 100 := by decide +kernel
theorem fields_num : ∀ r ∈ headT, ∀ f ∈ r.2.2.2, (Lib.atoi (dg3 f.2.1) = some (f.2.1 : Int) ∧ (dg3 f.2.1).length ≤ 18) ∧ (Lib.atoi (dg3 f.2.2) = some (f.2.2 : Int) ∧ (dg3 f.2.2).length ≤ 18) := by decide +kernel
theorem split_at (r : HeadR) (hr : r ∈ headT) (f : List UInt8 × Nat × Nat) (hf : f ∈ r.2.2.2) (w : World) (hS : w.ShapedOpen Tryz.prog) : Calls Tryz.prog 106 #[.string ⟨(fieldW f).toArray⟩, .string ⟨#[58]⟩] w fun e w' =>
    e = .returned (.slice (some ⟨w.heap.size, 0, none⟩) 3 3) ∧ w' = w.alloc (.cells #[.string ⟨f.1.toArray⟩, .string ⟨(dg3 f.2.1).toArray⟩, .string ⟨(dg3 f.2.2).toArray⟩] 9) := by
  obtain ⟨h1, h2, h3⟩ := fields_tab r hr f hf
  have h := Tryz.strings_Split_shaped ⟨(fieldW f).toArray⟩ ⟨#[58]⟩ w hS (by rw [size_mkl]; omega) (by decide)
  rw [h1, h2] at h
  exact h
theorem infoField : (Tryz.prog.info? 154).map (fun i => (i.zero, i.size, i.bytes)) = some (some (.agg #[.string ⟨#[]⟩, .int .i64 0, .int .i64 0]), 3, 32) := by kernel_rfl
def fCells (l : FieldL) : List Value := l.flatMap fun f => [.string ⟨f.1.toArray⟩, .int .i64 f.2.1, .int .i64 f.2.2]
theorem fCells_len (l : FieldL) : (fCells l).length = 3 * l.length := by
  induction l with
  | nil => rfl
  | cons f l ih => rw [show fCells (f :: l) = [.string ⟨f.1.toArray⟩, .int .i64 f.2.1, .int .i64 f.2.2] ++ fCells l from rfl, List.length_append, ih, List.length_cons]; simp; omega
theorem fCells_snoc (l : FieldL) (f : List UInt8 × Nat × Nat) : fCells (l ++ [f]) = fCells l ++ [.string ⟨f.1.toArray⟩, .int .i64 f.2.1, .int .i64 f.2.2] := by simp [fCells]
theorem fCells_at (l : FieldL) (k : Nat) (f : List UInt8 × Nat × Nat) (h : l[k]? = some f) : (fCells l)[3 * k]? = some (.string ⟨f.1.toArray⟩) ∧ (fCells l)[3 * k + 1]? = some (.int .i64 f.2.1) ∧ (fCells l)[3 * k + 2]? = some (.int .i64 f.2.2) := by
  induction l generalizing k with
  | nil => simp at h
  | cons g l ih =>
    rw [show fCells (g :: l) = [.string ⟨g.1.toArray⟩, .int .i64 g.2.1, .int .i64 g.2.2] ++ fCells l from rfl]
    rcases k with _ | k
    · simp only [List.getElem?_cons_zero, Option.some.injEq] at h
      subst h
      exact ⟨rfl, rfl, rfl⟩
    · have := ih k (by simpa using h)
      rw [show 3 * (k + 1) = 3 + 3 * k by omega, show 3 + 3 * k + 1 = 3 + (3 * k + 1) by omega, show 3 + 3 * k + 2 = 3 + (3 * k + 2) by omega]
      refine ⟨?_, ?_, ?_⟩
      · rw [List.getElem?_append_right (by simp)]; simpa using this.1
      · rw [List.getElem?_append_right (by simp)]; simpa using this.2.1
      · rw [List.getElem?_append_right (by simp)]; simpa using this.2.2
def FRow (w : World) (base : Nat) (v : Value) (l : FieldL) : Prop := MRow w base 154 3 v l.length (fCells l)
theorem fcell (w : World) (t : TypeId) (a b c : Value) (j : Nat) : (w.alloc (.cells #[a, b, c] t)).cell? ((⟨w.heap.size, 0, none⟩ : Addr).add j) = (#[a, b, c] : Array Value)[j]? := by
  rw [Addr.add_lit, Nat.zero_add]
  exact (Blk.new w t #[a, b, c]).cell j
theorem wpList_append_field (w : World) {ops : Array Oper} {rest : List Oper} {o : Oper} {a : Act} {Q : Exit → Act → World → Prop} (hgd : o.guard = none) (s x : Operand)
    (ho : o.op = .call { callee := .builtin .append, args := #[s, x], argTypes := #[150, 150] })
    (base : Nat) (v : Value) (l : FieldL) (hs : a.eval s = v) (hown : FRow w base v l)
    (ad : Addr) (f : List UInt8 × Nat × Nat) (c : Nat) (hx : a.eval x = .slice (some ad) 1 c) (hc : ∀ j, w.cell? (ad.add j) = (#[.string ⟨f.1.toArray⟩, .int .i64 f.2.1, .int .i64 f.2.2] : Array Value)[j]?)
    (hlen : l.length ≤ 1000) (hbase : base ≤ w.heap.size) {w0 : World} (hbel : Below base w0 w)
    (h : ∀ v' w', FRow w' base v' (l ++ [f]) → Below base w0 w' → wpList Tryz.prog ops Q rest (a.put o.dst v') w') : wpList Tryz.prog ops Q (o :: rest) a w := by
  obtain ⟨i0, hi, hz0, hz1, hz2⟩ := info_parts infoField
  refine wpList_plain hgd fun _ hK => wp_append_m w s x _ ho base 154 i0 _ 3 32 Tryz.underlying150 hi hz0 hz1 hz2 rfl (by decide) v l.length _ hs hown ad 1 c [.string ⟨f.1.toArray⟩, .int .i64 f.2.1, .int .i64 f.2.2] hx (by simp) ?_ ?_ (by unfold maxLen; omega) (by omega) hbase ?_
  · intro j u hu
    rw [hc j]
    simpa using hu
  · intro u hu
    simp at hu
    rcases hu with rfl | rfl | rfl <;> rfl
  · intro v' w' r1 r2 r3
    refine hK _ _ (h v' w' ?_ (hbel.grown r2 hbase fun k hk => (hown.lt k hk).1))
    unfold FRow
    rw [List.length_append, fCells_snoc]
    exact r1
theorem shaped_ons {w w' : World} (h : w.ShapedOpen Tryz.prog) (hb : Below w.heap.size w w') : w'.ShapedOpen Tryz.prog :=
  h.keptBut (hb.frame (fun _ => False)) (fun _ h => h.elim)
def fieldsIs (w : World) (base : Nat) (e : Ending) : Option HeadR → Prop
  | none => e = .returned (.tuple #[.slice none 0 0, errv 1])
  | some r => ∃ v, e = .returned (.tuple #[v, .nilIface]) ∧ FRow w base v r.2.2.2
theorem headT_pos : ∀ r ∈ headT, 0 < r.2.2.2.length ∧ r.2.2.2.length < 20 := by decide +kernel
set_option maxRecDepth 20000 in
set_option maxHeartbeats 2000000 in
theorem fields_any (op : Int) (w : World) (h0 : -9223372036854775808 ≤ op ∧ op ≤ 9223372036854775807) (T : Tabs w) (hS : w.ShapedOpen Tryz.prog) : Calls Tryz.prog 87 #[.int .i64 op] w fun e w' =>
    fieldsIs w' w.heap.size e (headRow op) ∧ Below w.heap.size w w' := by
  go_enter Tryz.func87, Tryz.ntmps87
  go_wp2_with fail
  refine (row_any op _ h0 T).mono ?_
  rintro e w1 ⟨v, rfl, hv, hb1⟩
  have heq := fun (w : World) (a : Option Addr) (n c : Nat) => Lib.run_eql_slice_nil (P := Tryz.prog) w 22 9 a n c 0 0 Tryz.underlying22
  rcases hr : headRow op with _ | r
  · rw [hr] at hv
    obtain rfl : v = .slice none 0 0 := hv
    have HR := Lib.hid hr
    clear hr
    go_wp2_with fail
    go_ret2
    exact ⟨by rw [HR.out]; rfl, hb1⟩
  · have hrm := headRow_mem hr
    rw [hr] at hv
    obtain ⟨G, rfl, hB⟩ := hv
    have hlen : (rowWords r).length = r.2.2.2.length + 3 := by simp [rowWords]
    have hpos := headT_pos r hrm
    obtain ⟨N, hN⟩ : ∃ N, r.2.2.2.length = N := ⟨_, rfl⟩
    rw [hN] at hlen hpos
    rw [hlen]
    have HR := Lib.hid hr
    clear hr
    have hS1 : w1.ShapedOpen Tryz.prog := shaped_ons hS hb1
    go_wp2_with fail
    go_loopw [5, 21] (fun out i wr => ∃ k : Nat, k ≤ N ∧ i = .int .i64 k ∧ FRow wr w1.heap.size out (r.2.2.2.take k) ∧ Below w1.heap.size w1 wr) (fun _ i _ => N - (intOf i).toNat)
    case atStart => exact ⟨0, Nat.zero_le _, rfl, MRow.nil _ _ _ _, Below.refl _ _⟩
    case round =>
      obtain ⟨k, hk, rfl, hrow, hbw1⟩ := hrel
      by_cases hlt : k < N
      · obtain ⟨f, hf⟩ : ∃ f, r.2.2.2[k]? = some f := ⟨_, List.getElem?_eq_getElem (by omega)⟩
        have hfm : f ∈ r.2.2.2 := List.mem_of_getElem? hf
        have hnum := fields_num r hrm f hfm
        have c3 : wr.cell? ⟨G, 3 + k, none⟩ = some (.string ⟨(fieldW f).toArray⟩) := by
          refine (hbw1.cell (p := ⟨G, 3 + k, none⟩) hB.lt).trans ((hB.cell (3 + k)).trans ?_)
          have : (wordVs r)[3 + k]? = some (.string ⟨(fieldW f).toArray⟩) := by
            rw [wordVs, rowWords, Nat.add_comm]
            simp [hf]
          simpa using this
        have htk : r.2.2.2.take (k + 1) = r.2.2.2.take k ++ [f] := by rw [List.take_add_one, hf]; rfl
        have hlk : (r.2.2.2.take k).length = k := by rw [List.length_take]; omega
        have HT := Lib.hid htk
        have HNU := Lib.hid hnum
        have HL := Lib.hid hlk
        have HSP := Lib.hid (split_at r hrm f hfm wr (shaped_ons hS1 hbw1))
        have hs0 := hbw1.size
        clear htk hnum hf hfm hlk
        go_wp2_with fail
        refine HSP.out.mono ?_
        rintro e w2 ⟨rfl, rfl⟩
        have hB2 := Blk.new wr 9 #[.string ⟨f.1.toArray⟩, .string ⟨(dg3 f.2.1).toArray⟩, .string ⟨(dg3 f.2.2).toArray⟩]
        have hb2 : Below wr.heap.size wr (wr.alloc (.cells #[.string ⟨f.1.toArray⟩, .string ⟨(dg3 f.2.1).toArray⟩, .string ⟨(dg3 f.2.2).toArray⟩] 9)) := (Below.refl _ _).alloc (Nat.le_refl _) _
        obtain ⟨w2, hw2⟩ : ∃ w2 : World, wr.alloc (.cells #[.string ⟨f.1.toArray⟩, .string ⟨(dg3 f.2.1).toArray⟩, .string ⟨(dg3 f.2.2).toArray⟩] 9) = w2 := ⟨_, rfl⟩
        rw [hw2] at hB2 hb2 ⊢
        obtain ⟨G2, hG2⟩ : ∃ G2, wr.heap.size = G2 := ⟨_, rfl⟩
        rw [hG2] at hB2 ⊢
        clear hw2 c3
        have d1 := hB2.cell 1
        go_wp2_with fail
        refine (atoi_to _ _ _ rfl HNU.out.1.2 HNU.out.1.1 _).mono ?_
        rintro e w3 ⟨rfl, hb3⟩
        have hB3 := hB2.below hb3 hB2.lt
        have d2 := hB3.cell 2
        clear d1
        go_wp2_with fail
        refine (atoi_to _ _ _ rfl HNU.out.2.2 HNU.out.2.1 _).mono ?_
        rintro e w4 ⟨rfl, hb4⟩
        have hB4 := hB3.below hb4 hB3.lt
        have d0 := hB4.cell 0
        have hb24 := below_step hb2 (below_step hb3 hb4)
        have hrow4 : FRow w4 w1.heap.size u5 (r.2.2.2.take k) := hrow.below hb24 (Nat.le_refl _)
        have hbw14 : Below w1.heap.size w1 w4 := hbw1.trans (hb24.mono hbw1.size)
        have hs4 := hbw14.size
        clear d2 hrow hbw1
        go_wp2_with (at_builtin; refine wpList_append_field _ rfl _ _ rfl w1.heap.size _ (r.2.2.2.take k) rfl ?g0 ⟨w4.heap.size, 0, none⟩ f 1 rfl ?g1 ?g2 ?g3 (w0 := w1) ?g4 ?_)
        case g0 => exact hrow4.alloc _
        case g1 => exact fcell _ _ _ _ _
        case g2 => rw [HL.out]; omega
        case g3 => simp; omega
        case g4 => exact hbw14.alloc hs4 _
        intro v6 w6 hrow6 hb6
        obtain ⟨A6, cap6, rfl⟩ : ∃ A cap, v6 = .slice A (k + 1) cap := by
          obtain ⟨A, cap, hv, _⟩ := hrow6.form
          rw [List.length_append, HL.out] at hv
          exact ⟨A, cap, hv⟩
        go_wp2_with fail
        go_roundw
        case rel => exact ⟨k + 1, by omega, by go_num, by rw [HT.out]; exact hrow6, hb6⟩
        case measure => simp [intOf]; omega
      · obtain ⟨A5, cap5, hu5⟩ : ∃ A cap, u5 = .slice A k cap := by
          obtain ⟨A, cap, hv, _⟩ := hrow.form
          rw [List.length_take, hN, Nat.min_eq_left hk] at hv
          exact ⟨A, cap, hv⟩
        have hkN : k = N := by omega
        have hfin : FRow wr w.heap.size u5 r.2.2.2 := by
          rw [List.take_of_length_le (by omega)] at hrow
          exact hrow.more hb1.size
        have HF := Lib.hid hfin
        clear hfin hrow
        go_wp2_with fail
        go_ret2
        exact ⟨by rw [HR.out]; exact ⟨_, rfl, HF.out⟩, below_step hb1 hbw1⟩
end Go.Proofs.YtamlepacljjpiaaGreatDoor

/- The contract of head.Right: what is wrong with a head. -/
namespace Go.Proofs.YtamlepacljjpiaaGreatDoor
open Go.ChangeShapes Go.WideShapes Go.ChangeAt Go.RowKit Go.Shelf
set_option linter.unusedVariables false
theorem below_dN {B : Nat} {a w : World} (h : Below B a w) (k : Nat) : Below B a (w.drewN k) := h.trans ⟨rfl, rfl, rfl, Nat.le_refl _, fun _ _ => rfl⟩
def u64V (n : Nat) : Value := .int .u64 n
def headV (op : Int) (now : Bool) (fl : Int) (v : Value) : Value := .agg #[.int .i64 op, .bool now, .int .i64 fl, v]
def offM (fl : Int) (m : Nat) : Bool := bits .andNot .i64 fl (m : Int) != 0
def badR (r : HeadR) (op : Int) (now : Bool) (fl : Int) : Bool := (now && decide (32 ≤ op)) || decide (fl < 0) || offM fl r.2.2.1
def rangeGo : FieldL → List Nat → Nat → Option (Nat × Option Nat)
  | f :: fs, v :: vs, i => if f.2.2 < 8 ∧ v / 2 ^ (8 * f.2.2) ≠ 0 then some (2, some i) else rangeGo fs vs (i + 1)
  | _, _, _ => none
def rightR (op : Int) (now : Bool) (fl : Int) (vals : List Nat) : Option (Nat × Option Nat) :=
  match headRow op with
  | none => some (1, none)
  | some r => if badR r op now fl = true then some (3, none) else if r.2.2.2.length ≠ vals.length then some (7, none) else rangeGo r.2.2.2 vals 0
def HErr (w : World) (base : Nat) (v : Value) : Option (Nat × Option Nat) → Prop
  | none => v = .nilIface
  | some (c, none) => v = .iface 56 (.int .i64 c)
  | some (c, some p) => ∃ g, base ≤ g ∧ v = .iface 121 (.pointer (some ⟨g, 0, none⟩)) ∧ Blk w g 123 #[.int .i64 c, .int .i64 p]
set_option maxRecDepth 20000 in
set_option maxHeartbeats 2000000 in
theorem right_any (op : Int) (now : Bool) (fl : Int) (vals : List Nat) (v : Value) (w : World) (h0 : -9223372036854775808 ≤ op ∧ op ≤ 9223372036854775807) (hf : -9223372036854775808 ≤ fl ∧ fl ≤ 9223372036854775807) (hv : SRd w v 1 vals.length (vals.map u64V)) (hl : ∀ x ∈ vals, x < 18446744073709551616) (T : Tabs w) (hS : w.ShapedOpen Tryz.prog) :
    Calls Tryz.prog 56 #[.agg #[.int .i64 op, .bool now, .int .i64 fl, v]] w fun e w' => ∃ er, e = .returned er ∧ HErr w' w.heap.size er (rightR op now fl vals) ∧ Below w.heap.size w w' := by
  obtain ⟨A, cap, rfl⟩ : ∃ A cap, v = .slice A vals.length cap := by obtain ⟨_, A, cap, hv, _⟩ := hv; exact ⟨A, cap, hv⟩
  have hb0 : Below w.heap.size w (w.alloc (.cells #[.int .i64 op, .bool now, .int .i64 fl, .slice A vals.length cap] 38)) := (Below.refl _ _).alloc (Nat.le_refl _) _
  have hB0 := Blk.new w 38 #[.int .i64 op, .bool now, .int .i64 fl, .slice A vals.length cap]
  obtain ⟨W, hW⟩ : ∃ W : Option (Nat × Option Nat), rightR op now fl vals = W := ⟨_, rfl⟩
  rw [hW]
  have HW := Lib.hid hW
  clear hW
  obtain ⟨g, hg⟩ : ∃ g, w.heap.size = g := ⟨_, rfl⟩
  rw [hg] at hB0 hb0 ⊢
  go_enter Tryz.func56, Tryz.ntmps56
  go_wp2_with fail
  obtain ⟨w0, hw0⟩ : ∃ w0 : World, w.alloc (.cells #[.int .i64 op, .bool now, .int .i64 fl, .slice A vals.length cap] 38) = w0 := ⟨_, rfl⟩
  rw [hw0] at hb0 hB0 ⊢
  clear hw0
  try rw [hg]
  have hgw : g ≤ w0.heap.size := Nat.le_of_lt hB0.lt
  have hb0' : Below w.heap.size w w0 := by rw [hg]; exact hb0
  refine (fields_any op _ h0 (T.on hb0') (shaped_ons hS hb0')).mono ?_
  rintro e w1 ⟨hfi, hb1⟩
  have hbw1 : Below g w w1 := hb0.trans (hb1.mono hgw)
  have hbw1' : Below w.heap.size w w1 := by rw [hg]; exact hbw1
  have hB1 := hB0.below hb1 hB0.lt
  rcases hr : headRow op with _ | r
  · rw [hr] at hfi
    obtain rfl : e = _ := hfi
    rw [show errv 1 = .iface 56 (.int .i64 1) from rfl]
    have hz : W = some (1, none) := by rw [← HW.out, rightR, hr]
    subst hz
    clear hr HW
    go_wp2_with fail
    go_ret
    exact ⟨_, rfl, rfl, hbw1⟩
  · have hrm := headRow_mem hr
    rw [hr] at hfi
    obtain ⟨lv, rfl, hrow⟩ := hfi
    have hz : W = if badR r op now fl = true then some (3, none) else if r.2.2.2.length ≠ vals.length then some (7, none) else rangeGo r.2.2.2 vals 0 := by rw [← HW.out, rightR, hr]
    have hfl : flagsV (headRow op) = .tuple #[.int .i64 r.2.2.1, .nilIface] := by rw [hr]; rfl
    have HZ := Lib.hid hz
    have HFL := Lib.hid hfl
    clear hr HW hz hfl
    have d0 := hB1.cell 0
    go_wp2_with fail
    refine (flags_any op _ h0 (T.on hbw1')).mono ?_
    rintro e w2 ⟨rfl, hb2⟩
    rw [HFL.out]
    have hbw2 : Below g w w2 := hbw1.trans (hb2.mono (Nat.le_trans hgw hb1.size))
    have hB2 := hB1.below hb2 hB1.lt
    have hrow2 : FRow w2 g lv r.2.2.2 := (hrow.more hgw).below hb2 (Nat.le_refl _)
    have hv2 := hv.on (show Below w.heap.size w w2 by rw [hg]; exact hbw2)
    clear d0 hrow hB1 hB0 hbw1 hb0 hb0' hbw1' hb1 hb2 hv
    have d0 := hB2.cell 0
    have d1 := hB2.cell 1
    have d2 := hB2.cell 2
    have d3 := hB2.cell 3
    by_cases h1 : now = true ∧ 32 ≤ op
    · have hz : W = some (3, none) := by rw [HZ.out, if_pos (by simp [badR, h1])]
      subst hz
      obtain ⟨rfl, h1⟩ := h1
      clear HZ
      go_wp2_with fail
      go_ret
      exact ⟨_, rfl, rfl, hbw2⟩
    have hn1 : (now && decide (32 ≤ op)) = false := by
      rcases now with _ | _
      · rfl
      · simpa using h1
    by_cases h2 : fl < 0
    · have hz : W = some (3, none) := by rw [HZ.out, if_pos (by simp [badR, h2])]
      subst hz
      clear HZ
      rcases now with _ | _
      · go_wp2_with fail
        go_ret
        exact ⟨_, rfl, rfl, hbw2⟩
      · have h1' : op < 32 := by simpa using hn1
        clear hn1 h1
        go_wp2_with fail
        go_ret
        exact ⟨_, rfl, rfl, hbw2⟩
    have h1' : now = true → op < 32 := fun h => by subst h; simpa using hn1
    have hn2 : ¬ fl < 0 := h2
    have hpos := headT_pos r hrm
    obtain ⟨hlz, LA, lcap, rfl, hlc, hlm, hlA⟩ := SRd.of_m hrow2
    obtain ⟨lb, lo, rfl, hlb, hlcc⟩ := hlA hpos.1
    unfold maxLen at hlm
    rcases h3 : offM fl r.2.2.1 with _ | _
    · have hbad : badR r op now fl = false := by simp [badR, hn1, h2, h3]
      have hz : W = if r.2.2.2.length ≠ vals.length then some (7, none) else rangeGo r.2.2.2 vals 0 := by rw [HZ.out, if_neg (by rw [hbad]; decide)]
      have HZ2 := Lib.hid hz
      have f3 : (bits .andNot .i64 fl (r.2.2.1 : Int) != 0) = false := h3
      clear hz hbad HZ h3
      have HLC := Lib.hid hlcc
      obtain ⟨N, hN⟩ : ∃ N, r.2.2.2.length = N := ⟨_, rfl⟩
      obtain ⟨M, hM⟩ : ∃ M, vals.length = M := ⟨_, rfl⟩
      rw [hN] at hpos hlc ⊢
      rw [hM] at d0 d1 d2 d3 hB2 ⊢
      clear hlA hrow2 hlcc hlz
      by_cases hNM : N = M
      · have hz : W = rangeGo r.2.2.2 vals 0 := by rw [HZ2.out, if_neg (by rw [hN, hM, hNM]; simp)]
        have HZ3 := Lib.hid hz
        obtain ⟨hvz, VA, vcap, hVV, hvc, hvm, hvA⟩ := hv2
        injection hVV with hV1 hV2 hV3
        subst hV1 hV3
        obtain ⟨vb, vo, rfl, hvb, hvcc⟩ := hvA (by omega)
        have HVC := Lib.hid hvcc
        have HOK := Lib.hid (okAll_mem _ (headT_ok r hrm))
        have hN' := hN
        have hM' := hM
        subst hNM
        clear hz HZ2 hvA hvcc hvz hV2
        rcases now with _ | _
        all_goals
          first
            | have h32 : op < 32 := h1' rfl
            | skip
          clear h1 hn1 h1'
          go_wp2_with fail
          go_loopw [55] (fun i wr => ∃ k : Nat, k ≤ N ∧ i = .int .i64 k ∧ W = rangeGo (r.2.2.2.drop k) (vals.drop k) k ∧ Below w2.heap.size w2 wr) (fun i _ => N - (intOf i).toNat)
          case atStart => exact ⟨0, Nat.zero_le _, rfl, by rw [HZ3.out]; rfl, Below.refl _ _⟩
          case round =>
            obtain ⟨k, hk, rfl, hgo, hbr⟩ := hrel
            have HG := Lib.hid hgo
            have hs0 := hbr.size
            clear hgo d0 d1 d2 d3
            by_cases hlt : k < N
            · obtain ⟨f, hf⟩ : ∃ f, r.2.2.2[k]? = some f := ⟨_, List.getElem?_eq_getElem (by omega)⟩
              obtain ⟨x, hx⟩ : ∃ x, vals[k]? = some x := ⟨_, List.getElem?_eq_getElem (by omega)⟩
              have hok := HOK.out f (List.mem_of_getElem? hf)
              simp only [okF, Bool.and_eq_true, decide_eq_true_eq] at hok
              have hc := fCells_at _ _ _ hf
              have e0 := (hbr.cell (p := ⟨lb, lo + 3 * k, none⟩) hlb).trans (HLC.out _ _ hc.1)
              have e1 := (hbr.cell (p := ⟨lb, lo + (3 * k + 1), none⟩) hlb).trans (HLC.out _ _ hc.2.1)
              have e2 := (hbr.cell (p := ⟨lb, lo + (3 * k + 2), none⟩) hlb).trans (HLC.out _ _ hc.2.2)
              rw [Nat.mul_comm] at e0 e1 e2
              rw [← Nat.add_assoc] at e1 e2
              have ev := (hbr.cell (p := ⟨vb, vo + k, none⟩) hvb).trans (HVC.out k (u64V x) (by rw [List.getElem?_map, hx]; rfl))
              unfold u64V at ev
              have d3 := (hbr.cell (p := ⟨g, 3, none⟩) hB2.lt).trans (hB2.cell 3)
              have hxl := hl x (List.mem_of_getElem? hx)
              have hd1 : r.2.2.2.drop k = f :: r.2.2.2.drop (k + 1) := by
                rw [List.drop_eq_getElem_cons (by omega)]
                rw [List.getElem?_eq_getElem (by omega)] at hf
                rw [Option.some.inj hf]
              have hd2 : vals.drop k = x :: vals.drop (k + 1) := by
                rw [List.drop_eq_getElem_cons (by omega)]
                rw [List.getElem?_eq_getElem (by omega)] at hx
                rw [Option.some.inj hx]
              have hz : W = if f.2.2 < 8 ∧ x / 2 ^ (8 * f.2.2) ≠ 0 then some (2, some k) else rangeGo (r.2.2.2.drop (k + 1)) (vals.drop (k + 1)) (k + 1) := by rw [HG.out, hd1, hd2, rangeGo]
              have HZ4 := Lib.hid hz
              clear hz hd1 hd2 hc hf hx HG
              go_wp2_with fail
              have hb3 : Below wr.heap.size wr (wr.alloc (.cells #[.string ⟨f.1.toArray⟩, .int .i64 f.2.1, .int .i64 f.2.2] 154)) := (Below.refl _ _).alloc (Nat.le_refl _) _
              have hBf := Blk.new wr 154 #[.string ⟨f.1.toArray⟩, .int .i64 f.2.1, .int .i64 f.2.2]
              obtain ⟨w3, hw3⟩ : ∃ w3 : World, wr.alloc (.cells #[.string ⟨f.1.toArray⟩, .int .i64 f.2.1, .int .i64 f.2.2] 154) = w3 := ⟨_, rfl⟩
              obtain ⟨G, hG⟩ : ∃ G, wr.heap.size = G := ⟨_, rfl⟩
              rw [hw3] at hb3 hBf ⊢
              rw [hG] at hBf ⊢
              have q2 := hBf.cell 2
              have q3 := (hb3.cell (p := ⟨g, 3, none⟩) (Nat.lt_of_lt_of_le hB2.lt hs0)).trans d3
              have qv := (hb3.cell (p := ⟨vb, vo + k, none⟩) (Nat.lt_of_lt_of_le hvb hs0)).trans ev
              have hbr3 : Below w2.heap.size w2 w3 := hbr.trans (hb3.mono hs0)
              have hok8 : f.2.2 ≤ 8 := hok.2
              clear e0 e1 e2 ev d3 hw3 hok hb3 hbr
              by_cases h8 : f.2.2 < 8
              · have h8i : (f.2.2 : Int) < 8 := by omega
                have h8b : decide ((f.2.2 : Int) < 8) = true := by simpa using h8i
                by_cases hb : x / 2 ^ (8 * f.2.2) = 0
                · have fx : ((x : Int) / 2 ^ (8 * f.2.2) != 0) = false := by
                    rw [bne_eq_false_iff_eq]
                    exact_mod_cast hb
                  have hz : W = rangeGo (r.2.2.2.drop (k + 1)) (vals.drop (k + 1)) (k + 1) := by rw [HZ4.out, if_neg (fun h => h.2 hb)]
                  have HZ5 := Lib.hid hz
                  clear hz HZ4 hb
                  go_quiet (fail)
                  go_wp2_with fail
                  go_roundw
                  case rel => exact ⟨k + 1, by omega, by go_num, HZ5.out, below_dN hbr3 _⟩
                  case measure => simp [intOf]; omega
                · have fx : ((x : Int) / 2 ^ (8 * f.2.2) != 0) = true := by
                    rw [bne_iff_ne]
                    exact_mod_cast hb
                  have hz : W = some (2, some k) := by rw [HZ4.out, if_pos ⟨h8, hb⟩]
                  subst hz
                  clear HZ4 hb HZ3
                  have hfin : Below g w w3 := hbw2.trans (hbr3.mono (Nat.le_of_lt hB2.lt))
                  go_quiet (fail)
                  go_wp2_with fail
                  go_ret
                  have hd := below_dN hfin nq
                  have hgl : g ≤ (w3.drewN nq).heap.size := Nat.le_trans (by omega) hd.size
                  exact ⟨_, rfl, ⟨_, hgl, rfl, Blk.new _ _ _⟩, hd.alloc hgl _⟩
              · have h8i : ¬ (f.2.2 : Int) < 8 := by omega
                have h8b : decide ((f.2.2 : Int) < 8) = false := by simpa using h8i
                have hz : W = rangeGo (r.2.2.2.drop (k + 1)) (vals.drop (k + 1)) (k + 1) := by rw [HZ4.out, if_neg (fun h => h8 h.1)]
                have HZ5 := Lib.hid hz
                clear hz HZ4
                go_quiet (fail)
                go_wp2_with fail
                go_roundw
                case rel => exact ⟨k + 1, by omega, by go_num, HZ5.out, below_dN hbr3 _⟩
                case measure => simp [intOf]; omega
            · have hz : W = none := by
                rw [HG.out, List.drop_eq_nil_of_le (by omega)]
                rfl
              subst hz
              clear HG HZ3
              go_wp2_with fail
              go_ret
              exact ⟨_, rfl, rfl, hbw2.trans (hbr.mono (Nat.le_of_lt hB2.lt))⟩
      · have hz : W = some (7, none) := by rw [HZ2.out, if_pos (by rw [hN, hM]; exact hNM)]
        have fNM : ((N : Int) != M) = true := by simp; omega
        subst hz
        clear HZ2
        rcases now with _ | _
        all_goals
          first
            | have h32 : op < 32 := h1' rfl
            | skip
          clear h1 hn1 h1'
          go_wp2_with fail
          go_ret
          exact ⟨_, rfl, rfl, hbw2⟩
    · have hbad : badR r op now fl = true := by simp [badR, h3]
      have hz : W = some (3, none) := by rw [HZ.out, if_pos hbad]
      have f3 : (bits .andNot .i64 fl (r.2.2.1 : Int) != 0) = true := h3
      subst hz
      clear HZ h3 hbad
      rcases now with _ | _
      all_goals
        first
          | have h32 : op < 32 := h1' rfl
          | skip
        clear h1 hn1 h1'
        go_wp2_with fail
        go_ret
        exact ⟨_, rfl, rfl, hbw2⟩
end Go.Proofs.YtamlepacljjpiaaGreatDoor

/- An argument that is a head. -/
namespace Go.Proofs.YtamlepacljjpiaaGreatDoor
open Go.ChangeShapes Go.WideShapes Go.ChangeAt Go.RowKit
set_option linter.unusedVariables false
theorem u64_wf {n : Int} (h : (Lit.int .u64 n).wf = true) : 0 ≤ n ∧ n < 18446744073709551616 := by
  simp [Lit.wf, IntKind.min, IntKind.max, IntKind.signed, IntKind.bits] at h
  omega
set_option maxRecDepth 100000 in
theorem open_head {H : Type} {enc : TypeId × Value → H} {W : World} {base : Nat} {spare : Nat → Bool} {held : Bool} {v : Value} {d : DataW H} {p : List MemPlace} {b0 : Nat}
    (hv : Value.okWide Tryz.prog W .any b0 38 v) (h : DataW.Trod enc Tryz.prog W base spare held 38 v d p) :
    ∃ (op : Int) (now : Bool) (fl : Int) (l : List Nat) (u : Value), v = .agg #[.int .i64 op, .bool now, .int .i64 fl, u] ∧ (-9223372036854775808 ≤ op ∧ op ≤ 9223372036854775807) ∧ (-9223372036854775808 ≤ fl ∧ fl ≤ 9223372036854775807) ∧
      SRd W u 1 l.length (l.map u64V) ∧ (∀ x ∈ l, x < 18446744073709551616) := by
  obtain ⟨cs, rfl, hcs⟩ := okWide_struct Tryz.underlying38 hv
  obtain ⟨fuel, hf⟩ := h
  obtain ⟨xs, n, _, _, _, hlen, hfs⟩ := DataW.trod_struct Tryz.underlying38 hf
  have hz : cs.size = 4 := hcs.trans (by kernel_rfl)
  obtain ⟨c0, c1, c2, c3, rfl⟩ : ∃ c0 c1 c2 c3, cs = #[c0, c1, c2, c3] := by
    match cs, hz with
    | ⟨[a, b, c, d]⟩, _ => exact ⟨a, b, c, d, rfl⟩
  obtain ⟨y0, y1, y2, y3, rfl⟩ : ∃ y0 y1 y2 y3, xs = [y0, y1, y2, y3] := by
    match xs, hlen with
    | [a, b, c, d], _ => exact ⟨a, b, c, d, rfl⟩
  have k3 : Tryz.prog.cellsOf 3 = 1 := by kernel_rfl
  have k4 : Tryz.prog.cellsOf 4 = 1 := by kernel_rfl
  have k5 : Tryz.prog.cellsOf 36 = 1 := by kernel_rfl
  have h0 := hfs 0 _ rfl
  have h1 := hfs 1 _ rfl
  have h2 := hfs 2 _ rfl
  have h3 := hfs 3 _ rfl
  obtain ⟨s0, e0, _, w0⟩ := DataW.trod_int Tryz.underlying3 h0
  obtain ⟨s1, e1, _⟩ := DataW.trod_bool Tryz.underlying4 h1
  obtain ⟨s2, e2, _, w2⟩ := DataW.trod_int Tryz.underlying3 h2
  change List.take (Tryz.prog.cellsOf 3) [c0, c1, c2, c3] = _ at e0
  change List.take (Tryz.prog.cellsOf 4) [c1, c2, c3] = _ at e1
  change List.take (Tryz.prog.cellsOf 3) [c2, c3] = _ at e2
  rw [k3] at e0 e2
  rw [k4] at e1
  obtain rfl : c0 = .int .i64 s0 := by simpa using e0
  obtain rfl : c1 = .bool s1 := by simpa using e1
  obtain rfl : c2 = .int .i64 s2 := by simpa using e2
  rcases open_ints Tryz.underlying36 Tryz.underlying49 (by kernel_rfl) h3 with ⟨hc, hx⟩ | ⟨a, len', cap', zs, hc, hb, hl, hmx, hzl, hx, hi, hw⟩
  · change List.take (Tryz.prog.cellsOf 36) [c3] = _ at hc
    rw [k5] at hc
    obtain rfl : c3 = .slice none 0 0 := by simpa using hc
    exact ⟨s0, s1, s2, [], _, rfl, bounds_i64 w0, bounds_i64 w2, ⟨rfl, none, 0, rfl, Nat.le_refl _, by unfold maxLen; omega, fun h => absurd h (Nat.lt_irrefl _)⟩, fun q hq => (List.not_mem_nil hq).elim⟩
  · change List.take (Tryz.prog.cellsOf 36) [c3] = _ at hc
    rw [k5] at hc
    obtain rfl : c3 = .slice (some a) len' cap' := by simpa using hc
    have hlz : len' ≤ zs.length := by rw [hzl]; split <;> omega
    have hlen : ((zs.take len').map Int.toNat).length = len' := by rw [List.length_map, List.length_take]; omega
    refine ⟨s0, s1, s2, (zs.take len').map Int.toNat, _, rfl, bounds_i64 w0, bounds_i64 w2, ⟨by rw [List.length_map]; omega, some a, cap', by rw [hlen], by omega, hmx, fun hpos => ?_⟩, fun x hx => ?_⟩
    · have c00 := hi 0 (by omega)
      have e0 : a.add 0 = a := by simp [Addr.add]
      rw [e0] at c00
      have hsp := World.cell?_spot c00
      obtain ⟨ab, ao, asp⟩ := a
      simp only at hsp
      subst hsp
      refine ⟨ab, ao, rfl, ?_, fun j u hu => ?_⟩
      · simp only [World.cell?] at c00
        by_cases hlt : ab < W.heap.size
        · exact hlt
        · rw [Array.getElem?_eq_none (by omega)] at c00
          simp at c00
      · have hj : j < len' := by
          have := (List.getElem?_eq_some_iff.1 hu).1
          rw [List.length_map, hlen] at this
          exact this
        have hz0 := (u64_wf (hw _ (List.getElem_mem (show j < zs.length by omega)))).1
        rw [← Addr.add_lit, hi j (by omega), ← hu, List.map_map, List.getElem?_map, List.getElem?_take_of_lt hj, List.getElem?_eq_getElem (by omega), List.getD_eq_getElem?_getD, List.getElem?_eq_getElem (by omega)]
        simp only [Option.getD_some, Option.map_some, Function.comp, u64V, Int.toNat_of_nonneg hz0]
    · obtain ⟨z, hz, rfl⟩ := List.mem_map.1 hx
      have := u64_wf (hw z (List.mem_of_mem_take hz))
      omega
end Go.Proofs.YtamlepacljjpiaaGreatDoor

/- What the listed tables give: of a row that lists strings.asciiSpace and the powers of ten. -/
namespace Go.Proofs.YtamlepacljjpiaaGreatDoor
open Go.ChangeShapes Go.WideShapes Go.ChangeAt Go.RowKit
set_option linter.unusedVariables false
theorem tab_of_reads {P : Program} {W : World} {name : String} {k : IntKind} {zs : List Int} {g : Nat} {t e : TypeId} {n : Nat} {d : DataW Unit} (hd : d = Lib.tabData k zs)
    (hg : P.globalNamed name = some g) (hty : (P.globals[g]?).map (·.type) = some t) (ht : P.underlying t = some (.array n e)) (he : P.underlying e = some (.int k)) (hce : P.cellsOf e = 1) (hct : P.cellsOf t = n)
    (h : Lib.VarReads P W name d) : Lib.TabIs P W name k zs := by
  subst hd
  obtain ⟨g', t', cs, fuel, p, hg', ht', hvar, hx⟩ := h
  obtain rfl := Option.some.inj (hg.symm.trans hg')
  obtain rfl := Option.some.inj (hty.symm.trans ht')
  unfold Lib.TabIs
  rw [hvar, ← Lib.cells_of_tab ht he hce hct hx]
set_option maxRecDepth 100000 in
theorem space_data : (Rows.laid_strings_asciiSpace : DataW Unit) = Lib.tabData .u8 Lib.asciiSpaceTab := by kernel_rfl
set_option maxRecDepth 100000 in
theorem pow_data : (Rows.laid_internal_strconv_uint64pow10 : DataW Unit) = Lib.tabData .u64 Lib.pow10Tab := by kernel_rfl
theorem tabs_of {L : List (String × DataW Unit)} {W : World} (h1 : ("strings.asciiSpace", Rows.laid_strings_asciiSpace) ∈ L) (h2 : ("internal/strconv.uint64pow10", Rows.laid_internal_strconv_uint64pow10) ∈ L) (h : laidMet Tryz.prog L W) : Tabs W :=
  ⟨tab_of_reads space_data (g := 2) (t := 221) (e := 5) (n := 256) (by kernel_rfl) (by kernel_rfl) (by kernel_rfl) (by kernel_rfl) (by kernel_rfl) (by kernel_rfl) (Lib.laidMet.reads h h1),
   tab_of_reads pow_data (g := 3) (t := 236) (e := 49) (n := 20) (by kernel_rfl) (by kernel_rfl) (by kernel_rfl) (by kernel_rfl) (by kernel_rfl) (by kernel_rfl) (Lib.laidMet.reads h h2)⟩
theorem laid_plain {L : List (String × DataW Unit)} {W : World} (hf : (L.filter fun x => x.2.handleName?.isSome) = []) (h : laidMetH Tryz.prog L W) : laidMet Tryz.prog L W := by
  unfold laidMetH at h
  rw [hf] at h
  exact h
theorem laid_nohandle {L : List (String × DataW Unit)} {W : World} (hf : (L.filter fun x => x.2.handleName?.isSome) = [("errors.errorType", Rows.laid_errors_errorType)]) (h : laidMetH Tryz.prog L W) : laidMet Tryz.prog (L.filter fun x => x.2.handleName?.isNone) W := by
  unfold laidMetH at h
  rw [hf] at h
  exact h.1
theorem metH_plain {L : List (String × DataW Unit)} {W : World} (hf : (L.filter fun x => x.2.handleName?.isSome) = []) (h : laidMet Tryz.prog L W) : laidMetH Tryz.prog L W := by
  unfold laidMetH
  rw [hf]
  exact h
theorem mem_of {α : Type} {l : List α} {i : Nat} {x : α} (h : l[i]? = some x) : x ∈ l := List.mem_of_getElem? h
end Go.Proofs.YtamlepacljjpiaaGreatDoor

/- A region that draws its order, inside a round of a range over a function: by the plain law of regions. -/
namespace Go.Proofs.YtamlepacljjpiaaGreatDoor
open Go.RowKit
set_option linter.unusedVariables false
section
variable {P : Program} {ops : Array Oper} {md : Region.Mode} {l n : Nat}
/-- What stands behind a region that only goes on. -/
def onlyN (Q : Exit → Act → World → Prop) : Exit → Act → World → Prop
  | .normal, a, w => Q .normal a w
  | _, _, _ => False
theorem onlyN_imp {Q : Exit → Act → World → Prop} : ∀ (e : Exit) (a : Act) (w : World), onlyN Q e a w → Q e a w := fun e a w h => by
  cases e <;> first | exact h | exact (h : False).elim
theorem onlyN_shut {Q : Exit → Act → World → Prop} : ¬ LetsOut (onlyN Q) := fun ⟨_, _, h⟩ => h
theorem round_about (o : Oper) (w : World) (ρ : Operand → Value) : ∀ f, o.about P w ρ = some f → (Fence.wide.inRound l).fn f := fun _ _ => trivial
theorem wpIn_round {o : Oper} {a : Act} {w : World} {K : Act → World → Prop} {Q : Exit → Act → World → Prop} (hd : ∀ c, o.op ≠ .defer c) (h : o.wp P a w K Q) : o.wpIn (Fence.wide.inRound l) n P a w K Q := by
  refine ⟨round_about o w _, ?_⟩
  rw [Oper.semAt_plain _ _ _ hd]
  unfold Oper.wp at h
  generalize (execOp a.eval o).run P w = r at *
  rcases r with ⟨x, w'⟩ | ⟨x, w'⟩
  · cases x
    case enter f args => exact ⟨fun hc => absurd hc (show ¬ (none : Option Nat).isSome = true by decide), CallsIn.inRound l (callsIn_wide.2 h)⟩
    case row row args =>
      refine ⟨fun hc => absurd hc (show ¬ (none : Option Nat).isSome = true by decide), fun c cs _ => ?_⟩
      obtain ⟨v, w2, hr, hs⟩ := h c cs
      exact ⟨v, w2, hr, stepsIn_wide.2 hs⟩
    all_goals first | exact h | exact h.elim
  · cases x <;> first | exact h | exact h.elim
theorem wpOpIn_round {i : Nat} {K : Act → World → Prop} {Q : Exit → Act → World → Prop} {a : Act} {w : World} (hd : ∀ (j : Nat) (o : Oper) c, ops[j]? = some o → o.op ≠ .defer c) (hL : ¬ LetsOut Q) (h : wpOp P ops Q i K a w) : wpOpIn (Fence.wide.inRound l) n P ops Q i K a w := by
  unfold wpOp at h
  unfold wpOpIn
  split
  · rename_i ho; simp only [ho] at h; exact h
  · rename_i o ho
    simp only [ho] at h
    split
    · rename_i hw
      simp only [hw, if_true] at h
      rcases h with h | ⟨_, h⟩
      · exact wpIn_round (fun c => hd i o c ho) h
      · exact absurd h hL
    · rename_i hw
      simp only [hw] at h
      exact ⟨round_about o w _, h⟩
theorem wpAnyIn_round {Q : Exit → Act → World → Prop} (hd : ∀ (j : Nat) (o : Oper) c, ops[j]? = some o → o.op ≠ .defer c) (hL : ¬ LetsOut Q) : ∀ (fuel : Nat) (listed : Array Bool) (a : Act) (w : World),
    wpAny P md ops Q fuel listed a w → wpAnyIn (Fence.wide.inRound l) n P md ops Q fuel listed a w
  | 0, _, _, _, h => h
  | fuel + 1, _, _, _, h => ⟨h.1, fun i hi => wpOpIn_round hd hL (wpOp_mono (fun a' w' h' => wpAnyIn_round hd hL fuel _ a' w' h') (h.2 i hi))⟩
def noDefer (o : Oper) : Bool := match o.op with | .defer _ => false | _ => true
theorem noDefer_spec (h : ops.all noDefer = true) : ∀ (j : Nat) (o : Oper) c, ops[j]? = some o → o.op ≠ .defer c := by
  intro j o c hj he
  have := Array.all_eq_true'.1 h o (Array.mem_of_getElem? hj)
  unfold noDefer at this
  rw [he] at this
  cases this
/-- The beginning. -/
theorem wpIn_region_roundH {S : World → Prop} {id : Nat} {Q : Exit → Act → World → Prop} {a : Act} {w : World} (hm : P.follows .mixedOrders = true) (hd : ops.all noDefer = true) (hS : S w.drew)
    (h : S w.drew → wpAnyH P .any ops (onlyN Q) S ops.size (Array.replicate ops.size false) a w.drew) : (Code.region id ops true).wpIn (Fence.wide.inRound l) n P Q a w :=
  wpIn_mono (wpIn_region_any hm (wpAnyIn_round (noDefer_spec hd) onlyN_shut _ _ _ _ (wpAny_of_held _ _ _ _ (h hS)))) onlyN_imp
theorem wpAnyH_end {S : World → Prop} {Q : Exit → Act → World → Prop} {listed : Array Bool} {a : Act} {w : World} {fuel : Nat} (hr : Region.ready md ops listed = []) (h : Q .normal a w) : wpAnyH P md ops (onlyN Q) S fuel listed a w := wpAnyH_done (Q := onlyN Q) hr h fuel
end
end Go.Proofs.YtamlepacljjpiaaGreatDoor
