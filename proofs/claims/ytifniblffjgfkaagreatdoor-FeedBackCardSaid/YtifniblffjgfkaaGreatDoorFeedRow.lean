/- Rows of pieces that a call makes, each with slices of its own. -/
import Derived.Test.YtifniblffjgfkaaGreatDoorFeedNext2
import Derived.Maps.AppendAt
namespace Go.Proofs.YtifniblffjgfkaaGreatDoor
open Go.ChangeShapes Go.WideShapes Go.ChangeAt Go.RowKit Go.Shelf
set_option linter.unusedVariables false
theorem infoPc : (Tryz.prog.info? 40).map (fun i => (i.zero, i.size, i.bytes)) = some (some (.agg zeroPcC), 7, 104) := by kernel_rfl
structure Part where
  A : Option Addr
  cap : Nat
  B : Option Addr
  bcap : Nat
def rowC : List (Pc × Part) → List Value
  | [] => []
  | x :: l => (pcC x.1 x.2.A x.2.B x.2.cap x.2.bcap).toList ++ rowC l
theorem rowC_len : ∀ l, (rowC l).length = l.length * 7
  | [] => rfl
  | x :: l => by
    rw [rowC, List.length_append, rowC_len l, List.length_cons]
    have : (pcC x.1 x.2.A x.2.B x.2.cap x.2.bcap).toList.length = 7 := rfl
    omega
theorem rowC_snoc : ∀ l x, rowC (l ++ [x]) = rowC l ++ (pcC x.1 x.2.A x.2.B x.2.cap x.2.bcap).toList
  | [], x => by rw [List.nil_append, rowC, rowC, rowC, List.append_nil, List.nil_append]
  | y :: l, x => by rw [List.cons_append, rowC, rowC_snoc l x, rowC, List.append_assoc]
def OffS (w : World) (base : Nat) (A : Option Addr) (n : Nat) (row : Option Nat) : Prop := 0 < n → ∀ a, A = some a → base ≤ a.block ∧ a.block < w.heap.size ∧ some a.block ≠ row
def PartAt (w : World) (base : Nat) (row : Option Nat) (x : Pc × Part) : Prop :=
  SRd w (.slice x.2.A x.1.vals.length x.2.cap) 1 x.1.vals.length (x.1.vals.map u64V) ∧ SRd w (.slice x.2.B x.1.al.length x.2.bcap) 2 x.1.al.length (ahsCells x.1.al) ∧ OffS w base x.2.A x.1.vals.length row ∧ OffS w base x.2.B x.1.al.length row
def PcsAt (w : World) (base : Nat) (v : Value) (ps : List Pc) : Prop := ∃ L : List (Pc × Part), L.map (·.1) = ps ∧ w.ownsRow base 40 7 v L.length (rowC L) ∧ ∀ x ∈ L, PartAt w base v.ownBlock x
theorem SRd.blocks {w w' : World} {A : Option Addr} {n cap size : Nat} {xs : List Value} (h : SRd w (.slice A n cap) size n xs) (hz : w.heap.size ≤ w'.heap.size) (hb : 0 < n → ∀ a, A = some a → w'.heap[a.block]? = w.heap[a.block]?) : SRd w' (.slice A n cap) size n xs := by
  obtain ⟨h1, A', cap', hv, h2, h3, h4⟩ := h
  refine ⟨h1, A', cap', hv, h2, h3, fun hn => ?_⟩
  obtain ⟨b, o, hA, hlt, hc⟩ := h4 hn
  injection hv with e1 e2 e3
  refine ⟨b, o, hA, by omega, fun j u hu => ?_⟩
  rw [← hc j u hu]
  exact World.cell?_of_block (hb hn ⟨b, o, none⟩ (e1.trans hA))
theorem PartAt.blocks {w w' : World} {base : Nat} {row row' : Option Nat} {x : Pc × Part} (h : PartAt w base row x) (hz : w.heap.size ≤ w'.heap.size) (hk : ∀ k, base ≤ k → k < w.heap.size → some k ≠ row → w'.heap[k]? = w.heap[k]? ∧ some k ≠ row') : PartAt w' base row' x := by
  obtain ⟨h1, h2, h3, h4⟩ := h
  refine ⟨h1.blocks hz fun hn a ha => ?_, h2.blocks hz fun hn a ha => ?_, fun hn a ha => ?_, fun hn a ha => ?_⟩
  · obtain ⟨q1, q2, q3⟩ := h3 hn a ha
    exact (hk _ q1 q2 q3).1
  · obtain ⟨q1, q2, q3⟩ := h4 hn a ha
    exact (hk _ q1 q2 q3).1
  · obtain ⟨q1, q2, q3⟩ := h3 hn a ha
    exact ⟨q1, by omega, (hk _ q1 q2 q3).2⟩
  · obtain ⟨q1, q2, q3⟩ := h4 hn a ha
    exact ⟨q1, by omega, (hk _ q1 q2 q3).2⟩
theorem ownsRow_on {w w' : World} {base : Nat} {e : TypeId} {size n : Nat} {v : Value} {xs : List Value} (h : w.ownsRow base e size v n xs) (hk : ∀ g, base ≤ g → g < w.heap.size → v.ownBlock = some g → w'.heap[g]? = w.heap[g]?) : w'.ownsRow base e size v n xs := by
  refine ⟨h.1, ?_⟩
  rcases h.2 with h | ⟨g, cap, cur, rfl, h2, h3, h4⟩
  · exact .inl h
  · exact .inr ⟨g, cap, cur, rfl, h2, (hk g h2 (Array.getElem?_eq_some_iff.1 h3).1 rfl).trans h3, h4⟩
theorem ownsRow_lt {w : World} {base : Nat} {e : TypeId} {size n : Nat} {v : Value} {xs : List Value} (h : w.ownsRow base e size v n xs) : ∀ k, v.ownBlock = some k → base ≤ k ∧ k < w.heap.size := by
  intro k hk
  rcases h.2 with ⟨rfl, _⟩ | ⟨g, cap, cur, rfl, h2, h3, h4⟩
  · simp [Value.ownBlock] at hk
  · have : g = k := by simpa [Value.ownBlock] using hk
    subst this
    exact ⟨h2, (Array.getElem?_eq_some_iff.1 h3).1⟩
theorem PcsAt.step {w w' : World} {base g : Nat} {v : Value} {ps : List Pc} (h : PcsAt w base v ps) (hs : Step g w w') (hg : g < base) : PcsAt w' base v ps := by
  obtain ⟨L, h1, h2, h3⟩ := h
  exact ⟨L, h1, ownsRow_on h2 fun k hk hl _ => hs.block k (by omega) hl, fun x hx => (h3 x hx).blocks hs.size fun k hk hl hr => ⟨hs.block k (by omega) hl, hr⟩⟩
theorem PcsAt.on {w w' : World} {base : Nat} {v : Value} {ps : List Pc} (h : PcsAt w base v ps) (hb : Below w.heap.size w w') : PcsAt w' base v ps := by
  obtain ⟨L, h1, h2, h3⟩ := h
  exact ⟨L, h1, ownsRow_on h2 fun k hk hl _ => hb.block k hl, fun x hx => (h3 x hx).blocks hb.size fun k hk hl hr => ⟨hb.block k hl, hr⟩⟩
theorem PcsAt.nil (w : World) (base : Nat) : PcsAt w base (.slice none 0 0) [] := ⟨[], rfl, World.ownsRow_nil w base _ _, fun x hx => by cases hx⟩
theorem PcsAt.push {w w' : World} {base : Nat} {v v' : Value} {L : List (Pc × Part)} {x : Pc × Part} (hL : ∀ y ∈ L, PartAt w base v.ownBlock y) (hx : PartAt w base v.ownBlock x)
    (hr : w'.ownsRow base 40 7 v' (L.length + 1) (rowC L ++ (pcC x.1 x.2.A x.2.B x.2.cap x.2.bcap).toList)) (hg : w.grownBy w' v.ownBlock) (ho : v'.ownBlock = v.ownBlock ∨ v'.ownBlock = some w.heap.size) : PcsAt w' base v' (L.map (·.1) ++ [x.1]) := by
  have hk : ∀ k, base ≤ k → k < w.heap.size → some k ≠ v.ownBlock → w'.heap[k]? = w.heap[k]? ∧ some k ≠ v'.ownBlock := by
    intro k h1 h2 h3
    refine ⟨hg.block k h2 h3, ?_⟩
    rcases ho with ho | ho
    · rw [ho]; exact h3
    · rw [ho]
      intro h
      have := Option.some.inj h
      omega
  refine ⟨L ++ [x], by simp, by rw [List.length_append, List.length_singleton, rowC_snoc]; exact hr, fun y hy => ?_⟩
  rcases List.mem_append.1 hy with hy | hy
  · exact (hL y hy).blocks hg.size hk
  · simp only [List.mem_singleton] at hy
    subst hy
    exact hx.blocks hg.size hk
end Go.Proofs.YtifniblffjgfkaaGreatDoor
