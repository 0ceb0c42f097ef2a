/- One's things in memory: the record with one row more. -/
import Derived.Test.YtadhlnpegigadaaGreatDoorNegoS
import Derived.Test.YtadhlnpegigadaaGreatDoorNegoL
namespace Go.Proofs.YtadhlnpegigadaaGreatDoor
open Go.ChangeShapes Go.WideShapes Go.ChangeAt Go.RowKit Go.Shelf
set_option linter.unusedVariables false
theorem NF.grown {S : List Nat} {A B C : World} {row : Option Nat} (h : NF S A B) (k : B.grownBy C row) (hr : ∀ x, row = some x → x ∈ S ∨ A.heap.size ≤ x) : NF S A C :=
  ⟨k.os.trans h.os, k.tape.trans h.tape, k.output.trans h.output, Nat.le_trans h.size k.size, fun x hx hn => (k.block x (Nat.lt_of_lt_of_le hx h.size) (fun e => by
    rcases hr x e.symm with h1 | h1
    · exact hn h1
    · omega)).trans (h.block x hx hn)⟩
theorem NF.put {S : List Nat} {A B : World} (h : NF S A B) {g : Nat} (hg : g ∈ S ∨ A.heap.size ≤ g) (i : Nat) (u : Value) : NF S A (B.setCell ⟨g, i, none⟩ u) :=
  ⟨h.os, h.tape, h.output, by simpa using h.size, fun x hx hn => (Below.heap_setCell _ _ _ _ (by
    rintro rfl
    rcases hg with h1 | h1
    · exact hn h1
    · exact absurd (show x < A.heap.size from hx) (by show ¬ x < A.heap.size; simpa using h1))).trans (h.block x hx hn)⟩
theorem NF.more {S S' : List Nat} {A B : World} (h : NF S A B) (hs : ∀ x ∈ S, x ∈ S' ∨ A.heap.size ≤ x) : NF S' A B :=
  ⟨h.os, h.tape, h.output, h.size, fun x hx hn => h.block x hx fun hm => by
    rcases hs x hm with h1 | h1
    · exact hn h1
    · omega⟩
theorem ORow.more {w : World} {base base' : Nat} {v : Value} {l : PairL} (h : ORow w base v l) (hb : base' ≤ base) : ORow w base' v l := by
  refine ⟨h.1, ?_⟩
  rcases h.2 with hn | ⟨g, cap, cur, rfl, h2, h3⟩
  · exact .inl hn
  · exact .inr ⟨g, cap, cur, rfl, Nat.le_trans hb h2, h3⟩
theorem ORow.put {w : World} {base g : Nat} {v : Value} {l : PairL} (h : ORow w base v l) (hg : v.ownBlock ≠ some g) (i : Nat) (u : Value) : ORow (w.setCell ⟨g, i, none⟩ u) base v l :=
  h.keep fun k hk => Below.heap_setCell _ _ _ _ (by rintro rfl; exact hg hk)
theorem ORow.grown {w w' : World} {base : Nat} {v : Value} {l : PairL} {row : Option Nat} (h : ORow w base v l) (hg : w.grownBy w' row) (hne : v.ownBlock = none ∨ v.ownBlock ≠ row) : ORow w' base v l :=
  h.keep fun k hk => hg.block k (h.lt k hk).2 (by
    rcases hne with h1 | h1
    · rw [hk] at h1; cases h1
    · rw [hk] at h1; exact h1)
def NegoX (w : World) (S : List Nat) (g : Nat) (own rc : PairL) (ov rv : Value) : Prop := Blk w g 99 #[ov, rv] ∧ PRow w 0 ov own ∧ ORow w 0 rv rc ∧ g ∈ S ∧ (∀ k, ov.ownBlock = some k → k ∈ S ∧ k ≠ g ∧ rv.ownBlock ≠ some k) ∧ (∀ k, rv.ownBlock = some k → k ∈ S ∧ k ≠ g) ∧ ∀ k ∈ S, k < w.heap.size
theorem NegoX.h {w : World} {S : List Nat} {g : Nat} {own rc : PairL} {ov rv : Value} (h : NegoX w S g own rc ov rv) : NegoH w S g own rc := ⟨ov, rv, h⟩
theorem NegoX.keep {w w' : World} {S : List Nat} {g : Nat} {own rc : PairL} {ov rv : Value} (h : NegoX w S g own rc ov rv) (hz : w.heap.size ≤ w'.heap.size) (hk : ∀ k ∈ S, w'.heap[k]? = w.heap[k]?) : NegoX w' S g own rc ov rv := by
  obtain ⟨h1, h2, h3, h4, h5, h6, h7⟩ := h
  exact ⟨(hk g h4).trans h1, h2.keep fun k hb => hk k (h5 k hb).1, h3.keep fun k hb => hk k (h6 k hb).1, h4, h5, h6, fun k hm => Nat.lt_of_lt_of_le (h7 k hm) hz⟩
theorem NegoX.lt {w : World} {S : List Nat} {g : Nat} {own rc : PairL} {ov rv : Value} (h : NegoX w S g own rc ov rv) : ∀ k ∈ S, k < w.heap.size := h.2.2.2.2.2.2
theorem NegoX.on {w w' : World} {S : List Nat} {g : Nat} {own rc : PairL} {ov rv : Value} (h : NegoX w S g own rc ov rv) (hb : Below w.heap.size w w') : NegoX w' S g own rc ov rv :=
  h.keep hb.size fun k hm => hb.block k (h.lt k hm)
theorem NegoX.grown {w w' : World} {S : List Nat} {g : Nat} {own rc : PairL} {ov rv : Value} {row : Option Nat} (h : NegoX w S g own rc ov rv) (hg : w.grownBy w' row) (hr : ∀ x, row = some x → x ∉ S) : NegoX w' S g own rc ov rv :=
  h.keep hg.size fun k hm => hg.block k (h.lt k hm) fun e => hr k e.symm hm
/- the record's cell put anew: a row of the same block -/
theorem NegoX.put {w : World} {S : List Nat} {g : Nat} {own rc rc' : PairL} {ov rv rv' : Value} (h : NegoX w S g own rc ov rv) (ho : ORow w 0 rv' rc') (hs : rv'.ownBlock = rv.ownBlock) : NegoX (w.setCell ⟨g, 1, none⟩ rv') S g own rc' ov rv' := by
  obtain ⟨h1, h2, h3, h4, h5, h6, h7⟩ := h
  refine ⟨?_, h2.keep fun k hb => Below.heap_setCell _ _ _ _ (by rintro rfl; exact (h5 _ hb).2.1 rfl), ho.keep fun k hb => Below.heap_setCell _ _ _ _ (by rintro rfl; exact (h6 _ (hs ▸ hb)).2 rfl), h4, fun k hk => ⟨(h5 k hk).1, (h5 k hk).2.1, by rw [hs]; exact (h5 k hk).2.2⟩, fun k hk => h6 k (hs ▸ hk), fun k hm => by simpa using h7 k hm⟩
  exact h1.put 1 rv'
/- the record with one row more: the row's block the same, or a new one -/
theorem NegoX.push {w w5 : World} {S : List Nat} {g : Nat} {own rc rc' : PairL} {ov rv rv' : Value} (h : NegoX w S g own rc ov rv) (ho : ORow w5 0 rv' rc') (hg : w.grownBy w5 rv.ownBlock) (hat : rv'.ownBlock = rv.ownBlock ∨ rv'.ownBlock = some w.heap.size) :
    ∃ S', NegoX (w5.setCell ⟨g, 1, none⟩ rv') S' g own rc' ov rv' ∧ NF S w (w5.setCell ⟨g, 1, none⟩ rv') ∧ (∀ x ∈ S', x ∈ S ∨ w.heap.size ≤ x) ∧ ∀ x, x ∉ S → x < w.heap.size → x ∉ S' := by
  obtain ⟨h1, h2, h3, h4, h5, h6, h7⟩ := id h
  have hgl := h7 g h4
  have hgr : some g ≠ rv.ownBlock := fun e => (h6 g e.symm).2 rfl
  have hB5 : Blk w5 g 99 #[ov, rv] := (hg.block g hgl hgr).trans h1
  have hgne : rv'.ownBlock ≠ some g := by
    rcases hat with e | e
    · rw [e]; exact fun e' => hgr e'.symm
    · rw [e]
      intro e'
      injection e' with e'
      omega
  have hnf : NF S w (w5.setCell ⟨g, 1, none⟩ rv') := (((NF.refl S w).grown hg fun x hx => .inl (h6 x hx).1)).put (.inl h4) _ _
  have ho2 : ORow (w5.setCell ⟨g, 1, none⟩ rv') 0 rv' rc' := ho.put hgne _ _
  have hov : PRow (w5.setCell ⟨g, 1, none⟩ rv') 0 ov own := h2.keep fun k hb => (Below.heap_setCell _ _ _ _ (by rintro rfl; exact (h5 _ hb).2.1 rfl)).trans (hg.block k (h7 k (h5 k hb).1) fun e => (h5 k hb).2.2 e.symm)
  have hBf : Blk (w5.setCell ⟨g, 1, none⟩ rv') g 99 #[ov, rv'] := hB5.put 1 rv'
  have hsz : w5.heap.size = (w5.setCell ⟨g, 1, none⟩ rv').heap.size := by simp
  rcases hat with e | e
  · refine ⟨S, ⟨hBf, hov, ho2, h4, fun k hk => ⟨(h5 k hk).1, (h5 k hk).2.1, by rw [e]; exact (h5 k hk).2.2⟩, fun k hk => h6 k (e ▸ hk), fun k hm => by rw [← hsz]; exact Nat.lt_of_lt_of_le (h7 k hm) hg.size⟩, hnf, fun x hx => .inl hx, fun x hx _ => hx⟩
  · refine ⟨w.heap.size :: S, ⟨hBf, hov, ho2, List.mem_cons_of_mem _ h4, fun k hk => ⟨List.mem_cons_of_mem _ (h5 k hk).1, (h5 k hk).2.1, ?_⟩, fun k hk => ?_, fun k hm => ?_⟩, hnf, fun x hx => ?_, fun x hx hl => ?_⟩
    · rw [e]
      have := h7 k (h5 k hk).1
      intro e'
      injection e' with e'
      omega
    · rw [e] at hk
      injection hk with hk
      subst hk
      exact ⟨by simp, by omega⟩
    · rw [← hsz]
      rcases List.mem_cons.1 hm with rfl | hm
      · exact (ho.lt _ e).2
      · exact Nat.lt_of_lt_of_le (h7 k hm) hg.size
    · rcases List.mem_cons.1 hx with rfl | hx
      · exact .inr (Nat.le_refl _)
      · exact .inl hx
    · intro hm
      rcases List.mem_cons.1 hm with rfl | hm
      · omega
      · exact hx hm
theorem SRd.blks {w w' : World} {A : Option Addr} {n cap size : Nat} {xs : List Value} (h : SRd w (.slice A n cap) size n xs) (hz : w.heap.size ≤ w'.heap.size) (hb : 0 < n → ∀ a, A = some a → a.block < w.heap.size → w'.heap[a.block]? = w.heap[a.block]?) : SRd w' (.slice A n cap) size n xs := by
  obtain ⟨h1, A', cap', hv, h2, h3, h4⟩ := h
  refine ⟨h1, A', cap', hv, h2, h3, fun hn => ?_⟩
  obtain ⟨b, o, hA, hlt, hc⟩ := h4 hn
  injection hv with e1 e2 e3
  refine ⟨b, o, hA, by omega, fun j u hu => ?_⟩
  rw [← hc j u hu]
  exact World.cell?_of_block (hb hn ⟨b, o, none⟩ (e1.trans hA) hlt)
/- plain: what was recorded, in a round -/
theorem recL_len (own : PairL) (login disc : Bool) : ∀ (l rc : PairL), (recL own login disc rc l).length ≤ rc.length + l.length
  | [], rc => by simp [recL]
  | p :: l, rc => by
    have ih := recL_len own login disc l (addB rc p.1 (ansP own login disc p).2)
    rw [recL, List.length_cons]
    have : (addB rc p.1 (ansP own login disc p).2).length ≤ rc.length + 1 := by
      unfold addB
      split
      · omega
      · rw [List.length_append]
        exact Nat.add_le_add (List.length_filter_le _ _) (Nat.le_refl _)
    omega
theorem saidL_len (own : PairL) (login disc : Bool) : ∀ (l : PairL), (saidL own login disc l).length ≤ l.length
  | [] => by simp [saidL]
  | p :: l => by
    have ih := saidL_len own login disc l
    show (saidP own login disc p ++ saidL own login disc l).length ≤ _
    rw [List.length_append, List.length_cons]
    have : (saidP own login disc p).length ≤ 1 := by
      unfold saidP one
      split <;> simp
    omega
theorem recL_snoc (own : PairL) (login disc : Bool) (l rc : PairL) (p : ByteArray × ByteArray) : recL own login disc rc (l ++ [p]) = addB (recL own login disc rc l) p.1 (ansP own login disc p).2 := by
  rw [recL_app]
  rfl
theorem saidL_snoc (own : PairL) (login disc : Bool) (l : PairL) (p : ByteArray × ByteArray) : saidL own login disc (l ++ [p]) = saidL own login disc l ++ one p.1 (ansP own login disc p).1 := by
  unfold saidL
  rw [List.flatMap_append]
  simp [saidP]
theorem fresh_at {own rc l : PairL} {login disc : Bool} (hk : KD l) (hf : ∀ p ∈ l, findB rc p.1 = none) {k : Nat} {p : ByteArray × ByteArray} (hp : l[k]? = some p) : findB (recL own login disc rc (l.take k)) p.1 = none := by
  rw [recL_fresh own login disc (l.take k) rc (hk.sub (List.take_sublist k l)) (fun x hx => hf x (List.mem_of_mem_take hx)), findB_app, hf p (List.mem_of_getElem? hp)]
  show findB (recN own login disc (l.take k)) p.1 = none
  rw [findB_none]
  intro q hq
  obtain ⟨x, hx, e, _⟩ := recN_mem hq
  have hpd : p ∈ l.drop k := by
    obtain ⟨h1, h2⟩ := List.getElem?_eq_some_iff.1 hp
    rw [List.drop_eq_getElem_cons h1, h2]
    simp
  rw [← List.take_append_drop k l] at hk
  have := hk.ne hx hpd
  unfold kB at this ⊢
  rw [e]
  exact this
end Go.Proofs.YtadhlnpegigadaaGreatDoor
