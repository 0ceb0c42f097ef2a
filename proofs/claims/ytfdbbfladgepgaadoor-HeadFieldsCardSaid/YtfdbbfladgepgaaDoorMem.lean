/- Rows that the call itself made, whatever mark their block bears: what append and a store make of them, for elements of any size. -/
import Derived.Test.YtfdbbfladgepgaaDoorBase
import Derived.ArgAppend
import Derived.Lib.BufferRead
namespace Go.Proofs.YtfdbbfladgepgaaDoor
set_option linter.unusedVariables false
open Go.ChangeShapes Go.WideShapes Go.ChangeAt Go.RowKit
section
variable {w w' : World} {g base size n : Nat} {t e : TypeId} {cs : Array Value} {v : Value} {xs : List Value}
theorem setCells_other (g k : Nat) (hk : k ≠ g) : ∀ (vs : List Value) (off : Nat) (w : World), (w.setCells g off vs).heap[k]? = w.heap[k]?
  | [], _, _ => rfl
  | u :: r, off, w => (setCells_other g k hk r (off + 1) _).trans (Below.heap_setCell w _ u k hk)
theorem setCells_size (g : Nat) : ∀ (vs : List Value) (off : Nat) (w : World), (w.setCells g off vs).heap.size = w.heap.size
  | [], _, _ => rfl
  | u :: r, off, w => (setCells_size g r (off + 1) _).trans (by simp [World.setCell])
theorem setCells_rest (g : Nat) : ∀ (vs : List Value) (off : Nat) (w : World), (w.setCells g off vs).os = w.os ∧ (w.setCells g off vs).tape = w.tape ∧ (w.setCells g off vs).output = w.output
  | [], _, _ => ⟨rfl, rfl, rfl⟩
  | u :: r, off, w => setCells_rest g r (off + 1) (w.setCell ⟨g, off, none⟩ u)
theorem setCells_grown (g : Nat) (vs : List Value) (off : Nat) (w : World) : w.grownBy (w.setCells g off vs) (some g) :=
  ⟨(setCells_rest g vs off w).1, (setCells_rest g vs off w).2.1, (setCells_rest g vs off w).2.2, by rw [setCells_size]; exact Nat.le_refl _,
    fun k _ hk => setCells_other g k (fun h => hk (by rw [h])) vs off w⟩
theorem BlkM.puts : ∀ (vs : List Value) (off : Nat) {w : World} {cs : Array Value}, BlkM w g t cs → off + vs.length ≤ cs.size →
    BlkM (w.setCells g off vs) g t (cs.toList.take off ++ vs ++ cs.toList.drop (off + vs.length)).toArray
  | [], off, w, cs, h, _ => by
    simp only [List.append_nil, List.length_nil, Nat.add_zero, List.take_append_drop]
    exact h
  | u :: r, off, w, cs, h, hl => by
    have hl' : off + (r.length + 1) ≤ cs.size := hl
    have h1 := BlkM.puts r (off + 1) (h.put off u) (by rw [Array.size_setIfInBounds]; omega)
    have e : ((cs.setIfInBounds off u).toList.take (off + 1) ++ r ++ (cs.setIfInBounds off u).toList.drop (off + 1 + r.length)) = (cs.toList.take off ++ (u :: r) ++ cs.toList.drop (off + (u :: r).length)) := by
      rw [Array.toList_setIfInBounds, List.take_set, List.drop_set_of_lt (by omega)]
      have h2 : off < cs.toList.length := by simp; omega
      rw [List.take_succ_eq_append_getElem h2, List.set_append_right _ _ (by simp; omega)]
      have h3 : off - (cs.toList.take off).length = 0 := by simp; omega
      rw [h3]
      simp only [List.set_cons_zero, List.append_assoc, List.cons_append, List.nil_append, List.length_cons]
      congr 4
      omega
    rw [e] at h1
    exact h1
def MRow (w : World) (base : Nat) (e : TypeId) (size : Nat) (v : Value) (n : Nat) (xs : List Value) : Prop :=
  xs.length = n * size ∧ ((v = .slice none 0 0 ∧ n = 0) ∨
    ∃ g cap cur, v = .slice (some ⟨g, 0, none⟩) n cap ∧ base ≤ g ∧ BlkM w g e cur ∧ n ≤ cap ∧ cap ≤ maxLen ∧ cur.size = cap * size ∧ cur.toList.take (n * size) = xs)
theorem MRow.nil (w : World) (base : Nat) (e : TypeId) (size : Nat) : MRow w base e size (.slice none 0 0) 0 [] := ⟨by simp, .inl ⟨rfl, rfl⟩⟩
theorem MRow.of_own (h : w.ownsRow base e size v n xs) : MRow w base e size v n xs := by
  refine ⟨h.1, ?_⟩
  rcases h.2 with h | ⟨g, cap, cur, h1, h2, h3, h4⟩
  · exact .inl h
  · exact .inr ⟨g, cap, cur, h1, h2, BlkM.of_blk h3, h4⟩
theorem MRow.keep (h : MRow w base e size v n xs) (hk : ∀ g, v.ownBlock = some g → w'.heap[g]? = w.heap[g]?) : MRow w' base e size v n xs := by
  refine ⟨h.1, ?_⟩
  rcases h.2 with h | ⟨g, cap, cur, rfl, h2, h3, h4⟩
  · exact .inl h
  · exact .inr ⟨g, cap, cur, rfl, h2, h3.block (hk g rfl), h4⟩
theorem MRow.lt (h : MRow w base e size v n xs) : ∀ g, v.ownBlock = some g → base ≤ g ∧ g < w.heap.size := by
  intro k hk
  rcases h.2 with ⟨rfl, _⟩ | ⟨g, cap, cur, rfl, h2, h3, h4⟩
  · simp [Value.ownBlock] at hk
  · have : g = k := by simpa [Value.ownBlock] using hk
    subst this
    exact ⟨h2, h3.lt⟩
theorem MRow.below {B : Nat} (h : MRow w base e size v n xs) (hb : Below B w w') (hB : w.heap.size ≤ B) : MRow w' base e size v n xs :=
  h.keep fun g hg => hb.block g (Nat.lt_of_lt_of_le (h.lt g hg).2 hB)
theorem MRow.alloc (h : MRow w base e size v n xs) (o : Obj) : MRow (w.alloc o) base e size v n xs :=
  h.keep fun g hg => Below.heap_alloc w o g (h.lt g hg).2
theorem MRow.drew (h : MRow w base e size v n xs) : MRow w.drew base e size v n xs := h
theorem MRow.drewN (h : MRow w base e size v n xs) (k : Nat) : MRow (w.drewN k) base e size v n xs := h
theorem MRow.kept {row : Option Nat} (h : MRow w base e size v n xs) (hg : w.grownBy w' row) (hne : v.ownBlock = none ∨ v.ownBlock ≠ row) : MRow w' base e size v n xs :=
  h.keep fun g hg' => hg.block g (h.lt g hg').2 (by rw [hg'] at hne; rcases hne with hne | hne; · cases hne
                                                    · exact hne)
theorem MRow.more {base' : Nat} (h : MRow w base e size v n xs) (hB : base' ≤ base) : MRow w base' e size v n xs := by
  refine ⟨h.1, ?_⟩
  rcases h.2 with h | ⟨g, cap, cur, h1, h2, h3, h4⟩
  · exact .inl h
  · exact .inr ⟨g, cap, cur, h1, Nat.le_trans hB h2, h3, h4⟩
/- What it is: an address (none for nil), n, and a capacity; its cells. -/
theorem MRow.form (h : MRow w base e size v n xs) : ∃ A cap, v = .slice A n cap ∧ n ≤ cap ∧ cap ≤ maxLen ∧
    ∀ a, A = some a → a.off = 0 ∧ a.spot = none ∧ base ≤ a.block ∧ a.block < w.heap.size ∧ (∀ j u, xs[j]? = some u → w.cell? (a.add j) = some u) := by
  rcases h.2 with ⟨rfl, rfl⟩ | ⟨g, cap, cur, rfl, h2, h3, h4, h5, h6, h7⟩
  · exact ⟨none, 0, rfl, Nat.le_refl _, by unfold maxLen; omega, by intro a h; cases h⟩
  · refine ⟨_, cap, rfl, h4, h5, ?_⟩
    intro a ha
    cases ha
    refine ⟨rfl, rfl, h2, h3.lt, fun j u hu => ?_⟩
    have hadd : (⟨g, 0, none⟩ : Addr).add j = ⟨g, j, none⟩ := by unfold Addr.add; split <;> simp_all
    rw [hadd, h3.cell j]
    subst h7
    have hj : j < n * size := by
      have := (List.getElem?_eq_some_iff.1 hu).1
      simp at this; omega
    rw [List.getElem?_take_of_lt hj] at hu
    rw [← Array.getElem?_toList]; exact hu
theorem MRow.cellAt {cap : Nat} (h : MRow w base e size (.slice (some ⟨g, 0, none⟩) n cap) n xs) (j : Nat) (u : Value) (hu : xs[j]? = some u) : w.cell? ⟨g, j, none⟩ = some u := by
  obtain ⟨A, c, hv, _, _, hc⟩ := h.form
  injection hv with h1 _ _
  have := (hc _ h1.symm).2.2.2.2 j u hu
  have hadd : (⟨g, 0, none⟩ : Addr).add j = ⟨g, j, none⟩ := by unfold Addr.add; split <;> simp_all
  rwa [hadd] at this
theorem MRow.frozenAt {cap : Nat} (h : MRow w base e size (.slice (some ⟨g, 0, none⟩) n cap) n xs) (j : Nat) (hj : j < n * size) : w.frozen? ⟨g, j, none⟩ = false := by
  rcases h.2 with ⟨hv, _⟩ | ⟨g', cap', cur, hv, h2, h3, h4, h5, h6, h7⟩
  · cases hv
  · injection hv with h1 _ _
    injection h1 with h1
    injection h1 with h1
    subst h1
    exact h3.frozen j (by rw [h6]; exact Nat.lt_of_lt_of_le hj (Nat.mul_le_mul_right _ h4))
theorem MRow.stored {cap : Nat} (h : MRow w base e size (.slice (some ⟨g, 0, none⟩) n cap) n xs) (j : Nat) (u : Value) :
    MRow (w.setCell ⟨g, j, none⟩ u) base e size (.slice (some ⟨g, 0, none⟩) n cap) n (xs.set j u) := by
  rcases h.2 with ⟨hv, _⟩ | ⟨g', cap', cur, hv, h2, h3, h4, h5, h6, h7⟩
  · cases hv
  · injection hv with h1 _ h1c
    injection h1 with h1
    injection h1 with h1
    subst h1; subst h1c
    refine ⟨by rw [List.length_set]; exact h.1, .inr ⟨g, cap, _, rfl, h2, h3.put j u, h4, h5, by simpa using h6, ?_⟩⟩
    rw [Array.toList_setIfInBounds, List.take_set, h7]
end
theorem run_append_m {P : Program} (w : World) (base : Nat) (t ty e : TypeId) (i : TypeInfo) (z : Value) (size bytes : Nat) (ht : P.underlying t = some (.slice e)) (hi : P.info? e = some i) (hz : i.zero = some z)
    (hsize : i.size = size) (hby : i.bytes = bytes) (hzs : z.cells.size = size) (hsz : 0 < size)
    (v : Value) (n : Nat) (xs : List Value) (hown : MRow w base e size v n xs)
    (ad : Addr) (m c : Nat) (news : List Value) (hl : news.length = m * size) (hnews : ∀ j u, news[j]? = some u → w.cell? (ad.add j) = some u) (h1 : ∀ u ∈ news, u.oneCell' = true)
    (h63 : n + m ≤ maxLen) (hbytes : (n + m) * bytes ≤ 140737488355328) (hbase : base ≤ w.heap.size) :
    ∃ v' w', (Builtin.append_ #[t, t] ty #[v, .slice (some ad) m c]).run P w = .ok v' w' ∧ MRow w' base e size v' (n + m) (xs ++ news) ∧ w.grownBy w' v.ownBlock ∧ (v' = .slice none 0 0 → m = 0) := by
  rcases hown.2 with ⟨hv, hn⟩ | ⟨g, cap, cur, hv, h2, h3, h4, h5, h6, h7⟩
  · subst hn
    have hx0 : xs = [] := List.eq_nil_of_length_eq_zero (by simpa using hown.1)
    subst hx0
    obtain ⟨v', w', r0, r1, r2, r3⟩ := run_append_own (P := P) w base t ty e i z size bytes ht hi hz hsize hby hzs hsz v 0 [] (by rw [hv]; exact World.ownsRow_nil w base e size) ad m c news hl hnews h1 h63 hbytes hbase
    exact ⟨v', w', r0, MRow.of_own r1, r2, fun e => (r3.1 e).2⟩
  · by_cases hr : n + m ≤ cap
    · subst hsize
      have hlt : ∀ j, j < news.length → n * i.size + j < cur.size := by
        intro j hj
        rw [h6]
        have : (n + m) * i.size ≤ cap * i.size := Nat.mul_le_mul_right _ hr
        rw [Nat.add_mul] at this
        omega
      have hrun := run_append_room_cells (P := P) w t ty e i ht hi g 0 n cap ad m c news hl hnews h1 hr
        (fun j hj => by rw [Nat.zero_add, h3.cell, Array.getElem?_eq_getElem (hlt j hj)]; rfl)
        (fun j hj => by rw [Nat.zero_add]; exact h3.frozen _ (hlt j hj))
      rw [Nat.zero_add] at hrun
      have hfit : n * i.size + news.length ≤ cur.size := by rw [hl, h6, ← Nat.add_mul]; exact Nat.mul_le_mul_right _ hr
      have hp := h3.puts news (n * i.size) hfit
      rw [hv]
      refine ⟨_, _, hrun, ⟨by rw [List.length_append, hown.1, hl, Nat.add_mul], .inr ⟨g, cap, _, rfl, h2, hp, hr, h5, ?_, ?_⟩⟩, setCells_grown g news (n * i.size) w, by intro e; cases e⟩
      · simp only [List.size_toArray, List.length_append, List.length_take, List.length_drop, Array.length_toList]; omega
      · rw [h7]
        show List.take _ (xs ++ news ++ _) = _
        exact List.take_left' (by rw [List.length_append, hown.1, hl, Nat.add_mul])
    · have holds : ∀ j u, xs[j]? = some u → w.cell? ((⟨g, 0, none⟩ : Addr).add j) = some u := by
        intro j u hu
        rw [Addr.add_lit, Nat.zero_add]
        rw [hv] at hown
        exact hown.cellAt j u hu
      obtain ⟨v', w', r0, r1, r2⟩ := run_append_arg_grows (P := P) w t ty e i z size bytes ht hi hz hsize hby hzs hsz ⟨g, 0, none⟩ n cap xs hown.1 holds ad m c news hl hnews (by omega) h63 hbytes
      rw [hv]
      refine ⟨v', w', r0, (MRow.of_own r1).more hbase, ⟨r2.os, r2.tape, r2.output, r2.size, fun k hk _ => r2.block k hk (by simp)⟩, ?_⟩
      intro e
      rcases r1.2 with ⟨_, hz⟩ | ⟨_, _, _, hv', _⟩
      · omega
      · rw [e] at hv'; cases hv'
theorem wp_append_m {P : Program} (w : World) {o : Oper} {a : Act} {K : Act → World → Prop} {Q : Exit → Act → World → Prop} (s x : Operand) (t : TypeId)
    (ho : o.op = .call { callee := .builtin .append, args := #[s, x], argTypes := #[t, t] })
    (base : Nat) (e : TypeId) (i : TypeInfo) (z : Value) (size bytes : Nat) (ht : P.underlying t = some (.slice e)) (hi : P.info? e = some i) (hz : i.zero = some z)
    (hsize : i.size = size) (hby : i.bytes = bytes) (hzs : z.cells.size = size) (hsz : 0 < size)
    (v : Value) (n : Nat) (xs : List Value) (hs : a.eval s = v) (hown : MRow w base e size v n xs)
    (ad : Addr) (m c : Nat) (news : List Value) (hx : a.eval x = .slice (some ad) m c) (hl : news.length = m * size) (hnews : ∀ j u, news[j]? = some u → w.cell? (ad.add j) = some u) (h1 : ∀ u ∈ news, u.oneCell' = true)
    (h63 : n + m ≤ maxLen) (hbytes : (n + m) * bytes ≤ 140737488355328) (hbase : base ≤ w.heap.size)
    (h : ∀ v' w', MRow w' base e size v' (n + m) (xs ++ news) → w.grownBy w' v.ownBlock → (v' = .slice none 0 0 → m = 0) → K (a.put o.dst v') w') : o.wp P a w K Q := by
  obtain ⟨v', w', hr, h2, h3, h4⟩ := run_append_m (P := P) w base t o.type e i z size bytes ht hi hz hsize hby hzs hsz v n xs hown ad m c news hl hnews h1 h63 hbytes hbase
  unfold Oper.wp execOp
  simp only [ho, resolve, invoke, builtin, Sem.run_bind, Sem.run_pure, Result.andThen_ok, List.map_toArray, List.map_cons, List.map_nil, hs, hx, hr]
  exact h v' w' h2 h3 h4
/- Rows of bytes. -/
def BRow (w : World) (base : Nat) (v : Value) (l : List UInt8) : Prop := MRow w base 5 1 v l.length (l.map byteV)
theorem BRow.string {w : World} {base : Nat} {v : Value} {l : List UInt8} (h : BRow w base v l) : (convert 50 9 v).run Tryd.prog w = .ok (.string ⟨l.toArray⟩) w := by
  rcases h.2 with ⟨rfl, hn⟩ | ⟨g, cap, cur, rfl, h2, h3, h4, h5, h6, h7⟩
  · have : l = [] := List.eq_nil_of_length_eq_zero hn
    subst this
    exact Lib.run_convert_nil_bytes w _ _ _ _ Tryd.underlying50 Tryd.underlying5 Tryd.underlying9
  · rw [Nat.mul_one] at h7
    have e : cur = (l.map byteV ++ cur.toList.drop l.length).toArray := by
      apply Array.toList_inj.1
      show cur.toList = l.map byteV ++ cur.toList.drop l.length
      rw [← h7, List.take_append_drop]
    rw [e] at h3
    exact blkM_string h3
theorem wp_append_bytes (w : World) {o : Oper} {a : Act} {K : Act → World → Prop} {Q : Exit → Act → World → Prop} (s x : Operand)
    (ho : o.op = .call { callee := .builtin .append, args := #[s, x], argTypes := #[50, 50] })
    (base : Nat) (v : Value) (l : List UInt8) (hs : a.eval s = v) (hown : BRow w base v l)
    (ad : Addr) (m : List UInt8) (k c : Nat) (hx : a.eval x = .slice (some ad) k c) (hk : k = m.length) (hnews : ∀ j u, (m.map byteV)[j]? = some u → w.cell? (ad.add j) = some u)
    (hlen : l.length + m.length ≤ 140737488355328) (hbase : base ≤ w.heap.size) {w0 : World} (hbel : Below base w0 w)
    (h : ∀ v' w', BRow w' base v' (l ++ m) → Below base w0 w' → w.grownBy w' v.ownBlock → K (a.put o.dst v') w') : o.wp Tryd.prog a w K Q := by
  obtain ⟨i0, hi, hz0, hz1, hz2⟩ := info_parts infoU8
  subst hk
  refine wp_append_m w s x _ ho base 5 i0 (.int .u8 0) 1 1 Tryd.underlying50 hi hz0 hz1 hz2 rfl (by decide) v l.length _ hs hown ad m.length c (m.map byteV) hx (by simp) hnews ?_ (by unfold maxLen; omega) (by omega) hbase ?_
  · intro u hu
    obtain ⟨b, _, rfl⟩ := List.mem_map.1 hu
    rfl
  · intro v' w' r1 r2 _
    refine h v' w' ?_ (hbel.grown r2 hbase fun k hk => (hown.lt k hk).1) r2
    unfold BRow
    rw [List.length_append, List.map_append]
    exact r1
theorem wpList_append_bytes (w : World) {ops : Array Oper} {rest : List Oper} {o : Oper} {a : Act} {Q : Exit → Act → World → Prop} (hgd : o.guard = none) (s x : Operand)
    (ho : o.op = .call { callee := .builtin .append, args := #[s, x], argTypes := #[50, 50] })
    (base : Nat) (v : Value) (l : List UInt8) (hs : a.eval s = v) (hown : BRow w base v l)
    (ad : Addr) (m : List UInt8) (k c : Nat) (hx : a.eval x = .slice (some ad) k c) (hk : k = m.length) (hnews : ∀ j u, (m.map byteV)[j]? = some u → w.cell? (ad.add j) = some u)
    (hlen : l.length + m.length ≤ 140737488355328) (hbase : base ≤ w.heap.size) {w0 : World} (hbel : Below base w0 w)
    (h : ∀ v' w', BRow w' base v' (l ++ m) → Below base w0 w' → w.grownBy w' v.ownBlock → wpList Tryd.prog ops Q rest (a.put o.dst v') w') : wpList Tryd.prog ops Q (o :: rest) a w :=
  wpList_plain hgd fun _ hK => wp_append_bytes w s x ho base v l hs hown ad m k c hx hk hnews hlen hbase hbel fun v' w' h2 h3 h4 => hK _ _ (h v' w' h2 h3 h4)
theorem step_append_bytes (w : World) {ops : Array Oper} {o : Oper} {a : Act} {K : Act → World → Prop} {Q : Exit → Act → World → Prop} {E : Prop} (hgd : o.guard = none) (s x : Operand)
    (ho : o.op = .call { callee := .builtin .append, args := #[s, x], argTypes := #[50, 50] })
    (base : Nat) (v : Value) (l : List UInt8) (hs : a.eval s = v) (hown : BRow w base v l)
    (ad : Addr) (m : List UInt8) (k c : Nat) (hx : a.eval x = .slice (some ad) k c) (hk : k = m.length) (hnews : ∀ j u, (m.map byteV)[j]? = some u → w.cell? (ad.add j) = some u)
    (hlen : l.length + m.length ≤ 140737488355328) (hbase : base ≤ w.heap.size) {w0 : World} (hbel : Below base w0 w)
    (h : ∀ v' w', BRow w' base v' (l ++ m) → Below base w0 w' → w.grownBy w' v.ownBlock → K (a.put o.dst v') w') : if Region.wanted o (yielded ops a.tmps) = true then Oper.wp Tryd.prog o a w K Q else E := by
  rw [if_pos (by simp [Region.wanted, hgd])]
  exact wp_append_bytes w s x ho base v l hs hown ad m k c hx hk hnews hlen hbase hbel h
/- The cells of a literal that was just laid. -/
theorem lit_cells (w : World) (cs : Array Value) (t : TypeId) (m : List UInt8) (h : cs = (m.map byteV).toArray) : ∀ j u, (m.map byteV)[j]? = some u → (w.alloc (.cells cs t)).cell? ((⟨w.heap.size, 0, none⟩ : Addr).add j) = some u := by
  intro j u hu
  subst h
  rw [Addr.add_lit, Nat.zero_add, (Blk.new w t _).cell j, List.getElem?_toArray]
  exact hu
section
variable {w w' : World} {base : Nat} {v : Value} {l : List UInt8}
theorem BRow.alloc (h : BRow w base v l) (o : Obj) : BRow (w.alloc o) base v l := MRow.alloc h o
theorem BRow.drew (h : BRow w base v l) : BRow w.drew base v l := h
theorem BRow.drewN (h : BRow w base v l) (k : Nat) : BRow (w.drewN k) base v l := h
theorem BRow.below {B : Nat} (h : BRow w base v l) (hb : Below B w w') (hB : w.heap.size ≤ B) : BRow w' base v l := MRow.below h hb hB
theorem BRow.below_grown {a : World} (hr : BRow w base v l) (h : Below base a w) (hB : base ≤ w.heap.size) (hg : w.grownBy w' v.ownBlock) : Below base a w' :=
  h.grown hg hB fun k hk => (MRow.lt hr k hk).1
end
def sliceLen : Value → Nat | .slice _ n _ => n | _ => 0
theorem BRow.len {w : World} {base : Nat} {v : Value} {l : List UInt8} (h : BRow w base v l) : sliceLen v = l.length := by
  obtain ⟨A, cp, rfl, _⟩ := MRow.form h
  rfl
theorem BRow.nil (w : World) (base : Nat) : BRow w base (.slice none 0 0) [] := MRow.nil w base _ _
/- '[]byte(s)' as a row of the call's own. -/
theorem bytes_brow (w : World) (s : ByteArray) (hs : s.size ≤ maxLen) : ∃ (cap : Nat) (C : Array Value) (fr : Nat × Nat),
    (convert 9 50 (.string s)).run Tryd.prog w = .ok (.slice (some ⟨w.heap.size, 0, none⟩) s.size cap) (w.drew.alloc (.cells C 5 fr)) ∧
    BRow (w.alloc (.cells C 5 fr)).drew w.heap.size (.slice (some ⟨w.heap.size, 0, none⟩) s.size cap) s.data.toList ∧ Below w.heap.size w (w.alloc (.cells C 5 fr)).drew := by
  have hrun := run_bytes_of_string (P := Tryd.prog) w _ _ _ s Tryd.underlying9 Tryd.underlying50 Tryd.underlying5
  refine ⟨_, _, _, hrun, ?_, ((Below.refl _ _).alloc (Nat.le_refl _) _).drew⟩
  have h1 : BlkM (w.alloc (.cells (bytesRow s (grownCap w s.size 0 5)) 5 ((bytesRow s (grownCap w s.size 0 5)).size, (bytesRow s (grownCap w s.size 0 5)).size + 1))).drew w.heap.size 5 (bytesRow s (grownCap w s.size 0 5)) := BlkM.new w _ _ _ _ (Nat.le_refl _)
  have hge := grownCap_ge w s.size 0 5
  refine ⟨by simp, .inr ⟨w.heap.size, _, _, by rw [len_of], Nat.le_refl _, h1, by rw [len_of]; exact hge, grownCap_le_maxLen w _ _ _ hs, ?_, ?_⟩⟩
  · simp [bytesRow]; have := len_of s; simp at this; omega
  · have e : (bytesRow s (grownCap w s.size 0 5)).toList = s.data.toList.map byteV ++ List.replicate (grownCap w s.size 0 5 - s.size) (.int .u8 0) := by simp [bytesRow, byteV]
    rw [e]
    exact List.take_left' (by simp)
theorem below_grown {B : Nat} {a w w' : World} {v : Value} {e : TypeId} {size n : Nat} {xs : List Value} (h : Below B a w) (hr : MRow w B e size v n xs) (hB : B ≤ w.heap.size) (hg : w.grownBy w' v.ownBlock) : Below B a w' :=
  h.grown hg hB fun k hk => (hr.lt k hk).1
/- A slice that reads as a list of cells: whoever's memory it is. -/
def SRd (w : World) (v : Value) (size n : Nat) (xs : List Value) : Prop :=
  xs.length = n * size ∧ ∃ A cap, v = .slice A n cap ∧ n ≤ cap ∧ cap ≤ maxLen ∧
    (0 < n → ∃ b o, A = some ⟨b, o, none⟩ ∧ b < w.heap.size ∧ ∀ j u, xs[j]? = some u → w.cell? ⟨b, o + j, none⟩ = some u)
section
variable {w w' : World} {v : Value} {size n : Nat} {xs : List Value}
theorem SRd.of_m {base : Nat} {e : TypeId} (h : MRow w base e size v n xs) : SRd w v size n xs := by
  obtain ⟨A, cap, hv, h1, h2, h3⟩ := h.form
  refine ⟨h.1, A, cap, hv, h1, h2, fun hn => ?_⟩
  rcases h.2 with ⟨_, hz⟩ | ⟨g, cap', cur, hv', _⟩
  · omega
  · rw [hv] at hv'
    injection hv' with ha _ _
    subst ha
    have := h3 _ rfl
    refine ⟨g, 0, rfl, this.2.2.2.1, fun j u hu => ?_⟩
    have := this.2.2.2.2 j u hu
    rwa [Addr.add_lit] at this
theorem SRd.keep (h : SRd w v size n xs) (hs : w.heap.size ≤ w'.heap.size) (hk : ∀ b o, b < w.heap.size → w'.cell? ⟨b, o, none⟩ = w.cell? ⟨b, o, none⟩) : SRd w' v size n xs := by
  obtain ⟨h1, A, cap, hv, h2, h3, h4⟩ := h
  refine ⟨h1, A, cap, hv, h2, h3, fun hn => ?_⟩
  obtain ⟨b, o, hA, hb, hc⟩ := h4 hn
  exact ⟨b, o, hA, by omega, fun j u hu => (hk _ _ hb).trans (hc j u hu)⟩
theorem SRd.below {B : Nat} (h : SRd w v size n xs) (hb : Below B w w') (hB : w.heap.size ≤ B) : SRd w' v size n xs :=
  h.keep hb.size fun b o hlt => hb.cell (p := ⟨b, o, none⟩) (Nat.lt_of_lt_of_le hlt hB)
theorem SRd.on (h : SRd w v size n xs) (hb : Below w.heap.size w w') : SRd w' v size n xs := h.below hb (Nat.le_refl _)
theorem SRd.two {k : Nat} (h : SRd w v 2 n xs) (hk : k < n) : ∃ b o cap u0 u1, v = .slice (some ⟨b, o, none⟩) n cap ∧ b < w.heap.size ∧ xs[2 * k]? = some u0 ∧ xs[2 * k + 1]? = some u1 ∧
    w.cell? ⟨b, o + k * 2, none⟩ = some u0 ∧ w.cell? ⟨b, o + k * 2 + 1, none⟩ = some u1 := by
  obtain ⟨h1, A, cap, hv, h2, h3, h4⟩ := h
  obtain ⟨b, o, rfl, hb, hc⟩ := h4 (by omega)
  have e0 := List.getElem?_eq_getElem (l := xs) (i := 2 * k) (by omega)
  have e1 := List.getElem?_eq_getElem (l := xs) (i := 2 * k + 1) (by omega)
  refine ⟨b, o, cap, _, _, hv, hb, e0, e1, ?_, ?_⟩
  · rw [Nat.mul_comm]; exact hc _ _ e0
  · rw [Nat.mul_comm, Nat.add_assoc]; exact hc _ _ e1
end
end Go.Proofs.YtfdbbfladgepgaaDoor
