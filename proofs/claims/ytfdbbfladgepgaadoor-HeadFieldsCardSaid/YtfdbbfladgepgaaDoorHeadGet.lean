/- The contracts of head.Name, head.Flags. -/
import Derived.Test.YtfdbbfladgepgaaDoorHeadRow
import Derived.Test.YtfdbbfladgepgaaDoorHeadFmt
import Derived.Lib.SliceRun
namespace Go.Proofs.YtfdbbfladgepgaaDoor
open Go.ChangeShapes Go.WideShapes Go.ChangeAt Go.RowKit Go.Shelf
set_option linter.unusedVariables false
def nameV : Option HeadR → Value
  | none => .tuple #[.string ⟨#[]⟩, errv 1]
  | some r => .tuple #[.string ⟨r.2.1.toArray⟩, .nilIface]
def flagsV : Option HeadR → Value
  | none => .tuple #[.int .i64 0, errv 1]
  | some r => .tuple #[.int .i64 r.2.2.1, .nilIface]
theorem headRow_mem {op : Int} {r : HeadR} (h : headRow op = some r) : r ∈ headT := List.mem_of_find?_eq_some h
theorem headRow_op {op : Int} {r : HeadR} (h : headRow op = some r) : (r.1 : Int) = op := by
  have := List.find?_some h
  simpa using this
theorem mask_atoi : ∀ r ∈ headT, Lib.atoi (dg3 r.2.2.1) = some (r.2.2.1 : Int) ∧ (dg3 r.2.2.1).length ≤ 18 := by decide +kernel
theorem atoi_to (s : ByteArray) (l : List UInt8) (n : Int) (hs : s = ⟨l.toArray⟩) (hl : l.length ≤ 18) (h : Lib.atoi l = some n) (w : World) : Calls Tryd.prog 13 #[.string s] w fun e w' => e = .returned (.tuple #[.int .i64 n, .nilIface]) ∧ Below w.heap.size w w' := by
  subst hs
  refine (Tryd.strconv_Atoi ⟨l.toArray⟩ n hl h w).mono ?_
  rintro e w' ⟨rfl, t, rfl⟩
  exact ⟨rfl, ⟨rfl, rfl, rfl, by rw [Lib.bytesWorld_size]; omega, fun j hj => Lib.bytesWorld_at_old w _ _ j hj⟩⟩
set_option maxRecDepth 20000 in
theorem name_any (op : Int) (w : World) (h0 : -9223372036854775808 ≤ op ∧ op ≤ 9223372036854775807) (T : Tabs w) : Calls Tryd.prog 6 #[.int .i64 op] w fun e w' => e = .returned (nameV (headRow op)) ∧ Below w.heap.size w w' := by
  go_enter Tryd.func6, Tryd.ntmps6
  go_wp2_with fail
  refine (row_any op _ h0 T).mono ?_
  rintro e w1 ⟨v, rfl, hv, hb1⟩
  have heq := fun (w : World) (a : Option Addr) (n c : Nat) => Lib.run_eql_slice_nil (P := Tryd.prog) w 43 9 a n c 0 0 Tryd.underlying43
  rcases hr : headRow op with _ | r
  · rw [hr] at hv
    obtain rfl : v = .slice none 0 0 := hv
    have HR := Lib.hid hr
    clear hr
    go_wp2_with fail
    go_ret2
    exact ⟨by rw [HR.out]; rfl, hb1⟩
  · rw [hr] at hv
    obtain ⟨G, rfl, hB⟩ := hv
    have c1 : w1.cell? ⟨G, 1, none⟩ = some (.string ⟨r.2.1.toArray⟩) := hB.cell 1
    have hlen : 1 < (rowWords r).length := by simp [rowWords]
    have HR := Lib.hid hr
    clear hr hB
    go_wp2_with fail
    go_ret2
    exact ⟨by rw [HR.out]; rfl, hb1⟩
set_option maxRecDepth 20000 in
theorem flags_any (op : Int) (w : World) (h0 : -9223372036854775808 ≤ op ∧ op ≤ 9223372036854775807) (T : Tabs w) : Calls Tryd.prog 24 #[.int .i64 op] w fun e w' => e = .returned (flagsV (headRow op)) ∧ Below w.heap.size w w' := by
  go_enter Tryd.func24, Tryd.ntmps24
  go_wp2_with fail
  refine (row_any op _ h0 T).mono ?_
  rintro e w1 ⟨v, rfl, hv, hb1⟩
  have heq := fun (w : World) (a : Option Addr) (n c : Nat) => Lib.run_eql_slice_nil (P := Tryd.prog) w 43 9 a n c 0 0 Tryd.underlying43
  rcases hr : headRow op with _ | r
  · rw [hr] at hv
    obtain rfl : v = .slice none 0 0 := hv
    have HR := Lib.hid hr
    clear hr
    go_wp2_with fail
    go_ret2
    exact ⟨by rw [HR.out]; rfl, hb1⟩
  · have hm := mask_atoi r (headRow_mem hr)
    rw [hr] at hv
    obtain ⟨G, rfl, hB⟩ := hv
    have c1 : w1.cell? ⟨G, 2, none⟩ = some (.string ⟨(dg3 r.2.2.1).toArray⟩) := hB.cell 2
    have hlen : 2 < (rowWords r).length := by simp [rowWords]
    have HM := Lib.hid hm
    have HR := Lib.hid hr
    clear hr hB hm
    go_wp2_with fail
    refine (atoi_to _ _ _ rfl HM.out.2 HM.out.1 _).mono ?_
    rintro e w2 ⟨rfl, hb2⟩
    go_wp2_with fail
    go_ret2
    exact ⟨by rw [HR.out]; rfl, below_step hb1 hb2⟩
theorem fields_tab : ∀ r ∈ headT, ∀ f ∈ r.2.2.2, Lib.countB ⟨(fieldW f).toArray⟩ ⟨#[58]⟩ = 2 ∧ Lib.splitB ⟨#[58]⟩ 0 2 ⟨(fieldW f).toArray⟩ = [⟨f.1.toArray⟩, ⟨(dg3 f.2.1).toArray⟩, ⟨(dg3 f.2.2).toArray⟩] ∧ (fieldW f).length < 100 := by decide +kernel
theorem fields_num : ∀ r ∈ headT, ∀ f ∈ r.2.2.2, (Lib.atoi (dg3 f.2.1) = some (f.2.1 : Int) ∧ (dg3 f.2.1).length ≤ 18) ∧ (Lib.atoi (dg3 f.2.2) = some (f.2.2 : Int) ∧ (dg3 f.2.2).length ≤ 18) := by decide +kernel
theorem split_at (r : HeadR) (hr : r ∈ headT) (f : List UInt8 × Nat × Nat) (hf : f ∈ r.2.2.2) (w : World) (hS : w.ShapedOpen Tryd.prog) : Calls Tryd.prog 12 #[.string ⟨(fieldW f).toArray⟩, .string ⟨#[58]⟩] w fun e w' =>
    e = .returned (.slice (some ⟨w.heap.size, 0, none⟩) 3 3) ∧ w' = w.alloc (.cells #[.string ⟨f.1.toArray⟩, .string ⟨(dg3 f.2.1).toArray⟩, .string ⟨(dg3 f.2.2).toArray⟩] 9) := by
  obtain ⟨h1, h2, h3⟩ := fields_tab r hr f hf
  have h := Tryd.strings_Split_shaped ⟨(fieldW f).toArray⟩ ⟨#[58]⟩ w hS (by rw [size_mkl]; omega) (by decide)
  rw [h1, h2] at h
  exact h
theorem infoField : (Tryd.prog.info? 33).map (fun i => (i.zero, i.size, i.bytes)) = some (some (.agg #[.string ⟨#[]⟩, .int .i64 0, .int .i64 0]), 3, 32) := by kernel_rfl
def fCells (l : FieldL) : List Value := l.flatMap fun f => [.string ⟨f.1.toArray⟩, .int .i64 f.2.1, .int .i64 f.2.2]
theorem fCells_len (l : FieldL) : (fCells l).length = 3 * l.length := by
  induction l with
  | nil => rfl
  | cons f l ih => rw [show fCells (f :: l) = [.string ⟨f.1.toArray⟩, .int .i64 f.2.1, .int .i64 f.2.2] ++ fCells l from rfl, List.length_append, ih, List.length_cons]; simp; omega
theorem fCells_snoc (l : FieldL) (f : List UInt8 × Nat × Nat) : fCells (l ++ [f]) = fCells l ++ [.string ⟨f.1.toArray⟩, .int .i64 f.2.1, .int .i64 f.2.2] := by simp [fCells]
theorem fCells_at (l : FieldL) (k : Nat) (f : List UInt8 × Nat × Nat) (h : l[k]? = some f) : (fCells l)[3 * k]? = some (.string ⟨f.1.toArray⟩) ∧ (fCells l)[3 * k + 1]? = some (.int .i64 f.2.1) ∧ (fCells l)[3 * k + 2]? = some (.int .i64 f.2.2) := by
  induction l generalizing k with
  | nil => simp at h
  | cons g l ih =>
    rw [show fCells (g :: l) = [.string ⟨g.1.toArray⟩, .int .i64 g.2.1, .int .i64 g.2.2] ++ fCells l from rfl]
    rcases k with _ | k
    · simp only [List.getElem?_cons_zero, Option.some.injEq] at h
      subst h
      exact ⟨rfl, rfl, rfl⟩
    · have := ih k (by simpa using h)
      rw [show 3 * (k + 1) = 3 + 3 * k by omega, show 3 + 3 * k + 1 = 3 + (3 * k + 1) by omega, show 3 + 3 * k + 2 = 3 + (3 * k + 2) by omega]
      refine ⟨?_, ?_, ?_⟩
      · rw [List.getElem?_append_right (by simp)]; simpa using this.1
      · rw [List.getElem?_append_right (by simp)]; simpa using this.2.1
      · rw [List.getElem?_append_right (by simp)]; simpa using this.2.2
def FRow (w : World) (base : Nat) (v : Value) (l : FieldL) : Prop := MRow w base 33 3 v l.length (fCells l)
theorem fcell (w : World) (t : TypeId) (a b c : Value) (j : Nat) : (w.alloc (.cells #[a, b, c] t)).cell? ((⟨w.heap.size, 0, none⟩ : Addr).add j) = (#[a, b, c] : Array Value)[j]? := by
  rw [Addr.add_lit, Nat.zero_add]
  exact (Blk.new w t #[a, b, c]).cell j
theorem wpList_append_field (w : World) {ops : Array Oper} {rest : List Oper} {o : Oper} {a : Act} {Q : Exit → Act → World → Prop} (hgd : o.guard = none) (s x : Operand)
    (ho : o.op = .call { callee := .builtin .append, args := #[s, x], argTypes := #[23, 23] })
    (base : Nat) (v : Value) (l : FieldL) (hs : a.eval s = v) (hown : FRow w base v l)
    (ad : Addr) (f : List UInt8 × Nat × Nat) (c : Nat) (hx : a.eval x = .slice (some ad) 1 c) (hc : ∀ j, w.cell? (ad.add j) = (#[.string ⟨f.1.toArray⟩, .int .i64 f.2.1, .int .i64 f.2.2] : Array Value)[j]?)
    (hlen : l.length ≤ 1000) (hbase : base ≤ w.heap.size) {w0 : World} (hbel : Below base w0 w)
    (h : ∀ v' w', FRow w' base v' (l ++ [f]) → Below base w0 w' → wpList Tryd.prog ops Q rest (a.put o.dst v') w') : wpList Tryd.prog ops Q (o :: rest) a w := by
  obtain ⟨i0, hi, hz0, hz1, hz2⟩ := info_parts infoField
  refine wpList_plain hgd fun _ hK => wp_append_m w s x _ ho base 33 i0 _ 3 32 Tryd.underlying23 hi hz0 hz1 hz2 rfl (by decide) v l.length _ hs hown ad 1 c [.string ⟨f.1.toArray⟩, .int .i64 f.2.1, .int .i64 f.2.2] hx (by simp) ?_ ?_ (by unfold maxLen; omega) (by omega) hbase ?_
  · intro j u hu
    rw [hc j]
    simpa using hu
  · intro u hu
    simp at hu
    rcases hu with rfl | rfl | rfl <;> rfl
  · intro v' w' r1 r2 r3
    refine hK _ _ (h v' w' ?_ (hbel.grown r2 hbase fun k hk => (hown.lt k hk).1))
    unfold FRow
    rw [List.length_append, fCells_snoc]
    exact r1
theorem shaped_ons {w w' : World} (h : w.ShapedOpen Tryd.prog) (hb : Below w.heap.size w w') : w'.ShapedOpen Tryd.prog :=
  h.keptBut (hb.frame (fun _ => False)) (fun _ h => h.elim)
def fieldsIs (w : World) (base : Nat) (e : Ending) : Option HeadR → Prop
  | none => e = .returned (.tuple #[.slice none 0 0, errv 1])
  | some r => ∃ v, e = .returned (.tuple #[v, .nilIface]) ∧ FRow w base v r.2.2.2
theorem headT_pos : ∀ r ∈ headT, 0 < r.2.2.2.length ∧ r.2.2.2.length < 20 := by decide +kernel
set_option maxRecDepth 20000 in
set_option maxHeartbeats 2000000 in
theorem fields_any (op : Int) (w : World) (h0 : -9223372036854775808 ≤ op ∧ op ≤ 9223372036854775807) (T : Tabs w) (hS : w.ShapedOpen Tryd.prog) : Calls Tryd.prog 5 #[.int .i64 op] w fun e w' =>
    fieldsIs w' w.heap.size e (headRow op) ∧ Below w.heap.size w w' := by
  go_enter Tryd.func5, Tryd.ntmps5
  go_wp2_with fail
  refine (row_any op _ h0 T).mono ?_
  rintro e w1 ⟨v, rfl, hv, hb1⟩
  have heq := fun (w : World) (a : Option Addr) (n c : Nat) => Lib.run_eql_slice_nil (P := Tryd.prog) w 43 9 a n c 0 0 Tryd.underlying43
  rcases hr : headRow op with _ | r
  · rw [hr] at hv
    obtain rfl : v = .slice none 0 0 := hv
    have HR := Lib.hid hr
    clear hr
    go_wp2_with fail
    go_ret2
    exact ⟨by rw [HR.out]; rfl, hb1⟩
  · have hrm := headRow_mem hr
    rw [hr] at hv
    obtain ⟨G, rfl, hB⟩ := hv
    have hlen : (rowWords r).length = r.2.2.2.length + 3 := by simp [rowWords]
    have hpos := headT_pos r hrm
    obtain ⟨N, hN⟩ : ∃ N, r.2.2.2.length = N := ⟨_, rfl⟩
    rw [hN] at hlen hpos
    rw [hlen]
    have HR := Lib.hid hr
    clear hr
    have hS1 : w1.ShapedOpen Tryd.prog := shaped_ons hS hb1
    go_wp2_with fail
    go_loopw [5, 21] (fun out i wr => ∃ k : Nat, k ≤ N ∧ i = .int .i64 k ∧ FRow wr w1.heap.size out (r.2.2.2.take k) ∧ Below w1.heap.size w1 wr) (fun _ i _ => N - (intOf i).toNat)
    case atStart => exact ⟨0, Nat.zero_le _, rfl, MRow.nil _ _ _ _, Below.refl _ _⟩
    case round =>
      obtain ⟨k, hk, rfl, hrow, hbw1⟩ := hrel
      by_cases hlt : k < N
      · obtain ⟨f, hf⟩ : ∃ f, r.2.2.2[k]? = some f := ⟨_, List.getElem?_eq_getElem (by omega)⟩
        have hfm : f ∈ r.2.2.2 := List.mem_of_getElem? hf
        have hnum := fields_num r hrm f hfm
        have c3 : wr.cell? ⟨G, 3 + k, none⟩ = some (.string ⟨(fieldW f).toArray⟩) := by
          refine (hbw1.cell (p := ⟨G, 3 + k, none⟩) hB.lt).trans ((hB.cell (3 + k)).trans ?_)
          have : (wordVs r)[3 + k]? = some (.string ⟨(fieldW f).toArray⟩) := by
            rw [wordVs, rowWords, Nat.add_comm]
            simp [hf]
          simpa using this
        have htk : r.2.2.2.take (k + 1) = r.2.2.2.take k ++ [f] := by rw [List.take_add_one, hf]; rfl
        have hlk : (r.2.2.2.take k).length = k := by rw [List.length_take]; omega
        have HT := Lib.hid htk
        have HNU := Lib.hid hnum
        have HL := Lib.hid hlk
        have HSP := Lib.hid (split_at r hrm f hfm wr (shaped_ons hS1 hbw1))
        have hs0 := hbw1.size
        clear htk hnum hf hfm hlk
        go_wp2_with fail
        refine HSP.out.mono ?_
        rintro e w2 ⟨rfl, rfl⟩
        have hB2 := Blk.new wr 9 #[.string ⟨f.1.toArray⟩, .string ⟨(dg3 f.2.1).toArray⟩, .string ⟨(dg3 f.2.2).toArray⟩]
        have hb2 : Below wr.heap.size wr (wr.alloc (.cells #[.string ⟨f.1.toArray⟩, .string ⟨(dg3 f.2.1).toArray⟩, .string ⟨(dg3 f.2.2).toArray⟩] 9)) := (Below.refl _ _).alloc (Nat.le_refl _) _
        obtain ⟨w2, hw2⟩ : ∃ w2 : World, wr.alloc (.cells #[.string ⟨f.1.toArray⟩, .string ⟨(dg3 f.2.1).toArray⟩, .string ⟨(dg3 f.2.2).toArray⟩] 9) = w2 := ⟨_, rfl⟩
        rw [hw2] at hB2 hb2 ⊢
        obtain ⟨G2, hG2⟩ : ∃ G2, wr.heap.size = G2 := ⟨_, rfl⟩
        rw [hG2] at hB2 ⊢
        clear hw2 c3
        have d1 := hB2.cell 1
        go_wp2_with fail
        refine (atoi_to _ _ _ rfl HNU.out.1.2 HNU.out.1.1 _).mono ?_
        rintro e w3 ⟨rfl, hb3⟩
        have hB3 := hB2.below hb3 hB2.lt
        have d2 := hB3.cell 2
        clear d1
        go_wp2_with fail
        refine (atoi_to _ _ _ rfl HNU.out.2.2 HNU.out.2.1 _).mono ?_
        rintro e w4 ⟨rfl, hb4⟩
        have hB4 := hB3.below hb4 hB3.lt
        have d0 := hB4.cell 0
        have hb24 := below_step hb2 (below_step hb3 hb4)
        have hrow4 : FRow w4 w1.heap.size u5 (r.2.2.2.take k) := hrow.below hb24 (Nat.le_refl _)
        have hbw14 : Below w1.heap.size w1 w4 := hbw1.trans (hb24.mono hbw1.size)
        have hs4 := hbw14.size
        clear d2 hrow hbw1
        go_wp2_with (at_builtin; refine wpList_append_field _ rfl _ _ rfl w1.heap.size _ (r.2.2.2.take k) rfl ?g0 ⟨w4.heap.size, 0, none⟩ f 1 rfl ?g1 ?g2 ?g3 (w0 := w1) ?g4 ?_)
        case g0 => exact hrow4.alloc _
        case g1 => exact fcell _ _ _ _ _
        case g2 => rw [HL.out]; omega
        case g3 => simp; omega
        case g4 => exact hbw14.alloc hs4 _
        intro v6 w6 hrow6 hb6
        obtain ⟨A6, cap6, rfl⟩ : ∃ A cap, v6 = .slice A (k + 1) cap := by
          obtain ⟨A, cap, hv, _⟩ := hrow6.form
          rw [List.length_append, HL.out] at hv
          exact ⟨A, cap, hv⟩
        go_wp2_with fail
        go_roundw
        case rel => exact ⟨k + 1, by omega, by go_num, by rw [HT.out]; exact hrow6, hb6⟩
        case measure => simp [intOf]; omega
      · obtain ⟨A5, cap5, hu5⟩ : ∃ A cap, u5 = .slice A k cap := by
          obtain ⟨A, cap, hv, _⟩ := hrow.form
          rw [List.length_take, hN, Nat.min_eq_left hk] at hv
          exact ⟨A, cap, hv⟩
        have hkN : k = N := by omega
        have hfin : FRow wr w.heap.size u5 r.2.2.2 := by
          rw [List.take_of_length_le (by omega)] at hrow
          exact hrow.more hb1.size
        have HF := Lib.hid hfin
        clear hfin hrow
        go_wp2_with fail
        go_ret2
        exact ⟨by rw [HR.out]; exact ⟨_, rfl, HF.out⟩, below_step hb1 hbw1⟩
end Go.Proofs.YtfdbbfladgepgaaDoor
