/- The contract of head.Write. -/
import Derived.Test.YtfdbbfladgepgaaDoorHeadRight
import Derived.Lib.BufferWrite
namespace Go.Proofs.YtfdbbfladgepgaaDoor
open Go.ChangeShapes Go.WideShapes Go.ChangeAt Go.RowKit Go.Shelf
set_option linter.unusedVariables false
theorem Step.trans {b : Nat} {X Y Z : World} (h : Step b X Y) (k : Step b Y Z) : Step b X Z :=
  ⟨k.os.trans h.os, k.tape.trans h.tape, k.output.trans h.output, Nat.le_trans h.size k.size, fun i hi hl => (k.block i hi (Nat.lt_of_lt_of_le hl h.size)).trans (h.block i hi hl)⟩
theorem Step.refl (b : Nat) (X : World) : Step b X X := ⟨rfl, rfl, rfl, Nat.le_refl _, fun _ _ _ => rfl⟩
theorem Step.setRow (b : Nat) (A : World) (cs : Array Value) : Step b A (A.setRow b cs) :=
  ⟨rfl, rfl, rfl, (below_setRow (Below.refl b A) (Nat.le_refl _) cs).size, fun k hk _ => by
    simp only [World.setRow, Array.getElem?_modify]
    rw [if_neg (by omega)]⟩
theorem Step.below {b n : Nat} {X Y : World} (h : Step b X Y) (hn : n ≤ b) (hx : n ≤ X.heap.size) : Below n X Y :=
  ⟨h.os, h.tape, h.output, h.size, fun k hk => h.block k (by omega) (by omega)⟩
theorem Step.blk {b g : Nat} {X Y : World} {t : TypeId} {cs : Array Value} (h : Step b X Y) (hg : g ≠ b) (hB : Blk X g t cs) : Blk Y g t cs := (h.block g hg hB.lt).trans hB
def mapB (l : List UInt8) : Array Value := (l.map byteV).toArray
def headB (k : Nat) (now : Bool) (fl words data : Nat) : List UInt8 :=
  [UInt8.ofNat (k + if now then 64 else 0), UInt8.ofNat fl, 0, 0, UInt8.ofNat words, UInt8.ofNat (data / 65536), UInt8.ofNat (data / 256), UInt8.ofNat data] ++ List.replicate 40 0
theorem or64a : ∀ k : Fin 64, bits .or .u8 (k.val : Int) 64 = ((k.val + 64 : Nat) : Int) := by decide +kernel
theorem headB_cells (k fl words data : Nat) (now : Bool) (x : Int) (hx : x = ((k + if now then 64 else 0 : Nat) : Int)) (hx2 : x < 256) (hf : fl < 256) (hw : words < 256) (hd : data < 16777216) : mapB (headB k now fl words data) =
    #[.int .u8 x, .int .u8 fl, .int .u8 0, .int .u8 0, .int .u8 words, .int .u8 ((data : Int) / 65536), .int .u8 ((data : Int) / 256 % 256), .int .u8 ((data : Int) % 256), .int .u8 0, .int .u8 0, .int .u8 0, .int .u8 0, .int .u8 0, .int .u8 0, .int .u8 0, .int .u8 0, .int .u8 0, .int .u8 0, .int .u8 0, .int .u8 0, .int .u8 0, .int .u8 0, .int .u8 0, .int .u8 0, .int .u8 0, .int .u8 0, .int .u8 0, .int .u8 0, .int .u8 0, .int .u8 0, .int .u8 0, .int .u8 0, .int .u8 0, .int .u8 0, .int .u8 0, .int .u8 0, .int .u8 0, .int .u8 0, .int .u8 0, .int .u8 0, .int .u8 0, .int .u8 0, .int .u8 0, .int .u8 0, .int .u8 0, .int .u8 0, .int .u8 0, .int .u8 0] := by
  have e0 : (((k + if now then 64 else 0 : Nat) : Int) % 256) = x := by rw [← hx]; exact Int.emod_eq_of_lt (by omega) hx2
  have e1 : ((fl : Int) % 256) = fl := Int.emod_eq_of_lt (by omega) (by omega)
  have e2 : ((words : Int) % 256) = words := Int.emod_eq_of_lt (by omega) (by omega)
  have e3 : (((data / 65536 : Nat) : Int) % 256) = (data : Int) / 65536 := by omega
  have e4 : (((data / 256 : Nat) : Int) % 256) = (data : Int) / 256 % 256 := by omega
  show #[byteV (UInt8.ofNat (k + if now then 64 else 0)), byteV (UInt8.ofNat fl), .int .u8 0, .int .u8 0, byteV (UInt8.ofNat words), byteV (UInt8.ofNat (data / 65536)), byteV (UInt8.ofNat (data / 256)), byteV (UInt8.ofNat data), .int .u8 0, .int .u8 0, .int .u8 0, .int .u8 0, .int .u8 0, .int .u8 0, .int .u8 0, .int .u8 0, .int .u8 0, .int .u8 0, .int .u8 0, .int .u8 0, .int .u8 0, .int .u8 0, .int .u8 0, .int .u8 0, .int .u8 0, .int .u8 0, .int .u8 0, .int .u8 0, .int .u8 0, .int .u8 0, .int .u8 0, .int .u8 0, .int .u8 0, .int .u8 0, .int .u8 0, .int .u8 0, .int .u8 0, .int .u8 0, .int .u8 0, .int .u8 0, .int .u8 0, .int .u8 0, .int .u8 0, .int .u8 0, .int .u8 0, .int .u8 0, .int .u8 0, .int .u8 0] = _
  rw [byteV_ofNat, byteV_ofNat, byteV_ofNat, byteV_ofNat, byteV_ofNat, byteV_ofNat, e0, e1, e2, e3, e4]
theorem Step.cell {b : Nat} {X Y : World} (h : Step b X Y) {p : Addr} {v : Value} (hp : p.block ≠ b) (hc : X.cell? p = some v) : Y.cell? p = some v := by
  obtain ⟨o, ho, _⟩ := cells_of_cell hc
  exact (World.cell?_of_block (h.block p.block hp (Array.getElem?_eq_some_iff.1 ho).1)).trans hc
theorem Blk.setRow {w : World} {g : Nat} {t : TypeId} {cs : Array Value} (h : Blk w g t cs) (ds : Array Value) : Blk (w.setRow g ds) g t ds := by
  have h2 : w.heap[g]? = some (.cells cs t (0, 0)) := h
  show (w.setRow g ds).heap[g]? = some (.cells ds t (0, 0))
  simp only [World.setRow, Array.getElem?_modify, if_pos, h2, Option.map_some]
theorem mapB_size (l : List UInt8) : (mapB l).size = l.length := by simp [mapB]
theorem mapB_lay (l s : List UInt8) (p : Nat) : ((mapB l).toList.take p ++ Lib.byteCells s ++ (mapB l).toList.drop (p + s.length)).toArray = mapB (layAt l p s) := by
  simp only [mapB, layAt, List.map_append, List.map_take, List.map_drop, Lib.byteCells, List.toList_toArray]
  rfl
theorem layAll_snoc : ∀ (fs : FieldL) (vs : List Nat) (b : List UInt8) (k : Nat) (f : List UInt8 × Nat × Nat) (x : Nat), fs[k]? = some f → vs[k]? = some x → layAll b (fs.take (k + 1)) (vs.take (k + 1)) = layAt (layAll b (fs.take k) (vs.take k)) f.2.1 (putB x f.2.2)
  | [], vs, b, k, f, x, hf, hx => by simp at hf
  | g :: fs, [], b, k, f, x, hf, hx => by simp at hx
  | g :: fs, y :: vs, b, 0, f, x, hf, hx => by
    simp only [List.getElem?_cons_zero, Option.some.injEq] at hf hx
    subst hf hx
    simp only [List.take_succ_cons, List.take_zero, layAll]
  | g :: fs, y :: vs, b, k + 1, f, x, hf, hx => by
    rw [List.take_succ_cons, List.take_succ_cons, layAll, layAll_snoc fs vs _ k f x (by simpa using hf) (by simpa using hx), List.take_succ_cons, List.take_succ_cons, layAll]
theorem okAll_take : ∀ (fs : FieldL) (k : Nat), okAll fs = true → okAll (fs.take k) = true
  | [], k, _ => by simp [okAll]
  | f :: fs, 0, _ => rfl
  | f :: fs, k + 1, h => by
    simp only [okAll, Bool.and_eq_true] at h
    simp only [List.take_succ_cons, okAll, Bool.and_eq_true]
    refine ⟨⟨h.1.1, ?_⟩, okAll_take fs k h.2⟩
    rw [List.all_eq_true] at *
    exact fun g hg => h.1.2 g (List.mem_of_mem_take hg)
theorem put_to (n k : Nat) (S : ByteArray) (hS : S = ⟨(putB n k).toArray⟩) (w : World) (hk8 : k ≤ 8) (hn : n < 2 ^ (8 * k)) (hn2 : n < 18446744073709551616) : Calls Tryd.prog 15 #[.int .u64 n, .int .i64 k] w fun e w' => e = .returned (.tuple #[.string S, .nilIface]) ∧ Below w.heap.size w w' := by
  rw [hS]
  exact put_ok n k w (by omega) (by omega) (by omega) (by exact_mod_cast hn) (by omega)
theorem calls_named {P : Program} {f : FuncId} {args : Array Value} {w1 : World} {o : Obj} {R : Ending → World → Prop} (h : ∀ w2, w1.alloc o = w2 → Calls P f args w2 R) : Calls P f args (w1.alloc o) R := h _ rfl
theorem range_fits : ∀ (fs : FieldL) (vs : List Nat) (i : Nat), rangeGo fs vs i = none → ∀ (k : Nat) (f : List UInt8 × Nat × Nat) (x : Nat), fs[k]? = some f → vs[k]? = some x → f.2.2 < 8 → x / 2 ^ (8 * f.2.2) = 0
  | [], vs, i, h, k, f, x, hf, hx, h8 => by simp at hf
  | g :: fs, [], i, h, k, f, x, hf, hx, h8 => by simp at hx
  | g :: fs, y :: vs, i, h, 0, f, x, hf, hx, h8 => by
    simp only [List.getElem?_cons_zero, Option.some.injEq] at hf hx
    subst hf hx
    rw [rangeGo] at h
    by_cases hc : g.2.2 < 8 ∧ y / 2 ^ (8 * g.2.2) ≠ 0
    · rw [if_pos hc] at h; cases h
    · rcases Nat.eq_zero_or_pos (y / 2 ^ (8 * g.2.2)) with h0 | h0
      · exact h0
      · exact absurd ⟨h8, by omega⟩ hc
  | g :: fs, y :: vs, i, h, k + 1, f, x, hf, hx, h8 => by
    rw [rangeGo] at h
    by_cases hc : g.2.2 < 8 ∧ y / 2 ^ (8 * g.2.2) ≠ 0
    · rw [if_pos hc] at h; cases h
    · rw [if_neg hc] at h
      exact range_fits fs vs (i + 1) h k f x (by simpa using hf) (by simpa using hx) h8
theorem right_parts {op : Int} {now : Bool} {fl : Int} {vals : List Nat} {r : HeadR} (hrow : headRow op = some r) (h : rightR op now fl vals = none) :
    badR r op now fl = false ∧ r.2.2.2.length = vals.length ∧ rangeGo r.2.2.2 vals 0 = none := by
  rw [rightR, hrow] at h
  simp only at h
  rcases hb : badR r op now fl with _ | _
  · rw [hb, if_neg (by decide)] at h
    by_cases hl : r.2.2.2.length = vals.length
    · rw [if_neg (fun h => h hl)] at h
      exact ⟨rfl, hl, h⟩
    · rw [if_pos hl] at h; cases h
  · rw [hb, if_pos rfl] at h; cases h
theorem fits_of {fs : FieldL} {vs : List Nat} (h : rangeGo fs vs 0 = none) (hok : okAll fs = true) (hl : ∀ x ∈ vs, x < 18446744073709551616) (k : Nat) (f : List UInt8 × Nat × Nat) (x : Nat) (hf : fs[k]? = some f) (hx : vs[k]? = some x) : x < 2 ^ (8 * f.2.2) := by
  have hk := okAll_mem fs hok f (List.mem_of_getElem? hf)
  simp only [okF, Bool.and_eq_true, decide_eq_true_eq] at hk
  by_cases h8 : f.2.2 < 8
  · have := range_fits fs vs 0 h k f x hf hx h8
    exact (Nat.div_eq_zero_iff.1 this).resolve_left (fun e => by have := Nat.two_pow_pos (8 * f.2.2); omega)
  · have e8 : f.2.2 = 8 := by omega
    rw [e8]
    have := hl x (List.mem_of_getElem? hx)
    omega
set_option maxRecDepth 20000 in
set_option maxHeartbeats 2000000 in
theorem write_ok (op : Int) (now : Bool) (fl : Nat) (vals : List Nat) (v : Value) (words data : Nat) (r : HeadR) (w : World) (h0 : -9223372036854775808 ≤ op ∧ op ≤ 9223372036854775807) (hf : fl < 256) (hv : SRd w v 1 vals.length (vals.map u64V)) (hl : ∀ x ∈ vals, x < 18446744073709551616) (T : Tabs w) (hS : w.ShapedOpen Tryd.prog)
    (hrow : headRow op = some r) (hr : rightR op now fl vals = none) (hw : words < 256) (hd : data < 16777216) :
    Calls Tryd.prog 7 #[.agg #[.int .i64 op, .bool now, .int .i64 fl, v], .int .i64 words, .int .i64 data] w fun e w' =>
      e = .returned (.tuple #[.string ⟨(layAll (headB r.1 now fl words data) r.2.2.2 vals).toArray⟩, .nilIface]) ∧ Below w.heap.size w w' := by
  have hop := headRow_op hrow
  have hrm := headRow_mem hrow
  subst hop
  obtain ⟨HB, hHB⟩ : ∃ HB, headB r.1 now fl words data = HB := ⟨_, rfl⟩
  have hHz : HB.length = 48 := by rw [← hHB]; rfl
  have hr64 := headT_small r hrm
  have hcells : mapB HB = _ := (congrArg mapB hHB).symm.trans (headB_cells r.1 fl words data now (if now then bits .or .u8 (r.1 : Int) 64 else r.1) (by
    cases now
    · simp
    · simpa using or64a ⟨r.1, hr64⟩) (by
    cases now
    · simp only [Bool.false_eq_true, if_false]; omega
    · have := or64a ⟨r.1, hr64⟩
      simp only at this
      simp only [if_true]
      omega) hf hw hd)
  rw [hHB]
  have HHB := Lib.hid hHB
  have HC := Lib.hid hcells
  clear hcells hHB
  obtain ⟨A, cap, rfl⟩ : ∃ A cap, v = .slice A vals.length cap := by obtain ⟨_, A, cap, hv, _⟩ := hv; exact ⟨A, cap, hv⟩
  have hb0 : Below w.heap.size w (w.alloc (.cells #[.int .i64 r.1, .bool now, .int .i64 fl, .slice A vals.length cap] 38)) := (Below.refl _ _).alloc (Nat.le_refl _) _
  have hB0 := Blk.new w 38 #[.int .i64 r.1, .bool now, .int .i64 fl, .slice A vals.length cap]
  obtain ⟨g, hg⟩ : ∃ g, w.heap.size = g := ⟨_, rfl⟩
  rw [hg] at hB0 hb0 ⊢
  have HR := Lib.hid hr
  have HROW := Lib.hid hrow
  clear hr hrow
  have hmk : ∀ w, (Instr.makeSlice 50 (.int .i64 48) (.int .i64 48)).run Tryd.prog w = .ok (.slice (some ⟨w.heap.size, 0, none⟩) 48 48) (w.alloc (.cells #[.int .u8 0, .int .u8 0, .int .u8 0, .int .u8 0, .int .u8 0, .int .u8 0, .int .u8 0, .int .u8 0, .int .u8 0, .int .u8 0, .int .u8 0, .int .u8 0, .int .u8 0, .int .u8 0, .int .u8 0, .int .u8 0, .int .u8 0, .int .u8 0, .int .u8 0, .int .u8 0, .int .u8 0, .int .u8 0, .int .u8 0, .int .u8 0, .int .u8 0, .int .u8 0, .int .u8 0, .int .u8 0, .int .u8 0, .int .u8 0, .int .u8 0, .int .u8 0, .int .u8 0, .int .u8 0, .int .u8 0, .int .u8 0, .int .u8 0, .int .u8 0, .int .u8 0, .int .u8 0, .int .u8 0, .int .u8 0, .int .u8 0, .int .u8 0, .int .u8 0, .int .u8 0, .int .u8 0, .int .u8 0] 5)) := fun w => by
    have hlit : zeros 48 = #[.int .u8 0, .int .u8 0, .int .u8 0, .int .u8 0, .int .u8 0, .int .u8 0, .int .u8 0, .int .u8 0, .int .u8 0, .int .u8 0, .int .u8 0, .int .u8 0, .int .u8 0, .int .u8 0, .int .u8 0, .int .u8 0, .int .u8 0, .int .u8 0, .int .u8 0, .int .u8 0, .int .u8 0, .int .u8 0, .int .u8 0, .int .u8 0, .int .u8 0, .int .u8 0, .int .u8 0, .int .u8 0, .int .u8 0, .int .u8 0, .int .u8 0, .int .u8 0, .int .u8 0, .int .u8 0, .int .u8 0, .int .u8 0, .int .u8 0, .int .u8 0, .int .u8 0, .int .u8 0, .int .u8 0, .int .u8 0, .int .u8 0, .int .u8 0, .int .u8 0, .int .u8 0, .int .u8 0, .int .u8 0] := by
      apply Array.ext'
      rw [zeros_list]
      rfl
    rw [← hlit]
    exact make_bytes 48 w (by decide)
  go_enter Tryd.func7, Tryd.ntmps7
  go_wp2_with fail
  obtain ⟨w0, hw0⟩ : ∃ w0 : World, w.alloc (.cells #[.int .i64 r.1, .bool now, .int .i64 fl, .slice A vals.length cap] 38) = w0 := ⟨_, rfl⟩
  rw [hw0] at hb0 hB0 ⊢
  clear hw0
  try rw [hg]
  have hgw : g ≤ w0.heap.size := Nat.le_of_lt hB0.lt
  have hb0' : Below w.heap.size w w0 := by rw [hg]; exact hb0
  refine (right_any r.1 now fl vals _ _ h0 (by omega) (hv.on hb0') hl (T.on hb0') (shaped_ons hS hb0')).mono ?_
  rintro e w1 ⟨er, rfl, her, hb1⟩
  rw [HR.out] at her
  obtain rfl : er = .nilIface := her
  have hbw1 : Below g w w1 := hb0.trans (hb1.mono hgw)
  have hB1 := hB0.below hb1 hB0.lt
  have hg1 := hB1.lt
  have hne : g ≠ w1.heap.size := by omega
  have hne2 : w1.heap.size ≠ g := by omega
  have d0 : ∀ o, (w1.alloc o).cell? ⟨g, 0, none⟩ = some (.int .i64 r.1) := fun o => (hB1.alloc o).cell 0
  have d1 : ∀ o, (w1.alloc o).cell? ⟨g, 1, none⟩ = some (.bool now) := fun o => (hB1.alloc o).cell 1
  have d2 : ∀ o, (w1.alloc o).cell? ⟨g, 2, none⟩ = some (.int .i64 fl) := fun o => (hB1.alloc o).cell 2
  clear hB0 hb0 hb0' hb1
  obtain ⟨hbad, hvl, hrg⟩ := right_parts HROW.out HR.out
  have hok := headT_ok r hrm
  have HFIT := Lib.hid (fits_of hrg hok hl)
  have HOK := Lib.hid hok
  obtain ⟨N, hN⟩ : ∃ N, r.2.2.2.length = N := ⟨_, rfl⟩
  have hNv : vals.length = N := by omega
  clear hrg hok hbad
  rcases now with _ | _
  · skip
    go_wp2_with fail
    refine calls_named ?_
    intro w2 hw2
    have hBb : Blk w2 w1.heap.size 5 (mapB HB) := by
      rw [HC.out, ← hw2]
      exact Blk.new _ _ _
    have hBh : Blk w2 g 38 #[.int .i64 r.1, .bool false, .int .i64 fl, .slice A vals.length cap] := by rw [← hw2]; exact hB1.alloc _
    have hbw2 : Below g w w2 := by rw [← hw2]; exact hbw1.alloc (by omega) _
    obtain ⟨gb, hgb⟩ : ∃ gb, w1.heap.size = gb := ⟨_, rfl⟩
    rw [hgb] at hBb hg1 hne hne2 ⊢
    have hbw2' : Below w.heap.size w w2 := by rw [hg]; exact hbw2
    clear hw2 d0 d1 d2 hB1
    refine (fields_any r.1 _ h0 (T.on hbw2') (shaped_ons hS hbw2')).mono ?_
    rintro e w3 ⟨hfi, hb3⟩
    rw [HROW.out] at hfi
    obtain ⟨lv, rfl, hrow⟩ := hfi
    have hBb3 := hBb.below hb3 hBb.lt
    have hBh3 := hBh.below hb3 hBh.lt
    have hbw3 : Below g w w3 := hbw2.trans (hb3.mono (Nat.le_of_lt hBh.lt))
    have hgb2 : gb < w2.heap.size := hBb.lt
    have hpos := headT_pos r hrm
    obtain ⟨lb, lcap, rfl, hlbg, hlc, hlm⟩ : ∃ lb lcap, lv = .slice (some ⟨lb, 0, none⟩) N lcap ∧ w2.heap.size ≤ lb ∧ N ≤ lcap ∧ lcap ≤ maxLen := by
      rcases hrow.2 with ⟨_, h⟩ | ⟨lb, lcap, cur, h1, h2, h3, h4, h5, _⟩
      · omega
      · exact ⟨lb, lcap, by rw [h1, hN], h2, by omega, h5⟩
    unfold maxLen at hlm
    have hlcell : ∀ j u, (fCells r.2.2.2)[j]? = some u → w3.cell? ⟨lb, j, none⟩ = some u := by
      have hrow' := hrow
      unfold FRow at hrow'
      rw [hN] at hrow'
      exact fun j u hu => hrow'.cellAt j u hu
    have HLC := Lib.hid hlcell
    obtain ⟨hvz, VA, vcap, hVV, hvc, hvm, hvA⟩ := hv.on (show Below w.heap.size w w3 by rw [hg]; exact hbw3)
    injection hVV with hV1 hV2 hV3
    subst hV1 hV3
    obtain ⟨vb, vo, hAA, _, hvcc⟩ := hvA (by omega)
    have hvbg : vb < g := by
      obtain ⟨_, A2, c2, hVV2, _, _, hvA2⟩ := hv
      injection hVV2 with k1 k2 k3
      obtain ⟨vb2, vo2, h4, h5, _⟩ := hvA2 (by omega)
      rw [← k1, hAA] at h4
      injection h4 with h4
      injection h4 with h4
      omega
    subst hAA
    have HVC := Lib.hid hvcc
    rw [hNv] at hBh3
    have hvc2 : N ≤ cap := by omega
    unfold maxLen at hvm
    clear hlcell hvA hvcc hrow hb3 hBb hBh hbw2 hbw2' hbw1 hvz hV2 hvc
    go_wp2_with fail
    go_loopw [80] (fun i wr => ∃ k : Nat, k ≤ N ∧ i = .int .i64 k ∧ Step gb w3 wr ∧ Blk wr gb 5 (mapB (layAll HB (r.2.2.2.take k) (vals.take k)))) (fun i _ => N - (intOf i).toNat)
    case atStart => exact ⟨0, Nat.zero_le _, rfl, Step.refl _ _, by rw [List.take_zero, List.take_zero]; exact hBb3⟩
    case round =>
      obtain ⟨k, hk, rfl, hst, hBk⟩ := hrel
      have hlz : (layAll HB (r.2.2.2.take k) (vals.take k)).length = 48 := layAll_len _ _ _ (okAll_take _ _ HOK.out) hHz
      obtain ⟨LK, hLK⟩ : ∃ LK, layAll HB (r.2.2.2.take k) (vals.take k) = LK := ⟨_, rfl⟩
      rw [hLK] at hBk hlz
      have HLK := Lib.hid hLK
      have hs3 := hst.size
      have hg3 := hBh3.lt
      clear hLK
      by_cases hlt : k < N
      · obtain ⟨f, hf⟩ : ∃ f, r.2.2.2[k]? = some f := ⟨_, List.getElem?_eq_getElem (by omega)⟩
        obtain ⟨x, hx⟩ : ∃ x, vals[k]? = some x := ⟨_, List.getElem?_eq_getElem (by omega)⟩
        have hok := okAll_mem _ HOK.out f (List.mem_of_getElem? hf)
        simp only [okF, Bool.and_eq_true, decide_eq_true_eq] at hok
        have hk8 : f.2.2 ≤ 8 := hok.2
        have hk1 : 1 ≤ f.2.2 := hok.1.2
        have hat : f.2.1 + f.2.2 ≤ 48 := hok.1.1.1.2
        have hc := fCells_at _ _ _ hf
        have e0 : wr.cell? ⟨lb, 3 * k, none⟩ = some (.string ⟨f.1.toArray⟩) := hst.cell (by simp only; omega) (HLC.out _ _ hc.1)
        have e1 : wr.cell? ⟨lb, 3 * k + 1, none⟩ = some (.int .i64 f.2.1) := hst.cell (by simp only; omega) (HLC.out _ _ hc.2.1)
        have e2 : wr.cell? ⟨lb, 3 * k + 2, none⟩ = some (.int .i64 f.2.2) := hst.cell (by simp only; omega) (HLC.out _ _ hc.2.2)
        rw [Nat.mul_comm] at e0 e1 e2
        have ev : wr.cell? ⟨vb, vo + k, none⟩ = some (.int .u64 x) := hst.cell (by simp only; omega) (HVC.out k (u64V x) (by rw [List.getElem?_map, hx]; rfl))
        have d3 : wr.cell? ⟨g, 3, none⟩ = some (.slice (some ⟨vb, vo, none⟩) N cap) := hst.cell (by simp only; omega) (hBh3.cell 3)
        have hxl := hl x (List.mem_of_getElem? hx)
        have hfit := HFIT.out k f x hf hx
        have hsn := layAll_snoc r.2.2.2 vals HB k f x hf hx
        rw [HLK.out] at hsn
        have HSN := Lib.hid hsn
        have hgr : g < wr.heap.size := by omega
        have hvbr : vb < wr.heap.size := by omega
        clear hsn hok hc hf hx HLK
        go_wp2_with fail
        have hb4 : Below wr.heap.size wr (wr.alloc (.cells #[.string ⟨f.1.toArray⟩, .int .i64 f.2.1, .int .i64 f.2.2] 33)) := (Below.refl _ _).alloc (Nat.le_refl _) _
        have hBf := Blk.new wr 33 #[.string ⟨f.1.toArray⟩, .int .i64 f.2.1, .int .i64 f.2.2]
        obtain ⟨w4, hw4⟩ : ∃ w4 : World, wr.alloc (.cells #[.string ⟨f.1.toArray⟩, .int .i64 f.2.1, .int .i64 f.2.2] 33) = w4 := ⟨_, rfl⟩
        obtain ⟨G, hG⟩ : ∃ G, wr.heap.size = G := ⟨_, rfl⟩
        rw [hw4] at hb4 hBf ⊢
        rw [hG] at hBf ⊢
        have hst4 : Step gb w3 w4 := hst.trans (.of_below hb4)
        have hBk4 := hBk.below hb4 hBk.lt
        have d34 := (hb4.cell (p := ⟨g, 3, none⟩) hgr).trans d3
        have ev4 := (hb4.cell (p := ⟨vb, vo + k, none⟩) hvbr).trans ev
        have hg4 : g < w4.heap.size := Nat.lt_of_lt_of_le hgr hb4.size
        have hv4 : vb < w4.heap.size := Nat.lt_of_lt_of_le hvbr hb4.size
        have hf4 := hBf.lt
        have hk4 := hBk4.lt
        obtain ⟨S, hS⟩ : ∃ S : ByteArray, S = ⟨(putB x f.2.2).toArray⟩ := ⟨_, rfl⟩
        have hSz : S.size = f.2.2 := by rw [hS, size_mkl, putB_len]
        have HS := Lib.hid hS
        have q3 : ∀ i : BW w4, i.v.cell? ⟨g, 3, none⟩ = some (.slice (some ⟨vb, vo, none⟩) N cap) := fun i => (i.h.cell (p := ⟨g, 3, none⟩) hg4).trans d34
        have qv : ∀ i : BW w4, i.v.cell? ⟨vb, vo + k, none⟩ = some (.int .u64 x) := fun i => (i.h.cell (p := ⟨vb, vo + k, none⟩) hv4).trans ev4
        have q2 : ∀ i : BW w4, i.v.cell? ⟨G, 2, none⟩ = some (.int .i64 f.2.2) := fun i => (hBf.below i.h hf4).cell 2
        have q1 : ∀ i : BW w4, i.v.cell? ⟨G, 1, none⟩ = some (.int .i64 f.2.1) := fun i => (hBf.below i.h hf4).cell 1
        have qc : ∀ (i : BW w4) ty, (Builtin.copy_ #[50, 9] ty #[.slice (some ⟨gb, f.2.1, none⟩) (48 - f.2.1) (48 - f.2.1), .string S]).run Tryd.prog i.v = .ok (goInt S.size) (i.v.setRow gb ((mapB LK).toList.take f.2.1 ++ Lib.byteCells S.data.toList ++ (mapB LK).toList.drop (f.2.1 + S.size)).toArray) := fun i ty =>
          Lib.run_copy_row_string i.v 50 9 ty 5 gb f.2.1 (48 - f.2.1) (48 - f.2.1) S (mapB LK) 5 Tryd.underlying50 (by kernel_rfl) (hBk4.below i.h hk4) (by omega) (by rw [mapB_size]; omega)
        clear e0 e1 e2 ev d3 d34 ev4 hb4 hst hBk hw4 hS hBf
        go_wp2_with fail
        refine wp_region_quietB (by kernel_rfl) (by kernel_rfl) ?_
        repeat (first | go_big_quiet_skip | (go_big_quiet_want; go_big_quiet_op; first | go_big_quiet_on | (apply Exists.intro; refine ⟨fun _ => ?_, ?_⟩; ((go_at_call 15; with_reducible exact calls_bw (put_to x f.2.2 S HS.out _ (by omega) hfit (by omega)))); go_big_quiet_on)))
        refine wpQuiet_nil ?_
        rintro _ ⟨iq, rfl⟩
        go_wp2_with fail
        go_roundw
        case rel =>
          refine ⟨k + 1, by omega, by go_num, (hst4.trans (.of_below iq.h)).trans (Step.setRow _ _ _), ?_⟩
          have e := mapB_lay LK (putB x f.2.2) f.2.1
          have hSd : S.data.toList = putB x f.2.2 := by rw [HS.out]
          rw [putB_len] at e
          rw [HSN.out, ← e, List.append_assoc, hSd]
          exact (hBk4.below iq.h hk4).setRow _
        case measure => simp [intOf]; omega
      · have hfull : LK = layAll HB r.2.2.2 vals := by
          rw [← HLK.out, List.take_of_length_le (by omega), List.take_of_length_le (by omega)]
        have hcv : (convert 50 9 (.slice (some ⟨gb, 0, none⟩) 48 48)).run Tryd.prog wr = .ok (.string ⟨LK.toArray⟩) wr := by
          have := blkM_string (l := LK) (cap := 48) (more := []) (w := wr) (g := gb) (by rw [List.append_nil]; exact BlkM.of_blk hBk)
          rw [hlz] at this
          exact this
        have hfin : Below g w wr := hbw3.trans (hst.below (by omega) (by omega))
        have HF := Lib.hid hfull
        clear hfull HLK hst hBk
        go_wp2_with fail
        go_ret2
        exact ⟨by rw [HF.out]; rfl, hfin⟩
  · skip
    go_wp2_with fail
    refine calls_named ?_
    intro w2 hw2
    have hBb : Blk w2 w1.heap.size 5 (mapB HB) := by
      rw [HC.out, ← hw2]
      exact Blk.new _ _ _
    have hBh : Blk w2 g 38 #[.int .i64 r.1, .bool true, .int .i64 fl, .slice A vals.length cap] := by rw [← hw2]; exact hB1.alloc _
    have hbw2 : Below g w w2 := by rw [← hw2]; exact hbw1.alloc (by omega) _
    obtain ⟨gb, hgb⟩ : ∃ gb, w1.heap.size = gb := ⟨_, rfl⟩
    rw [hgb] at hBb hg1 hne hne2 ⊢
    have hbw2' : Below w.heap.size w w2 := by rw [hg]; exact hbw2
    clear hw2 d0 d1 d2 hB1
    refine (fields_any r.1 _ h0 (T.on hbw2') (shaped_ons hS hbw2')).mono ?_
    rintro e w3 ⟨hfi, hb3⟩
    rw [HROW.out] at hfi
    obtain ⟨lv, rfl, hrow⟩ := hfi
    have hBb3 := hBb.below hb3 hBb.lt
    have hBh3 := hBh.below hb3 hBh.lt
    have hbw3 : Below g w w3 := hbw2.trans (hb3.mono (Nat.le_of_lt hBh.lt))
    have hgb2 : gb < w2.heap.size := hBb.lt
    have hpos := headT_pos r hrm
    obtain ⟨lb, lcap, rfl, hlbg, hlc, hlm⟩ : ∃ lb lcap, lv = .slice (some ⟨lb, 0, none⟩) N lcap ∧ w2.heap.size ≤ lb ∧ N ≤ lcap ∧ lcap ≤ maxLen := by
      rcases hrow.2 with ⟨_, h⟩ | ⟨lb, lcap, cur, h1, h2, h3, h4, h5, _⟩
      · omega
      · exact ⟨lb, lcap, by rw [h1, hN], h2, by omega, h5⟩
    unfold maxLen at hlm
    have hlcell : ∀ j u, (fCells r.2.2.2)[j]? = some u → w3.cell? ⟨lb, j, none⟩ = some u := by
      have hrow' := hrow
      unfold FRow at hrow'
      rw [hN] at hrow'
      exact fun j u hu => hrow'.cellAt j u hu
    have HLC := Lib.hid hlcell
    obtain ⟨hvz, VA, vcap, hVV, hvc, hvm, hvA⟩ := hv.on (show Below w.heap.size w w3 by rw [hg]; exact hbw3)
    injection hVV with hV1 hV2 hV3
    subst hV1 hV3
    obtain ⟨vb, vo, hAA, _, hvcc⟩ := hvA (by omega)
    have hvbg : vb < g := by
      obtain ⟨_, A2, c2, hVV2, _, _, hvA2⟩ := hv
      injection hVV2 with k1 k2 k3
      obtain ⟨vb2, vo2, h4, h5, _⟩ := hvA2 (by omega)
      rw [← k1, hAA] at h4
      injection h4 with h4
      injection h4 with h4
      omega
    subst hAA
    have HVC := Lib.hid hvcc
    rw [hNv] at hBh3
    have hvc2 : N ≤ cap := by omega
    unfold maxLen at hvm
    clear hlcell hvA hvcc hrow hb3 hBb hBh hbw2 hbw2' hbw1 hvz hV2 hvc
    go_wp2_with fail
    go_loopw [80] (fun i wr => ∃ k : Nat, k ≤ N ∧ i = .int .i64 k ∧ Step gb w3 wr ∧ Blk wr gb 5 (mapB (layAll HB (r.2.2.2.take k) (vals.take k)))) (fun i _ => N - (intOf i).toNat)
    case atStart => exact ⟨0, Nat.zero_le _, rfl, Step.refl _ _, by rw [List.take_zero, List.take_zero]; exact hBb3⟩
    case round =>
      obtain ⟨k, hk, rfl, hst, hBk⟩ := hrel
      have hlz : (layAll HB (r.2.2.2.take k) (vals.take k)).length = 48 := layAll_len _ _ _ (okAll_take _ _ HOK.out) hHz
      obtain ⟨LK, hLK⟩ : ∃ LK, layAll HB (r.2.2.2.take k) (vals.take k) = LK := ⟨_, rfl⟩
      rw [hLK] at hBk hlz
      have HLK := Lib.hid hLK
      have hs3 := hst.size
      have hg3 := hBh3.lt
      clear hLK
      by_cases hlt : k < N
      · obtain ⟨f, hf⟩ : ∃ f, r.2.2.2[k]? = some f := ⟨_, List.getElem?_eq_getElem (by omega)⟩
        obtain ⟨x, hx⟩ : ∃ x, vals[k]? = some x := ⟨_, List.getElem?_eq_getElem (by omega)⟩
        have hok := okAll_mem _ HOK.out f (List.mem_of_getElem? hf)
        simp only [okF, Bool.and_eq_true, decide_eq_true_eq] at hok
        have hk8 : f.2.2 ≤ 8 := hok.2
        have hk1 : 1 ≤ f.2.2 := hok.1.2
        have hat : f.2.1 + f.2.2 ≤ 48 := hok.1.1.1.2
        have hc := fCells_at _ _ _ hf
        have e0 : wr.cell? ⟨lb, 3 * k, none⟩ = some (.string ⟨f.1.toArray⟩) := hst.cell (by simp only; omega) (HLC.out _ _ hc.1)
        have e1 : wr.cell? ⟨lb, 3 * k + 1, none⟩ = some (.int .i64 f.2.1) := hst.cell (by simp only; omega) (HLC.out _ _ hc.2.1)
        have e2 : wr.cell? ⟨lb, 3 * k + 2, none⟩ = some (.int .i64 f.2.2) := hst.cell (by simp only; omega) (HLC.out _ _ hc.2.2)
        rw [Nat.mul_comm] at e0 e1 e2
        have ev : wr.cell? ⟨vb, vo + k, none⟩ = some (.int .u64 x) := hst.cell (by simp only; omega) (HVC.out k (u64V x) (by rw [List.getElem?_map, hx]; rfl))
        have d3 : wr.cell? ⟨g, 3, none⟩ = some (.slice (some ⟨vb, vo, none⟩) N cap) := hst.cell (by simp only; omega) (hBh3.cell 3)
        have hxl := hl x (List.mem_of_getElem? hx)
        have hfit := HFIT.out k f x hf hx
        have hsn := layAll_snoc r.2.2.2 vals HB k f x hf hx
        rw [HLK.out] at hsn
        have HSN := Lib.hid hsn
        have hgr : g < wr.heap.size := by omega
        have hvbr : vb < wr.heap.size := by omega
        clear hsn hok hc hf hx HLK
        go_wp2_with fail
        have hb4 : Below wr.heap.size wr (wr.alloc (.cells #[.string ⟨f.1.toArray⟩, .int .i64 f.2.1, .int .i64 f.2.2] 33)) := (Below.refl _ _).alloc (Nat.le_refl _) _
        have hBf := Blk.new wr 33 #[.string ⟨f.1.toArray⟩, .int .i64 f.2.1, .int .i64 f.2.2]
        obtain ⟨w4, hw4⟩ : ∃ w4 : World, wr.alloc (.cells #[.string ⟨f.1.toArray⟩, .int .i64 f.2.1, .int .i64 f.2.2] 33) = w4 := ⟨_, rfl⟩
        obtain ⟨G, hG⟩ : ∃ G, wr.heap.size = G := ⟨_, rfl⟩
        rw [hw4] at hb4 hBf ⊢
        rw [hG] at hBf ⊢
        have hst4 : Step gb w3 w4 := hst.trans (.of_below hb4)
        have hBk4 := hBk.below hb4 hBk.lt
        have d34 := (hb4.cell (p := ⟨g, 3, none⟩) hgr).trans d3
        have ev4 := (hb4.cell (p := ⟨vb, vo + k, none⟩) hvbr).trans ev
        have hg4 : g < w4.heap.size := Nat.lt_of_lt_of_le hgr hb4.size
        have hv4 : vb < w4.heap.size := Nat.lt_of_lt_of_le hvbr hb4.size
        have hf4 := hBf.lt
        have hk4 := hBk4.lt
        obtain ⟨S, hS⟩ : ∃ S : ByteArray, S = ⟨(putB x f.2.2).toArray⟩ := ⟨_, rfl⟩
        have hSz : S.size = f.2.2 := by rw [hS, size_mkl, putB_len]
        have HS := Lib.hid hS
        have q3 : ∀ i : BW w4, i.v.cell? ⟨g, 3, none⟩ = some (.slice (some ⟨vb, vo, none⟩) N cap) := fun i => (i.h.cell (p := ⟨g, 3, none⟩) hg4).trans d34
        have qv : ∀ i : BW w4, i.v.cell? ⟨vb, vo + k, none⟩ = some (.int .u64 x) := fun i => (i.h.cell (p := ⟨vb, vo + k, none⟩) hv4).trans ev4
        have q2 : ∀ i : BW w4, i.v.cell? ⟨G, 2, none⟩ = some (.int .i64 f.2.2) := fun i => (hBf.below i.h hf4).cell 2
        have q1 : ∀ i : BW w4, i.v.cell? ⟨G, 1, none⟩ = some (.int .i64 f.2.1) := fun i => (hBf.below i.h hf4).cell 1
        have qc : ∀ (i : BW w4) ty, (Builtin.copy_ #[50, 9] ty #[.slice (some ⟨gb, f.2.1, none⟩) (48 - f.2.1) (48 - f.2.1), .string S]).run Tryd.prog i.v = .ok (goInt S.size) (i.v.setRow gb ((mapB LK).toList.take f.2.1 ++ Lib.byteCells S.data.toList ++ (mapB LK).toList.drop (f.2.1 + S.size)).toArray) := fun i ty =>
          Lib.run_copy_row_string i.v 50 9 ty 5 gb f.2.1 (48 - f.2.1) (48 - f.2.1) S (mapB LK) 5 Tryd.underlying50 (by kernel_rfl) (hBk4.below i.h hk4) (by omega) (by rw [mapB_size]; omega)
        clear e0 e1 e2 ev d3 d34 ev4 hb4 hst hBk hw4 hS hBf
        go_wp2_with fail
        refine wp_region_quietB (by kernel_rfl) (by kernel_rfl) ?_
        repeat (first | go_big_quiet_skip | (go_big_quiet_want; go_big_quiet_op; first | go_big_quiet_on | (apply Exists.intro; refine ⟨fun _ => ?_, ?_⟩; ((go_at_call 15; with_reducible exact calls_bw (put_to x f.2.2 S HS.out _ (by omega) hfit (by omega)))); go_big_quiet_on)))
        refine wpQuiet_nil ?_
        rintro _ ⟨iq, rfl⟩
        go_wp2_with fail
        go_roundw
        case rel =>
          refine ⟨k + 1, by omega, by go_num, (hst4.trans (.of_below iq.h)).trans (Step.setRow _ _ _), ?_⟩
          have e := mapB_lay LK (putB x f.2.2) f.2.1
          have hSd : S.data.toList = putB x f.2.2 := by rw [HS.out]
          rw [putB_len] at e
          rw [HSN.out, ← e, List.append_assoc, hSd]
          exact (hBk4.below iq.h hk4).setRow _
        case measure => simp [intOf]; omega
      · have hfull : LK = layAll HB r.2.2.2 vals := by
          rw [← HLK.out, List.take_of_length_le (by omega), List.take_of_length_le (by omega)]
        have hcv : (convert 50 9 (.slice (some ⟨gb, 0, none⟩) 48 48)).run Tryd.prog wr = .ok (.string ⟨LK.toArray⟩) wr := by
          have := blkM_string (l := LK) (cap := 48) (more := []) (w := wr) (g := gb) (by rw [List.append_nil]; exact BlkM.of_blk hBk)
          rw [hlz] at this
          exact this
        have hfin : Below g w wr := hbw3.trans (hst.below (by omega) (by omega))
        have HF := Lib.hid hfull
        clear hfull HLK hst hBk
        go_wp2_with fail
        go_ret2
        exact ⟨by rw [HF.out]; rfl, hfin⟩
end Go.Proofs.YtfdbbfladgepgaaDoor
