/- HeadWrite HeadRead HeadSame HeadMake HeadVal. -/
import Derived.Test.YtamlepacljjpiaaGreatDoorGhead
import Derived.Lib.BufferWrite
import Derived.Laws.ResultCell
import Derived.Laws.Rows
import Derived.Deep.RegionHeld3
/- The contract of head.Write. -/
namespace Go.Proofs.YtamlepacljjpiaaGreatDoor
open Go.ChangeShapes Go.WideShapes Go.ChangeAt Go.RowKit Go.Shelf
set_option linter.unusedVariables false
theorem Step.trans {b : Nat} {X Y Z : World} (h : Step b X Y) (k : Step b Y Z) : Step b X Z :=
  ⟨k.os.trans h.os, k.tape.trans h.tape, k.output.trans h.output, Nat.le_trans h.size k.size, fun i hi hl => (k.block i hi (Nat.lt_of_lt_of_le hl h.size)).trans (h.block i hi hl)⟩
theorem Step.refl (b : Nat) (X : World) : Step b X X := ⟨rfl, rfl, rfl, Nat.le_refl _, fun _ _ _ => rfl⟩
theorem Step.setRow (b : Nat) (A : World) (cs : Array Value) : Step b A (A.setRow b cs) :=
  ⟨rfl, rfl, rfl, (below_setRow (Below.refl b A) (Nat.le_refl _) cs).size, fun k hk _ => by
    simp only [World.setRow, Array.getElem?_modify]
    rw [if_neg (by omega)]⟩
theorem Step.below {b n : Nat} {X Y : World} (h : Step b X Y) (hn : n ≤ b) (hx : n ≤ X.heap.size) : Below n X Y :=
  ⟨h.os, h.tape, h.output, h.size, fun k hk => h.block k (by omega) (by omega)⟩
theorem Step.blk {b g : Nat} {X Y : World} {t : TypeId} {cs : Array Value} (h : Step b X Y) (hg : g ≠ b) (hB : Blk X g t cs) : Blk Y g t cs := (h.block g hg hB.lt).trans hB
def mapB (l : List UInt8) : Array Value := (l.map byteV).toArray
def headB (k : Nat) (now : Bool) (fl words data : Nat) : List UInt8 :=
  [UInt8.ofNat (k + if now then 64 else 0), UInt8.ofNat fl, 0, 0, UInt8.ofNat words, UInt8.ofNat (data / 65536), UInt8.ofNat (data / 256), UInt8.ofNat data] ++ List.replicate 40 0
theorem or64a : ∀ k : Fin 64, bits .or .u8 (k.val : Int) 64 = ((k.val + 64 : Nat) : Int) := by decide +kernel
theorem headB_cells (k fl words data : Nat) (now : Bool) (x : Int) (hx : x = ((k + if now then 64 else 0 : Nat) : Int)) (hx2 : x < 256) (hf : fl < 256) (hw : words < 256) (hd : data < 16777216) : mapB (headB k now fl words data) =
    #[.int .u8 x, .int .u8 fl, .int .u8 0, .int .u8 0, .int .u8 words, .int .u8 ((data : Int) / 65536), .int .u8 ((data : Int) / 256 % 256), .int .u8 ((data : Int) % 256), .int .u8 0, .int .u8 0, .int .u8 0, .int .u8 0, .int .u8 0, .int .u8 0, .int .u8 0, .int .u8 0, .int .u8 0, .int .u8 0, .int .u8 0, .int .u8 0, .int .u8 0, .int .u8 0, .int .u8 0, .int .u8 0, .int .u8 0, .int .u8 0, .int .u8 0, .int .u8 0, .int .u8 0, .int .u8 0, .int .u8 0, .int .u8 0, .int .u8 0, .int .u8 0, .int .u8 0, .int .u8 0, .int .u8 0, .int .u8 0, .int .u8 0, .int .u8 0, .int .u8 0, .int .u8 0, .int .u8 0, .int .u8 0, .int .u8 0, .int .u8 0, .int .u8 0, .int .u8 0] := by
  have e0 : (((k + if now then 64 else 0 : Nat) : Int) % 256) = x := by rw [← hx]; exact Int.emod_eq_of_lt (by omega) hx2
  have e1 : ((fl : Int) % 256) = fl := Int.emod_eq_of_lt (by omega) (by omega)
  have e2 : ((words : Int) % 256) = words := Int.emod_eq_of_lt (by omega) (by omega)
  have e3 : (((data / 65536 : Nat) : Int) % 256) = (data : Int) / 65536 := by omega
  have e4 : (((data / 256 : Nat) : Int) % 256) = (data : Int) / 256 % 256 := by omega
  show #[byteV (UInt8.ofNat (k + if now then 64 else 0)), byteV (UInt8.ofNat fl), .int .u8 0, .int .u8 0, byteV (UInt8.ofNat words), byteV (UInt8.ofNat (data / 65536)), byteV (UInt8.ofNat (data / 256)), byteV (UInt8.ofNat data), .int .u8 0, .int .u8 0, .int .u8 0, .int .u8 0, .int .u8 0, .int .u8 0, .int .u8 0, .int .u8 0, .int .u8 0, .int .u8 0, .int .u8 0, .int .u8 0, .int .u8 0, .int .u8 0, .int .u8 0, .int .u8 0, .int .u8 0, .int .u8 0, .int .u8 0, .int .u8 0, .int .u8 0, .int .u8 0, .int .u8 0, .int .u8 0, .int .u8 0, .int .u8 0, .int .u8 0, .int .u8 0, .int .u8 0, .int .u8 0, .int .u8 0, .int .u8 0, .int .u8 0, .int .u8 0, .int .u8 0, .int .u8 0, .int .u8 0, .int .u8 0, .int .u8 0, .int .u8 0] = _
  rw [byteV_ofNat, byteV_ofNat, byteV_ofNat, byteV_ofNat, byteV_ofNat, byteV_ofNat, e0, e1, e2, e3, e4]
theorem Step.cell {b : Nat} {X Y : World} (h : Step b X Y) {p : Addr} {v : Value} (hp : p.block ≠ b) (hc : X.cell? p = some v) : Y.cell? p = some v := by
  obtain ⟨o, ho, _⟩ := cells_of_cell hc
  exact (World.cell?_of_block (h.block p.block hp (Array.getElem?_eq_some_iff.1 ho).1)).trans hc
theorem Blk.setRow {w : World} {g : Nat} {t : TypeId} {cs : Array Value} (h : Blk w g t cs) (ds : Array Value) : Blk (w.setRow g ds) g t ds := by
  have h2 : w.heap[g]? = some (.cells cs t (0, 0)) := h
  show (w.setRow g ds).heap[g]? = some (.cells ds t (0, 0))
  simp only [World.setRow, Array.getElem?_modify, if_pos, h2, Option.map_some]
theorem mapB_size (l : List UInt8) : (mapB l).size = l.length := by simp [mapB]
theorem mapB_lay (l s : List UInt8) (p : Nat) : ((mapB l).toList.take p ++ Lib.byteCells s ++ (mapB l).toList.drop (p + s.length)).toArray = mapB (layAt l p s) := by
  simp only [mapB, layAt, List.map_append, List.map_take, List.map_drop, Lib.byteCells, List.toList_toArray]
  rfl
theorem layAll_snoc : ∀ (fs : FieldL) (vs : List Nat) (b : List UInt8) (k : Nat) (f : List UInt8 × Nat × Nat) (x : Nat), fs[k]? = some f → vs[k]? = some x → layAll b (fs.take (k + 1)) (vs.take (k + 1)) = layAt (layAll b (fs.take k) (vs.take k)) f.2.1 (putB x f.2.2)
  | [], vs, b, k, f, x, hf, hx => by simp at hf
  | g :: fs, [], b, k, f, x, hf, hx => by simp at hx
  | g :: fs, y :: vs, b, 0, f, x, hf, hx => by
    simp only [List.getElem?_cons_zero, Option.some.injEq] at hf hx
    subst hf hx
    simp only [List.take_succ_cons, List.take_zero, layAll]
  | g :: fs, y :: vs, b, k + 1, f, x, hf, hx => by
    rw [List.take_succ_cons, List.take_succ_cons, layAll, layAll_snoc fs vs _ k f x (by simpa using hf) (by simpa using hx), List.take_succ_cons, List.take_succ_cons, layAll]
theorem okAll_take : ∀ (fs : FieldL) (k : Nat), okAll fs = true → okAll (fs.take k) = true
  | [], k, _ => by simp [okAll]
  | f :: fs, 0, _ => rfl
  | f :: fs, k + 1, h => by
    simp only [okAll, Bool.and_eq_true] at h
    simp only [List.take_succ_cons, okAll, Bool.and_eq_true]
    refine ⟨⟨h.1.1, ?_⟩, okAll_take fs k h.2⟩
    rw [List.all_eq_true] at *
    exact fun g hg => h.1.2 g (List.mem_of_mem_take hg)
theorem put_to (n k : Nat) (S : ByteArray) (hS : S = ⟨(putB n k).toArray⟩) (w : World) (hk8 : k ≤ 8) (hn : n < 2 ^ (8 * k)) (hn2 : n < 18446744073709551616) : Calls Tryz.prog 104 #[.int .u64 n, .int .i64 k] w fun e w' => e = .returned (.tuple #[.string S, .nilIface]) ∧ Below w.heap.size w w' := by
  rw [hS]
  exact put_ok n k w (by omega) (by omega) (by omega) (by exact_mod_cast hn) (by omega)
theorem calls_named {P : Program} {f : FuncId} {args : Array Value} {w1 : World} {o : Obj} {R : Ending → World → Prop} (h : ∀ w2, w1.alloc o = w2 → Calls P f args w2 R) : Calls P f args (w1.alloc o) R := h _ rfl
theorem range_fits : ∀ (fs : FieldL) (vs : List Nat) (i : Nat), rangeGo fs vs i = none → ∀ (k : Nat) (f : List UInt8 × Nat × Nat) (x : Nat), fs[k]? = some f → vs[k]? = some x → f.2.2 < 8 → x / 2 ^ (8 * f.2.2) = 0
  | [], vs, i, h, k, f, x, hf, hx, h8 => by simp at hf
  | g :: fs, [], i, h, k, f, x, hf, hx, h8 => by simp at hx
  | g :: fs, y :: vs, i, h, 0, f, x, hf, hx, h8 => by
    simp only [List.getElem?_cons_zero, Option.some.injEq] at hf hx
    subst hf hx
    rw [rangeGo] at h
    by_cases hc : g.2.2 < 8 ∧ y / 2 ^ (8 * g.2.2) ≠ 0
    · rw [if_pos hc] at h; cases h
    · rcases Nat.eq_zero_or_pos (y / 2 ^ (8 * g.2.2)) with h0 | h0
      · exact h0
      · exact absurd ⟨h8, by omega⟩ hc
  | g :: fs, y :: vs, i, h, k + 1, f, x, hf, hx, h8 => by
    rw [rangeGo] at h
    by_cases hc : g.2.2 < 8 ∧ y / 2 ^ (8 * g.2.2) ≠ 0
    · rw [if_pos hc] at h; cases h
    · rw [if_neg hc] at h
      exact range_fits fs vs (i + 1) h k f x (by simpa using hf) (by simpa using hx) h8
theorem right_parts {op : Int} {now : Bool} {fl : Int} {vals : List Nat} {r : HeadR} (hrow : headRow op = some r) (h : rightR op now fl vals = none) :
    badR r op now fl = false ∧ r.2.2.2.length = vals.length ∧ rangeGo r.2.2.2 vals 0 = none := by
  rw [rightR, hrow] at h
  simp only at h
  rcases hb : badR r op now fl with _ | _
  · rw [hb, if_neg (by decide)] at h
    by_cases hl : r.2.2.2.length = vals.length
    · rw [if_neg (fun h => h hl)] at h
      exact ⟨rfl, hl, h⟩
    · rw [if_pos hl] at h; cases h
  · rw [hb, if_pos rfl] at h; cases h
theorem fits_of {fs : FieldL} {vs : List Nat} (h : rangeGo fs vs 0 = none) (hok : okAll fs = true) (hl : ∀ x ∈ vs, x < 18446744073709551616) (k : Nat) (f : List UInt8 × Nat × Nat) (x : Nat) (hf : fs[k]? = some f) (hx : vs[k]? = some x) : x < 2 ^ (8 * f.2.2) := by
  have hk := okAll_mem fs hok f (List.mem_of_getElem? hf)
  simp only [okF, Bool.and_eq_true, decide_eq_true_eq] at hk
  by_cases h8 : f.2.2 < 8
  · have := range_fits fs vs 0 h k f x hf hx h8
    exact (Nat.div_eq_zero_iff.1 this).resolve_left (fun e => by have := Nat.two_pow_pos (8 * f.2.2); omega)
  · have e8 : f.2.2 = 8 := by omega
    rw [e8]
    have := hl x (List.mem_of_getElem? hx)
    omega
set_option maxRecDepth 20000 in
set_option maxHeartbeats 2000000 in
theorem write_ok (op : Int) (now : Bool) (fl : Nat) (vals : List Nat) (v : Value) (words data : Nat) (r : HeadR) (w : World) (h0 : -9223372036854775808 ≤ op ∧ op ≤ 9223372036854775807) (hf : fl < 256) (hv : SRd w v 1 vals.length (vals.map u64V)) (hl : ∀ x ∈ vals, x < 18446744073709551616) (T : Tabs w) (hS : w.ShapedOpen Tryz.prog)
    (hrow : headRow op = some r) (hr : rightR op now fl vals = none) (hw : words < 256) (hd : data < 16777216) :
    Calls Tryz.prog 85 #[.agg #[.int .i64 op, .bool now, .int .i64 fl, v], .int .i64 words, .int .i64 data] w fun e w' =>
      e = .returned (.tuple #[.string ⟨(layAll (headB r.1 now fl words data) r.2.2.2 vals).toArray⟩, .nilIface]) ∧ Below w.heap.size w w' := by
  have hop := headRow_op hrow
  have hrm := headRow_mem hrow
  subst hop
  obtain ⟨HB, hHB⟩ : ∃ HB, headB r.1 now fl words data = HB := ⟨_, rfl⟩
  have hHz : HB.length = 48 := by rw [← hHB]; rfl
  have hr64 := headT_small r hrm
  have hcells : mapB HB = _ := (congrArg mapB hHB).symm.trans (headB_cells r.1 fl words data now (if now then bits .or .u8 (r.1 : Int) 64 else r.1) (by
    cases now
    · simp
    · simpa using or64a ⟨r.1, hr64⟩) (by
    cases now
    · simp only [Bool.false_eq_true, if_false]; omega
    · have := or64a ⟨r.1, hr64⟩
      simp only at this
      simp only [if_true]
      omega) hf hw hd)
  rw [hHB]
  have HHB := Lib.hid hHB
  have HC := Lib.hid hcells
  clear hcells hHB
  obtain ⟨A, cap, rfl⟩ : ∃ A cap, v = .slice A vals.length cap := by obtain ⟨_, A, cap, hv, _⟩ := hv; exact ⟨A, cap, hv⟩
  have hb0 : Below w.heap.size w (w.alloc (.cells #[.int .i64 r.1, .bool now, .int .i64 fl, .slice A vals.length cap] 38)) := (Below.refl _ _).alloc (Nat.le_refl _) _
  have hB0 := Blk.new w 38 #[.int .i64 r.1, .bool now, .int .i64 fl, .slice A vals.length cap]
  obtain ⟨g, hg⟩ : ∃ g, w.heap.size = g := ⟨_, rfl⟩
  rw [hg] at hB0 hb0 ⊢
  have HR := Lib.hid hr
  have HROW := Lib.hid hrow
  clear hr hrow
  have hmk : ∀ w, (Instr.makeSlice 115 (.int .i64 48) (.int .i64 48)).run Tryz.prog w = .ok (.slice (some ⟨w.heap.size, 0, none⟩) 48 48) (w.alloc (.cells #[.int .u8 0, .int .u8 0, .int .u8 0, .int .u8 0, .int .u8 0, .int .u8 0, .int .u8 0, .int .u8 0, .int .u8 0, .int .u8 0, .int .u8 0, .int .u8 0, .int .u8 0, .int .u8 0, .int .u8 0, .int .u8 0, .int .u8 0, .int .u8 0, .int .u8 0, .int .u8 0, .int .u8 0, .int .u8 0, .int .u8 0, .int .u8 0, .int .u8 0, .int .u8 0, .int .u8 0, .int .u8 0, .int .u8 0, .int .u8 0, .int .u8 0, .int .u8 0, .int .u8 0, .int .u8 0, .int .u8 0, .int .u8 0, .int .u8 0, .int .u8 0, .int .u8 0, .int .u8 0, .int .u8 0, .int .u8 0, .int .u8 0, .int .u8 0, .int .u8 0, .int .u8 0, .int .u8 0, .int .u8 0] 5)) := fun w => by
    have hlit : zeros 48 = #[.int .u8 0, .int .u8 0, .int .u8 0, .int .u8 0, .int .u8 0, .int .u8 0, .int .u8 0, .int .u8 0, .int .u8 0, .int .u8 0, .int .u8 0, .int .u8 0, .int .u8 0, .int .u8 0, .int .u8 0, .int .u8 0, .int .u8 0, .int .u8 0, .int .u8 0, .int .u8 0, .int .u8 0, .int .u8 0, .int .u8 0, .int .u8 0, .int .u8 0, .int .u8 0, .int .u8 0, .int .u8 0, .int .u8 0, .int .u8 0, .int .u8 0, .int .u8 0, .int .u8 0, .int .u8 0, .int .u8 0, .int .u8 0, .int .u8 0, .int .u8 0, .int .u8 0, .int .u8 0, .int .u8 0, .int .u8 0, .int .u8 0, .int .u8 0, .int .u8 0, .int .u8 0, .int .u8 0, .int .u8 0] := by
      apply Array.ext'
      rw [zeros_list]
      rfl
    rw [← hlit]
    exact make_bytes 48 w (by decide)
  go_enter Tryz.func85, Tryz.ntmps85
  go_wp2_with fail
  obtain ⟨w0, hw0⟩ : ∃ w0 : World, w.alloc (.cells #[.int .i64 r.1, .bool now, .int .i64 fl, .slice A vals.length cap] 38) = w0 := ⟨_, rfl⟩
  rw [hw0] at hb0 hB0 ⊢
  clear hw0
  try rw [hg]
  have hgw : g ≤ w0.heap.size := Nat.le_of_lt hB0.lt
  have hb0' : Below w.heap.size w w0 := by rw [hg]; exact hb0
  refine (right_any r.1 now fl vals _ _ h0 (by omega) (hv.on hb0') hl (T.on hb0') (shaped_ons hS hb0')).mono ?_
  rintro e w1 ⟨er, rfl, her, hb1⟩
  rw [HR.out] at her
  obtain rfl : er = .nilIface := her
  have hbw1 : Below g w w1 := hb0.trans (hb1.mono hgw)
  have hB1 := hB0.below hb1 hB0.lt
  have hg1 := hB1.lt
  have hne : g ≠ w1.heap.size := by omega
  have hne2 : w1.heap.size ≠ g := by omega
  have d0 : ∀ o, (w1.alloc o).cell? ⟨g, 0, none⟩ = some (.int .i64 r.1) := fun o => (hB1.alloc o).cell 0
  have d1 : ∀ o, (w1.alloc o).cell? ⟨g, 1, none⟩ = some (.bool now) := fun o => (hB1.alloc o).cell 1
  have d2 : ∀ o, (w1.alloc o).cell? ⟨g, 2, none⟩ = some (.int .i64 fl) := fun o => (hB1.alloc o).cell 2
  clear hB0 hb0 hb0' hb1
  obtain ⟨hbad, hvl, hrg⟩ := right_parts HROW.out HR.out
  have hok := headT_ok r hrm
  have HFIT := Lib.hid (fits_of hrg hok hl)
  have HOK := Lib.hid hok
  obtain ⟨N, hN⟩ : ∃ N, r.2.2.2.length = N := ⟨_, rfl⟩
  have hNv : vals.length = N := by omega
  clear hrg hok hbad
  rcases now with _ | _
  · skip
    go_wp2_with fail
    refine calls_named ?_
    intro w2 hw2
    have hBb : Blk w2 w1.heap.size 5 (mapB HB) := by
      rw [HC.out, ← hw2]
      exact Blk.new _ _ _
    have hBh : Blk w2 g 38 #[.int .i64 r.1, .bool false, .int .i64 fl, .slice A vals.length cap] := by rw [← hw2]; exact hB1.alloc _
    have hbw2 : Below g w w2 := by rw [← hw2]; exact hbw1.alloc (by omega) _
    obtain ⟨gb, hgb⟩ : ∃ gb, w1.heap.size = gb := ⟨_, rfl⟩
    rw [hgb] at hBb hg1 hne hne2 ⊢
    have hbw2' : Below w.heap.size w w2 := by rw [hg]; exact hbw2
    clear hw2 d0 d1 d2 hB1
    refine (fields_any r.1 _ h0 (T.on hbw2') (shaped_ons hS hbw2')).mono ?_
    rintro e w3 ⟨hfi, hb3⟩
    rw [HROW.out] at hfi
    obtain ⟨lv, rfl, hrow⟩ := hfi
    have hBb3 := hBb.below hb3 hBb.lt
    have hBh3 := hBh.below hb3 hBh.lt
    have hbw3 : Below g w w3 := hbw2.trans (hb3.mono (Nat.le_of_lt hBh.lt))
    have hgb2 : gb < w2.heap.size := hBb.lt
    have hpos := headT_pos r hrm
    obtain ⟨lb, lcap, rfl, hlbg, hlc, hlm⟩ : ∃ lb lcap, lv = .slice (some ⟨lb, 0, none⟩) N lcap ∧ w2.heap.size ≤ lb ∧ N ≤ lcap ∧ lcap ≤ maxLen := by
      rcases hrow.2 with ⟨_, h⟩ | ⟨lb, lcap, cur, h1, h2, h3, h4, h5, _⟩
      · omega
      · exact ⟨lb, lcap, by rw [h1, hN], h2, by omega, h5⟩
    unfold maxLen at hlm
    have hlcell : ∀ j u, (fCells r.2.2.2)[j]? = some u → w3.cell? ⟨lb, j, none⟩ = some u := by
      have hrow' := hrow
      unfold FRow at hrow'
      rw [hN] at hrow'
      exact fun j u hu => hrow'.cellAt j u hu
    have HLC := Lib.hid hlcell
    obtain ⟨hvz, VA, vcap, hVV, hvc, hvm, hvA⟩ := hv.on (show Below w.heap.size w w3 by rw [hg]; exact hbw3)
    injection hVV with hV1 hV2 hV3
    subst hV1 hV3
    obtain ⟨vb, vo, hAA, _, hvcc⟩ := hvA (by omega)
    have hvbg : vb < g := by
      obtain ⟨_, A2, c2, hVV2, _, _, hvA2⟩ := hv
      injection hVV2 with k1 k2 k3
      obtain ⟨vb2, vo2, h4, h5, _⟩ := hvA2 (by omega)
      rw [← k1, hAA] at h4
      injection h4 with h4
      injection h4 with h4
      omega
    subst hAA
    have HVC := Lib.hid hvcc
    rw [hNv] at hBh3
    have hvc2 : N ≤ cap := by omega
    unfold maxLen at hvm
    clear hlcell hvA hvcc hrow hb3 hBb hBh hbw2 hbw2' hbw1 hvz hV2 hvc
    go_wp2_with fail
    go_loopw [80] (fun i wr => ∃ k : Nat, k ≤ N ∧ i = .int .i64 k ∧ Step gb w3 wr ∧ Blk wr gb 5 (mapB (layAll HB (r.2.2.2.take k) (vals.take k)))) (fun i _ => N - (intOf i).toNat)
    case atStart => exact ⟨0, Nat.zero_le _, rfl, Step.refl _ _, by rw [List.take_zero, List.take_zero]; exact hBb3⟩
    case round =>
      obtain ⟨k, hk, rfl, hst, hBk⟩ := hrel
      have hlz : (layAll HB (r.2.2.2.take k) (vals.take k)).length = 48 := layAll_len _ _ _ (okAll_take _ _ HOK.out) hHz
      obtain ⟨LK, hLK⟩ : ∃ LK, layAll HB (r.2.2.2.take k) (vals.take k) = LK := ⟨_, rfl⟩
      rw [hLK] at hBk hlz
      have HLK := Lib.hid hLK
      have hs3 := hst.size
      have hg3 := hBh3.lt
      clear hLK
      by_cases hlt : k < N
      · obtain ⟨f, hf⟩ : ∃ f, r.2.2.2[k]? = some f := ⟨_, List.getElem?_eq_getElem (by omega)⟩
        obtain ⟨x, hx⟩ : ∃ x, vals[k]? = some x := ⟨_, List.getElem?_eq_getElem (by omega)⟩
        have hok := okAll_mem _ HOK.out f (List.mem_of_getElem? hf)
        simp only [okF, Bool.and_eq_true, decide_eq_true_eq] at hok
        have hk8 : f.2.2 ≤ 8 := hok.2
        have hk1 : 1 ≤ f.2.2 := hok.1.2
        have hat : f.2.1 + f.2.2 ≤ 48 := hok.1.1.1.2
        have hc := fCells_at _ _ _ hf
        have e0 : wr.cell? ⟨lb, 3 * k, none⟩ = some (.string ⟨f.1.toArray⟩) := hst.cell (by simp only; omega) (HLC.out _ _ hc.1)
        have e1 : wr.cell? ⟨lb, 3 * k + 1, none⟩ = some (.int .i64 f.2.1) := hst.cell (by simp only; omega) (HLC.out _ _ hc.2.1)
        have e2 : wr.cell? ⟨lb, 3 * k + 2, none⟩ = some (.int .i64 f.2.2) := hst.cell (by simp only; omega) (HLC.out _ _ hc.2.2)
        rw [Nat.mul_comm] at e0 e1 e2
        have ev : wr.cell? ⟨vb, vo + k, none⟩ = some (.int .u64 x) := hst.cell (by simp only; omega) (HVC.out k (u64V x) (by rw [List.getElem?_map, hx]; rfl))
        have d3 : wr.cell? ⟨g, 3, none⟩ = some (.slice (some ⟨vb, vo, none⟩) N cap) := hst.cell (by simp only; omega) (hBh3.cell 3)
        have hxl := hl x (List.mem_of_getElem? hx)
        have hfit := HFIT.out k f x hf hx
        have hsn := layAll_snoc r.2.2.2 vals HB k f x hf hx
        rw [HLK.out] at hsn
        have HSN := Lib.hid hsn
        have hgr : g < wr.heap.size := by omega
        have hvbr : vb < wr.heap.size := by omega
        clear hsn hok hc hf hx HLK
        go_wp2_with fail
        have hb4 : Below wr.heap.size wr (wr.alloc (.cells #[.string ⟨f.1.toArray⟩, .int .i64 f.2.1, .int .i64 f.2.2] 154)) := (Below.refl _ _).alloc (Nat.le_refl _) _
        have hBf := Blk.new wr 154 #[.string ⟨f.1.toArray⟩, .int .i64 f.2.1, .int .i64 f.2.2]
        obtain ⟨w4, hw4⟩ : ∃ w4 : World, wr.alloc (.cells #[.string ⟨f.1.toArray⟩, .int .i64 f.2.1, .int .i64 f.2.2] 154) = w4 := ⟨_, rfl⟩
        obtain ⟨G, hG⟩ : ∃ G, wr.heap.size = G := ⟨_, rfl⟩
        rw [hw4] at hb4 hBf ⊢
        rw [hG] at hBf ⊢
        have hst4 : Step gb w3 w4 := hst.trans (.of_below hb4)
        have hBk4 := hBk.below hb4 hBk.lt
        have d34 := (hb4.cell (p := ⟨g, 3, none⟩) hgr).trans d3
        have ev4 := (hb4.cell (p := ⟨vb, vo + k, none⟩) hvbr).trans ev
        have hg4 : g < w4.heap.size := Nat.lt_of_lt_of_le hgr hb4.size
        have hv4 : vb < w4.heap.size := Nat.lt_of_lt_of_le hvbr hb4.size
        have hf4 := hBf.lt
        have hk4 := hBk4.lt
        obtain ⟨S, hS⟩ : ∃ S : ByteArray, S = ⟨(putB x f.2.2).toArray⟩ := ⟨_, rfl⟩
        have hSz : S.size = f.2.2 := by rw [hS, size_mkl, putB_len]
        have HS := Lib.hid hS
        have q3 : ∀ i : BW w4, i.v.cell? ⟨g, 3, none⟩ = some (.slice (some ⟨vb, vo, none⟩) N cap) := fun i => (i.h.cell (p := ⟨g, 3, none⟩) hg4).trans d34
        have qv : ∀ i : BW w4, i.v.cell? ⟨vb, vo + k, none⟩ = some (.int .u64 x) := fun i => (i.h.cell (p := ⟨vb, vo + k, none⟩) hv4).trans ev4
        have q2 : ∀ i : BW w4, i.v.cell? ⟨G, 2, none⟩ = some (.int .i64 f.2.2) := fun i => (hBf.below i.h hf4).cell 2
        have q1 : ∀ i : BW w4, i.v.cell? ⟨G, 1, none⟩ = some (.int .i64 f.2.1) := fun i => (hBf.below i.h hf4).cell 1
        have qc : ∀ (i : BW w4) ty, (Builtin.copy_ #[115, 9] ty #[.slice (some ⟨gb, f.2.1, none⟩) (48 - f.2.1) (48 - f.2.1), .string S]).run Tryz.prog i.v = .ok (goInt S.size) (i.v.setRow gb ((mapB LK).toList.take f.2.1 ++ Lib.byteCells S.data.toList ++ (mapB LK).toList.drop (f.2.1 + S.size)).toArray) := fun i ty =>
          Lib.run_copy_row_string i.v 115 9 ty 5 gb f.2.1 (48 - f.2.1) (48 - f.2.1) S (mapB LK) 5 Tryz.underlying115 (by kernel_rfl) (hBk4.below i.h hk4) (by omega) (by rw [mapB_size]; omega)
        clear e0 e1 e2 ev d3 d34 ev4 hb4 hst hBk hw4 hS hBf
        go_wp2_with fail
        refine wp_region_quietB (by kernel_rfl) (by kernel_rfl) ?_
        repeat (first | go_big_quiet_skip | (go_big_quiet_want; go_big_quiet_op; first | go_big_quiet_on | (apply Exists.intro; refine ⟨fun _ => ?_, ?_⟩; ((go_at_call 104; with_reducible exact calls_bw (put_to x f.2.2 S HS.out _ (by omega) hfit (by omega)))); go_big_quiet_on)))
        refine wpQuiet_nil ?_
        rintro _ ⟨iq, rfl⟩
        go_wp2_with fail
        go_roundw
        case rel =>
          refine ⟨k + 1, by omega, by go_num, (hst4.trans (.of_below iq.h)).trans (Step.setRow _ _ _), ?_⟩
          have e := mapB_lay LK (putB x f.2.2) f.2.1
          have hSd : S.data.toList = putB x f.2.2 := by rw [HS.out]
          rw [putB_len] at e
          rw [HSN.out, ← e, List.append_assoc, hSd]
          exact (hBk4.below iq.h hk4).setRow _
        case measure => simp [intOf]; omega
      · have hfull : LK = layAll HB r.2.2.2 vals := by
          rw [← HLK.out, List.take_of_length_le (by omega), List.take_of_length_le (by omega)]
        have hcv : (convert 115 9 (.slice (some ⟨gb, 0, none⟩) 48 48)).run Tryz.prog wr = .ok (.string ⟨LK.toArray⟩) wr := by
          have := blkM_string (l := LK) (cap := 48) (more := []) (w := wr) (g := gb) (by rw [List.append_nil]; exact BlkM.of_blk hBk)
          rw [hlz] at this
          exact this
        have hfin : Below g w wr := hbw3.trans (hst.below (by omega) (by omega))
        have HF := Lib.hid hfull
        clear hfull HLK hst hBk
        go_wp2_with fail
        go_ret2
        exact ⟨by rw [HF.out]; rfl, hfin⟩
  · skip
    go_wp2_with fail
    refine calls_named ?_
    intro w2 hw2
    have hBb : Blk w2 w1.heap.size 5 (mapB HB) := by
      rw [HC.out, ← hw2]
      exact Blk.new _ _ _
    have hBh : Blk w2 g 38 #[.int .i64 r.1, .bool true, .int .i64 fl, .slice A vals.length cap] := by rw [← hw2]; exact hB1.alloc _
    have hbw2 : Below g w w2 := by rw [← hw2]; exact hbw1.alloc (by omega) _
    obtain ⟨gb, hgb⟩ : ∃ gb, w1.heap.size = gb := ⟨_, rfl⟩
    rw [hgb] at hBb hg1 hne hne2 ⊢
    have hbw2' : Below w.heap.size w w2 := by rw [hg]; exact hbw2
    clear hw2 d0 d1 d2 hB1
    refine (fields_any r.1 _ h0 (T.on hbw2') (shaped_ons hS hbw2')).mono ?_
    rintro e w3 ⟨hfi, hb3⟩
    rw [HROW.out] at hfi
    obtain ⟨lv, rfl, hrow⟩ := hfi
    have hBb3 := hBb.below hb3 hBb.lt
    have hBh3 := hBh.below hb3 hBh.lt
    have hbw3 : Below g w w3 := hbw2.trans (hb3.mono (Nat.le_of_lt hBh.lt))
    have hgb2 : gb < w2.heap.size := hBb.lt
    have hpos := headT_pos r hrm
    obtain ⟨lb, lcap, rfl, hlbg, hlc, hlm⟩ : ∃ lb lcap, lv = .slice (some ⟨lb, 0, none⟩) N lcap ∧ w2.heap.size ≤ lb ∧ N ≤ lcap ∧ lcap ≤ maxLen := by
      rcases hrow.2 with ⟨_, h⟩ | ⟨lb, lcap, cur, h1, h2, h3, h4, h5, _⟩
      · omega
      · exact ⟨lb, lcap, by rw [h1, hN], h2, by omega, h5⟩
    unfold maxLen at hlm
    have hlcell : ∀ j u, (fCells r.2.2.2)[j]? = some u → w3.cell? ⟨lb, j, none⟩ = some u := by
      have hrow' := hrow
      unfold FRow at hrow'
      rw [hN] at hrow'
      exact fun j u hu => hrow'.cellAt j u hu
    have HLC := Lib.hid hlcell
    obtain ⟨hvz, VA, vcap, hVV, hvc, hvm, hvA⟩ := hv.on (show Below w.heap.size w w3 by rw [hg]; exact hbw3)
    injection hVV with hV1 hV2 hV3
    subst hV1 hV3
    obtain ⟨vb, vo, hAA, _, hvcc⟩ := hvA (by omega)
    have hvbg : vb < g := by
      obtain ⟨_, A2, c2, hVV2, _, _, hvA2⟩ := hv
      injection hVV2 with k1 k2 k3
      obtain ⟨vb2, vo2, h4, h5, _⟩ := hvA2 (by omega)
      rw [← k1, hAA] at h4
      injection h4 with h4
      injection h4 with h4
      omega
    subst hAA
    have HVC := Lib.hid hvcc
    rw [hNv] at hBh3
    have hvc2 : N ≤ cap := by omega
    unfold maxLen at hvm
    clear hlcell hvA hvcc hrow hb3 hBb hBh hbw2 hbw2' hbw1 hvz hV2 hvc
    go_wp2_with fail
    go_loopw [80] (fun i wr => ∃ k : Nat, k ≤ N ∧ i = .int .i64 k ∧ Step gb w3 wr ∧ Blk wr gb 5 (mapB (layAll HB (r.2.2.2.take k) (vals.take k)))) (fun i _ => N - (intOf i).toNat)
    case atStart => exact ⟨0, Nat.zero_le _, rfl, Step.refl _ _, by rw [List.take_zero, List.take_zero]; exact hBb3⟩
    case round =>
      obtain ⟨k, hk, rfl, hst, hBk⟩ := hrel
      have hlz : (layAll HB (r.2.2.2.take k) (vals.take k)).length = 48 := layAll_len _ _ _ (okAll_take _ _ HOK.out) hHz
      obtain ⟨LK, hLK⟩ : ∃ LK, layAll HB (r.2.2.2.take k) (vals.take k) = LK := ⟨_, rfl⟩
      rw [hLK] at hBk hlz
      have HLK := Lib.hid hLK
      have hs3 := hst.size
      have hg3 := hBh3.lt
      clear hLK
      by_cases hlt : k < N
      · obtain ⟨f, hf⟩ : ∃ f, r.2.2.2[k]? = some f := ⟨_, List.getElem?_eq_getElem (by omega)⟩
        obtain ⟨x, hx⟩ : ∃ x, vals[k]? = some x := ⟨_, List.getElem?_eq_getElem (by omega)⟩
        have hok := okAll_mem _ HOK.out f (List.mem_of_getElem? hf)
        simp only [okF, Bool.and_eq_true, decide_eq_true_eq] at hok
        have hk8 : f.2.2 ≤ 8 := hok.2
        have hk1 : 1 ≤ f.2.2 := hok.1.2
        have hat : f.2.1 + f.2.2 ≤ 48 := hok.1.1.1.2
        have hc := fCells_at _ _ _ hf
        have e0 : wr.cell? ⟨lb, 3 * k, none⟩ = some (.string ⟨f.1.toArray⟩) := hst.cell (by simp only; omega) (HLC.out _ _ hc.1)
        have e1 : wr.cell? ⟨lb, 3 * k + 1, none⟩ = some (.int .i64 f.2.1) := hst.cell (by simp only; omega) (HLC.out _ _ hc.2.1)
        have e2 : wr.cell? ⟨lb, 3 * k + 2, none⟩ = some (.int .i64 f.2.2) := hst.cell (by simp only; omega) (HLC.out _ _ hc.2.2)
        rw [Nat.mul_comm] at e0 e1 e2
        have ev : wr.cell? ⟨vb, vo + k, none⟩ = some (.int .u64 x) := hst.cell (by simp only; omega) (HVC.out k (u64V x) (by rw [List.getElem?_map, hx]; rfl))
        have d3 : wr.cell? ⟨g, 3, none⟩ = some (.slice (some ⟨vb, vo, none⟩) N cap) := hst.cell (by simp only; omega) (hBh3.cell 3)
        have hxl := hl x (List.mem_of_getElem? hx)
        have hfit := HFIT.out k f x hf hx
        have hsn := layAll_snoc r.2.2.2 vals HB k f x hf hx
        rw [HLK.out] at hsn
        have HSN := Lib.hid hsn
        have hgr : g < wr.heap.size := by omega
        have hvbr : vb < wr.heap.size := by omega
        clear hsn hok hc hf hx HLK
        go_wp2_with fail
        have hb4 : Below wr.heap.size wr (wr.alloc (.cells #[.string ⟨f.1.toArray⟩, .int .i64 f.2.1, .int .i64 f.2.2] 154)) := (Below.refl _ _).alloc (Nat.le_refl _) _
        have hBf := Blk.new wr 154 #[.string ⟨f.1.toArray⟩, .int .i64 f.2.1, .int .i64 f.2.2]
        obtain ⟨w4, hw4⟩ : ∃ w4 : World, wr.alloc (.cells #[.string ⟨f.1.toArray⟩, .int .i64 f.2.1, .int .i64 f.2.2] 154) = w4 := ⟨_, rfl⟩
        obtain ⟨G, hG⟩ : ∃ G, wr.heap.size = G := ⟨_, rfl⟩
        rw [hw4] at hb4 hBf ⊢
        rw [hG] at hBf ⊢
        have hst4 : Step gb w3 w4 := hst.trans (.of_below hb4)
        have hBk4 := hBk.below hb4 hBk.lt
        have d34 := (hb4.cell (p := ⟨g, 3, none⟩) hgr).trans d3
        have ev4 := (hb4.cell (p := ⟨vb, vo + k, none⟩) hvbr).trans ev
        have hg4 : g < w4.heap.size := Nat.lt_of_lt_of_le hgr hb4.size
        have hv4 : vb < w4.heap.size := Nat.lt_of_lt_of_le hvbr hb4.size
        have hf4 := hBf.lt
        have hk4 := hBk4.lt
        obtain ⟨S, hS⟩ : ∃ S : ByteArray, S = ⟨(putB x f.2.2).toArray⟩ := ⟨_, rfl⟩
        have hSz : S.size = f.2.2 := by rw [hS, size_mkl, putB_len]
        have HS := Lib.hid hS
        have q3 : ∀ i : BW w4, i.v.cell? ⟨g, 3, none⟩ = some (.slice (some ⟨vb, vo, none⟩) N cap) := fun i => (i.h.cell (p := ⟨g, 3, none⟩) hg4).trans d34
        have qv : ∀ i : BW w4, i.v.cell? ⟨vb, vo + k, none⟩ = some (.int .u64 x) := fun i => (i.h.cell (p := ⟨vb, vo + k, none⟩) hv4).trans ev4
        have q2 : ∀ i : BW w4, i.v.cell? ⟨G, 2, none⟩ = some (.int .i64 f.2.2) := fun i => (hBf.below i.h hf4).cell 2
        have q1 : ∀ i : BW w4, i.v.cell? ⟨G, 1, none⟩ = some (.int .i64 f.2.1) := fun i => (hBf.below i.h hf4).cell 1
        have qc : ∀ (i : BW w4) ty, (Builtin.copy_ #[115, 9] ty #[.slice (some ⟨gb, f.2.1, none⟩) (48 - f.2.1) (48 - f.2.1), .string S]).run Tryz.prog i.v = .ok (goInt S.size) (i.v.setRow gb ((mapB LK).toList.take f.2.1 ++ Lib.byteCells S.data.toList ++ (mapB LK).toList.drop (f.2.1 + S.size)).toArray) := fun i ty =>
          Lib.run_copy_row_string i.v 115 9 ty 5 gb f.2.1 (48 - f.2.1) (48 - f.2.1) S (mapB LK) 5 Tryz.underlying115 (by kernel_rfl) (hBk4.below i.h hk4) (by omega) (by rw [mapB_size]; omega)
        clear e0 e1 e2 ev d3 d34 ev4 hb4 hst hBk hw4 hS hBf
        go_wp2_with fail
        refine wp_region_quietB (by kernel_rfl) (by kernel_rfl) ?_
        repeat (first | go_big_quiet_skip | (go_big_quiet_want; go_big_quiet_op; first | go_big_quiet_on | (apply Exists.intro; refine ⟨fun _ => ?_, ?_⟩; ((go_at_call 104; with_reducible exact calls_bw (put_to x f.2.2 S HS.out _ (by omega) hfit (by omega)))); go_big_quiet_on)))
        refine wpQuiet_nil ?_
        rintro _ ⟨iq, rfl⟩
        go_wp2_with fail
        go_roundw
        case rel =>
          refine ⟨k + 1, by omega, by go_num, (hst4.trans (.of_below iq.h)).trans (Step.setRow _ _ _), ?_⟩
          have e := mapB_lay LK (putB x f.2.2) f.2.1
          have hSd : S.data.toList = putB x f.2.2 := by rw [HS.out]
          rw [putB_len] at e
          rw [HSN.out, ← e, List.append_assoc, hSd]
          exact (hBk4.below iq.h hk4).setRow _
        case measure => simp [intOf]; omega
      · have hfull : LK = layAll HB r.2.2.2 vals := by
          rw [← HLK.out, List.take_of_length_le (by omega), List.take_of_length_le (by omega)]
        have hcv : (convert 115 9 (.slice (some ⟨gb, 0, none⟩) 48 48)).run Tryz.prog wr = .ok (.string ⟨LK.toArray⟩) wr := by
          have := blkM_string (l := LK) (cap := 48) (more := []) (w := wr) (g := gb) (by rw [List.append_nil]; exact BlkM.of_blk hBk)
          rw [hlz] at this
          exact this
        have hfin : Below g w wr := hbw3.trans (hst.below (by omega) (by omega))
        have HF := Lib.hid hfull
        clear hfull HLK hst hBk
        go_wp2_with fail
        go_ret2
        exact ⟨by rw [HF.out]; rfl, hfin⟩
end Go.Proofs.YtamlepacljjpiaaGreatDoor

/- The contract of head.Read. -/
namespace Go.Proofs.YtamlepacljjpiaaGreatDoor
open Go.ChangeShapes Go.WideShapes Go.ChangeAt Go.RowKit Go.Shelf
set_option linter.unusedVariables false
theorem or_i64 (a b : Nat) (ha : a < 4294967296) (hb : b < 4294967296) : bits .or .i64 (a : Int) (b : Int) = ((a ||| b : Nat) : Int) := by
  show IntKind.i64.wrap ((BitVec.ofInt 64 a ||| BitVec.ofInt 64 b).toNat : Int) = _
  have h1 : (BitVec.ofInt 64 (a : Int)).toNat = a := by
    rw [BitVec.toNat_ofInt]
    have : ((2 ^ 64 : Nat) : Int) = 18446744073709551616 := by decide
    rw [this]; omega
  have h2 : (BitVec.ofInt 64 (b : Int)).toNat = b := by
    rw [BitVec.toNat_ofInt]
    have : ((2 ^ 64 : Nat) : Int) = 18446744073709551616 := by decide
    rw [this]; omega
  have h3 : a ||| b < 2 ^ 32 := Nat.or_lt_two_pow (by omega) (by omega)
  rw [BitVec.toNat_or, h1, h2, IntKind.wrap_i64]
  omega
theorem or_data (a b c : Nat) (ha : a < 256) (hb : b < 256) (hc : c < 256) : bits .or .i64 (bits .or .i64 ((a : Int) * 65536) ((b : Int) * 256)) (c : Int) = ((a * 65536 + b * 256 + c : Nat) : Int) := by
  have e1 : ((a : Int) * 65536) = ((a * 65536 : Nat) : Int) := by omega
  have e2 : ((b : Int) * 256) = ((b * 256 : Nat) : Int) := by omega
  have e3 : a * 65536 ||| b * 256 = a * 65536 + b * 256 := by
    have := Nat.two_pow_add_eq_or_of_lt (i := 16) (b := b * 256) (by omega) a
    simp only [Nat.reducePow] at this
    rw [Nat.mul_comm a 65536, ← this]
  have e4 : (a * 65536 + b * 256) ||| c = a * 65536 + b * 256 + c := by
    have := Nat.two_pow_add_eq_or_of_lt (i := 8) (b := c) (by omega) (a * 256 + b)
    simp only [Nat.reducePow] at this
    rw [show a * 65536 + b * 256 = 256 * (a * 256 + b) by omega, ← this]
  rw [e1, e2, or_i64 _ _ (by omega) (by omega), e3, or_i64 _ _ (by omega) (by omega), e4]
theorem and63 : ∀ k : Fin 256, bits .and .u8 (k.val : Int) 63 = ((k.val % 64 : Nat) : Int) := by decide +kernel
theorem and64 : ∀ k : Fin 128, (bits .and .u8 (k.val : Int) 64 != 0) = decide (64 ≤ k.val) := by decide +kernel
theorem results_s4 {P : Program} {fn : Func} {p a b c : Tmp} {ty : TypeId} (h : fn.results = #[.cell p ty, .tmp a, .tmp b, .tmp c]) (tmps : Array Value) (w : World) (g : Nat) (t : TypeId) (cs : Array Value) (d : TypeDesc) (va vb vc : Value)
    (hp : tmps.getD p undef = .pointer (some ⟨g, 0, none⟩)) (ha : tmps.getD a undef = va) (hb : tmps.getD b undef = vb) (hc : tmps.getD c undef = vc) (hg : Blk w g t cs)
    (hu : P.underlying ty = some d) (hd : (match d with | .struct _ | .array _ _ => true | _ => false) = true) (hi : (P.info? ty).map (·.size) = some cs.size) :
    (results fn tmps).run P w = .ok (.tuple #[.agg cs, va, vb, vc]) w := by
  have e : (results fn tmps).run P w = ((asAddr (tmps.getD p undef)).run P w).andThen fun x w₁ => ((loadVar ty x).run P w₁).andThen fun v w₂ => .ok (.tuple #[v, tmps.getD a undef, tmps.getD b undef, tmps.getD c undef]) w₂ := by
    simp only [results, h]
    simp [Sem.run_bind, Result.andThen]
  rw [e, hp, ha, hb, hc]
  have := run_loadVar_row (P := P) w g t ty cs (0, 0) d hg hu hd hi
  simp [asAddr, this]
theorem cell_new_u (w : World) (u : Value) (t : TypeId) : (w.alloc (.cells #[u] t)).cell? ((⟨w.heap.size, 0, none⟩ : Addr).add 0) = some u := by
  rw [Addr.add_lit, Nat.zero_add]
  exact (Blk.new w t #[u]).cell 0
theorem infoU64 : (Tryz.prog.info? 49).map (fun i => (i.zero, i.size, i.bytes)) = some (some (.int .u64 0), 1, 8) := by kernel_rfl
def VRow (w : World) (base : Nat) (v : Value) (l : List Nat) : Prop := MRow w base 49 1 v l.length (l.map u64V)
theorem wpList_append_u64 (w : World) {ops : Array Oper} {rest : List Oper} {o : Oper} {a : Act} {Q : Exit → Act → World → Prop} (hgd : o.guard = none) (s x : Operand)
    (ho : o.op = .call { callee := .builtin .append, args := #[s, x], argTypes := #[36, 36] })
    (base : Nat) (v : Value) (l : List Nat) (hs : a.eval s = v) (hown : VRow w base v l)
    (ad : Addr) (n : Nat) (c : Nat) (hx : a.eval x = .slice (some ad) 1 c) (hc : w.cell? (ad.add 0) = some (.int .u64 n))
    (hlen : l.length ≤ 1000) (hbase : base ≤ w.heap.size) {w0 : World} (hbel : Below base w0 w)
    (h : ∀ v' w', VRow w' base v' (l ++ [n]) → Below base w0 w' → wpList Tryz.prog ops Q rest (a.put o.dst v') w') : wpList Tryz.prog ops Q (o :: rest) a w := by
  obtain ⟨i0, hi, hz0, hz1, hz2⟩ := info_parts infoU64
  refine wpList_plain hgd fun _ hK => wp_append_m w s x _ ho base 49 i0 _ 1 8 Tryz.underlying36 hi hz0 hz1 hz2 rfl (by decide) v l.length _ hs hown ad 1 c [.int .u64 n] hx (by simp) ?_ ?_ (by unfold maxLen; omega) (by omega) hbase ?_
  · intro j u hu
    match j with
    | 0 => cases hu; exact hc
    | j + 1 => simp at hu
  · intro u hu
    simp at hu
    rcases hu with rfl
    rfl
  · intro v' w' r1 r2 r3
    refine hK _ _ (h v' w' ?_ (hbel.grown r2 hbase fun k hk => (hown.lt k hk).1))
    unfold VRow
    rw [List.length_append, List.map_append]
    exact r1
theorem Step.mrow {g : Nat} {X Y : World} {base : Nat} {e : TypeId} {size n : Nat} {v : Value} {xs : List Value} (h : Step g X Y) (hr : MRow X base e size v n xs) (hne : v.ownBlock ≠ some g) : MRow Y base e size v n xs :=
  hr.keep fun k hk => h.block k (fun e => hne (by rw [hk, e])) (hr.lt k hk).2
theorem Step.then_below {g n : Nat} {X Y Z : World} (h : Step g X Y) (k : Below n Y Z) (hn : X.heap.size ≤ n) : Step g X Z :=
  ⟨k.os.trans h.os, k.tape.trans h.tape, k.output.trans h.output, Nat.le_trans h.size k.size, fun i hi hl => (k.block i (by omega)).trans (h.block i hi hl)⟩
theorem Step.setCell (g i : Nat) (A : World) (v : Value) : Step g A (A.setCell ⟨g, i, none⟩ v) :=
  ⟨rfl, rfl, rfl, by simp [World.setCell], fun k hk _ => Below.heap_setCell A _ v k hk⟩
theorem VRow.store {w : World} {base g i : Nat} {v u : Value} {l : List Nat} (h : VRow w base v l) (hg : g < base) : VRow (w.setCell ⟨g, i, none⟩ u) base v l :=
  MRow.keep h fun k hk => Below.heap_setCell w _ u k (by have := (MRow.lt h k hk).1; simp only; omega)
theorem HErr.store {w : World} {base g i : Nat} {v u : Value} {E : Option (Nat × Option Nat)} (h : HErr w base v E) (hg : g < base) : HErr (w.setCell ⟨g, i, none⟩ u) base v E := by
  rcases E with _ | ⟨c, _ | p⟩
  · exact h
  · exact h
  · obtain ⟨k, h1, h2, h3⟩ := h
    exact ⟨k, h1, h2, h3.far (by simp only; omega) _⟩
theorem HErr.more {w : World} {base base' : Nat} {v : Value} {E : Option (Nat × Option Nat)} (h : HErr w base v E) (hb : base' ≤ base) : HErr w base' v E := by
  rcases E with _ | ⟨c, _ | p⟩
  · exact h
  · exact h
  · obtain ⟨k, h1, h2, h3⟩ := h
    exact ⟨k, by omega, h2, h3⟩
theorem HErr.iface {w : World} {base : Nat} {v : Value} {c : Nat} {o : Option Nat} (h : HErr w base v (some (c, o))) : ∃ t x, v = .iface t x := by
  rcases o with _ | p
  · exact ⟨_, _, h⟩
  · obtain ⟨k, h1, h2, h3⟩ := h
    exact ⟨_, _, h2⟩
theorem SRd.off {w : World} {A : Option Addr} {n n' cap size : Nat} {xs : List Value} (h : SRd w (.slice A n' cap) size n xs) (g : Nat) (hA : ∀ a, A = some a → a.block ≠ g) (i : Nat) (u : Value) : SRd (w.setCell ⟨g, i, none⟩ u) (.slice A n' cap) size n xs := by
  obtain ⟨h1, A', cap', hv, h2, h3, h4⟩ := h
  refine ⟨h1, A', cap', hv, h2, h3, fun hp => ?_⟩
  obtain ⟨b, o, ha, hb, hc⟩ := h4 hp
  injection hv with e1 e2 e3
  have hne := hA _ (e1.trans ha)
  refine ⟨b, o, ha, by simpa [World.setCell] using hb, fun j u hu => ?_⟩
  rw [← hc j u hu]
  exact World.cell?_of_block (w := w) (Below.heap_setCell w _ _ b hne)
def rB (l : List UInt8) (j : Nat) : Nat := (l.getD j 0).toNat
theorem rB_lt (l : List UInt8) (j : Nat) : rB l j < 256 := UInt8.toNat_lt _
theorem rB_at (s : ByteArray) (j : Nat) (h : j < s.size) : s[j].toNat = rB s.data.toList j := by
  unfold rB
  rw [List.getD_eq_getElem?_getD, List.getElem?_eq_getElem (by rw [len_of]; exact h)]
  rfl
def readE (l : List UInt8) : Option (Nat × Option Nat) :=
  if l.length ≠ 48 then some (7, none) else if 128 ≤ rB l 0 then some (3, none) else
  match headRow ((rB l 0 % 64 : Nat) : Int) with
  | none => some (1, none)
  | some r => match rightR ((rB l 0 % 64 : Nat) : Int) (decide (64 ≤ rB l 0)) (rB l 1) (readV r.2.2.2 l) with
    | some e => some e
    | none => if layAll (headB r.1 (decide (64 ≤ rB l 0)) (rB l 1) (rB l 4) (rB l 5 * 65536 + rB l 6 * 256 + rB l 7)) r.2.2.2 (readV r.2.2.2 l) = l then none else some (3, none)
def zeroH : Value := .agg #[.int .i64 0, .bool false, .int .i64 0, .slice none 0 0]
def readIs (w : World) (base : Nat) (l : List UInt8) (e : Ending) : Prop := ∃ hv wd dt er, e = .returned (.tuple #[hv, .int .i64 wd, .int .i64 dt, er]) ∧ HErr w base er (readE l) ∧
  (readE l ≠ none → hv = zeroH ∧ wd = 0 ∧ dt = 0) ∧
  (readE l = none → ∃ r v, headRow ((rB l 0 % 64 : Nat) : Int) = some r ∧ hv = .agg #[.int .i64 ((rB l 0 % 64 : Nat) : Int), .bool (decide (64 ≤ rB l 0)), .int .i64 (rB l 1), v] ∧
    SRd w v 1 (readV r.2.2.2 l).length ((readV r.2.2.2 l).map u64V) ∧ wd = (rB l 4 : Nat) ∧ dt = ((rB l 5 * 65536 + rB l 6 * 256 + rB l 7 : Nat) : Int) ∧ (∀ A n c, v = .slice A n c → ∀ a, A = some a → base ≤ a.block))
end Go.Proofs.YtamlepacljjpiaaGreatDoor

/- The contracts of what the laws on heads ask: slices.Equal, sameHead, nop, Write of what is wrong. -/
namespace Go.Proofs.YtamlepacljjpiaaGreatDoor
open Go.ChangeShapes Go.WideShapes Go.ChangeAt Go.RowKit Go.Shelf
set_option linter.unusedVariables false
theorem HErr.value {w : World} {base : Nat} {v : Value} {E : Nat × Option Nat} (h : HErr w base v (some E)) : ∃ t x, v = .iface t x := by
  obtain ⟨c, o⟩ := E
  exact h.iface
set_option maxRecDepth 20000 in
set_option maxHeartbeats 2000000 in
theorem write_wrong (op : Int) (now : Bool) (fl : Int) (vals : List Nat) (v : Value) (words data : Int) (E : Nat × Option Nat) (w : World) (h0 : -9223372036854775808 ≤ op ∧ op ≤ 9223372036854775807) (hf : -9223372036854775808 ≤ fl ∧ fl ≤ 9223372036854775807) (hv : SRd w v 1 vals.length (vals.map u64V)) (hl : ∀ x ∈ vals, x < 18446744073709551616) (T : Tabs w) (hS : w.ShapedOpen Tryz.prog)
    (hr : rightR op now fl vals = some E) :
    Calls Tryz.prog 85 #[.agg #[.int .i64 op, .bool now, .int .i64 fl, v], .int .i64 words, .int .i64 data] w fun e w' =>
      ∃ er, e = .returned (.tuple #[.string ⟨#[]⟩, er]) ∧ HErr w' w.heap.size er (some E) ∧ Below w.heap.size w w' := by
  obtain ⟨A, cap, rfl⟩ : ∃ A cap, v = .slice A vals.length cap := by obtain ⟨_, A, cap, hv, _⟩ := hv; exact ⟨A, cap, hv⟩
  have hb0 : Below w.heap.size w (w.alloc (.cells #[.int .i64 op, .bool now, .int .i64 fl, .slice A vals.length cap] 38)) := (Below.refl _ _).alloc (Nat.le_refl _) _
  have HR := Lib.hid hr
  clear hr
  go_enter Tryz.func85, Tryz.ntmps85
  go_wp2_with fail
  have hs0 := hb0.size
  refine (right_any op now fl vals _ _ h0 hf (hv.on hb0) hl (T.on hb0) (shaped_ons hS hb0)).mono ?_
  rintro e w1 ⟨er, rfl, her, hb1⟩
  rw [HR.out] at her
  obtain ⟨et, ex, rfl⟩ := her.value
  have hbw1 := below_step hb0 hb1
  have HH := Lib.hid (her.more hs0)
  clear her
  go_wp2_with fail
  go_ret2
  exact ⟨_, rfl, HH.out, hbw1⟩
def nopL : List Nat := [0, 7, 4294967295, 3, 4]
theorem SRd.lit5 {w : World} {g n : Nat} {t : TypeId} {cs : Array Value} {xs : List Value} (h : Blk w g t cs) (hx : cs.toList = xs := by rfl) (hn : xs.length = n * 1 := by rfl) (hm : n ≤ maxLen := by decide) : SRd w (.slice (some ⟨g, 0, none⟩) n n) 1 n xs := by
  refine ⟨hn, _, n, rfl, Nat.le_refl _, hm, fun _ => ⟨g, 0, rfl, h.lt, fun j u hu => ?_⟩⟩
  rw [Nat.zero_add, h.cell j, ← Array.getElem?_toList, hx]
  exact hu
theorem results_s1 {P : Program} {fn : Func} {p : Tmp} {ty : TypeId} (h : fn.results = #[.cell p ty]) (tmps : Array Value) (w : World) (g : Nat) (t : TypeId) (cs : Array Value) (d : TypeDesc)
    (hp : tmps.getD p undef = .pointer (some ⟨g, 0, none⟩)) (hg : Blk w g t cs)
    (hu : P.underlying ty = some d) (hd : (match d with | .struct _ | .array _ _ => true | _ => false) = true) (hi : (P.info? ty).map (·.size) = some cs.size) :
    (results fn tmps).run P w = .ok (.agg cs) w := by
  have e : (results fn tmps).run P w = ((asAddr (tmps.getD p undef)).run P w).andThen fun x w₁ => (loadVar ty x).run P w₁ := by
    simp only [results, h]
    simp [Sem.run_bind, Result.andThen]
  rw [e, hp]
  have := run_loadVar_row (P := P) w g t ty cs (0, 0) d hg hu hd hi
  simp [asAddr, this]
def nopS : List UInt8 := layAll (headB 0 true 128 1 5) ((headT.head?.map fun r => r.2.2.2).getD []) nopL
theorem nop_facts : ∃ r, headRow 0 = some r ∧ rightR 0 true 128 nopL = none ∧ layAll (headB r.1 true 128 1 5) r.2.2.2 nopL = nopS ∧ readE nopS = none ∧ readV r.2.2.2 nopS = nopL := by
  refine ⟨headT.head (by decide), ?_, ?_, ?_, ?_, ?_⟩
  · kernel_rfl
  · decide +kernel
  · decide +kernel
  · decide +kernel
  · decide +kernel
theorem nop_bytes : rB nopS 0 % 64 = 0 ∧ decide (64 ≤ rB nopS 0) = true ∧ rB nopS 1 = 128 ∧ rB nopS 4 = 1 ∧ rB nopS 5 * 65536 + rB nopS 6 * 256 + rB nopS 7 = 5 ∧ nopS.length = 48 ∧ nopS.take 8 = [64, 128, 0, 0, 1, 0, 0, 5] ∧ (nopS.drop 16).take 8 = [0, 0, 0, 7, 255, 255, 255, 255] := by decide +kernel
theorem right_nil (op : Int) (now : Bool) (fl : Int) (vals : List Nat) (v : Value) (hr : rightR op now fl vals = none) (w : World) (h0 : -9223372036854775808 ≤ op ∧ op ≤ 9223372036854775807) (hf : -9223372036854775808 ≤ fl ∧ fl ≤ 9223372036854775807) (hv : SRd w v 1 vals.length (vals.map u64V)) (hl : ∀ x ∈ vals, x < 18446744073709551616) (T : Tabs w) (hS : w.ShapedOpen Tryz.prog) :
    Calls Tryz.prog 56 #[.agg #[.int .i64 op, .bool now, .int .i64 fl, v]] w fun e w' => e = .returned .nilIface ∧ Below w.heap.size w w' := by
  refine (right_any op now fl vals v w h0 hf hv hl T hS).mono ?_
  rintro e w' ⟨er, rfl, her, hb⟩
  rw [hr] at her
  obtain rfl : er = .nilIface := her
  exact ⟨rfl, hb⟩
end Go.Proofs.YtamlepacljjpiaaGreatDoor

/- The contract of head.Make. -/
namespace Go.Proofs.YtamlepacljjpiaaGreatDoor
open Go.ChangeShapes Go.WideShapes Go.ChangeAt Go.RowKit Go.Shelf
set_option linter.unusedVariables false
def lastI (fs : FieldL) (n : List UInt8) : Nat → Int
  | 0 => -1
  | k + 1 => if (fs[k]?).map (·.1) = some n then (k : Int) else lastI fs n k
def mkStep (fs : FieldL) (n : List UInt8) (v : Option Nat) (cur : List Nat) : Nat ⊕ List Nat :=
  if lastI fs n fs.length < 0 then .inl 5 else match v with
  | none => .inl 7
  | some v => .inr (cur.set (lastI fs n fs.length).toNat v)
theorem mkStep_neg {fs : FieldL} {n : List UInt8} {v : Option Nat} {cur : List Nat} (h : lastI fs n fs.length < 0) : mkStep fs n v cur = .inl 5 := by unfold mkStep; rw [if_pos h]
theorem mkStep_none {fs : FieldL} {n : List UInt8} {cur : List Nat} (h : ¬ lastI fs n fs.length < 0) : mkStep fs n none cur = .inl 7 := by unfold mkStep; rw [if_neg h]
theorem mkStep_some {fs : FieldL} {n : List UInt8} {v : Nat} {cur : List Nat} (h : ¬ lastI fs n fs.length < 0) : mkStep fs n (some v) cur = .inr (cur.set (lastI fs n fs.length).toNat v) := by unfold mkStep; rw [if_neg h]
def mkGo (fs : FieldL) : List (List UInt8) → List Nat → List Nat → Nat ⊕ List Nat
  | [], _, cur => .inr cur
  | n :: ns, vs, cur => match mkStep fs n vs.head? cur with
    | .inl c => .inl c
    | .inr cur' => mkGo fs ns vs.tail cur'
def makeR (op : Int) (fl : Int) (ns : List (List UInt8)) (vs : List Nat) : (Nat × Option Nat) ⊕ List Nat :=
  match headRow op with
  | none => .inl (1, none)
  | some r => match mkGo r.2.2.2 ns vs (List.replicate r.2.2.2.length 0) with
    | .inl c => .inl (c, none)
    | .inr cur => match rightR op false fl cur with
      | some E => .inl E
      | none => .inr cur
def makeIs (w : World) (base : Nat) (op fl : Int) (e : Ending) : (Nat × Option Nat) ⊕ List Nat → Prop
  | .inl E => ∃ er, e = .returned (.tuple #[zeroH, er]) ∧ HErr w base er (some E)
  | .inr l => ∃ v, e = .returned (.tuple #[.agg #[.int .i64 op, .bool false, .int .i64 fl, v], .nilIface]) ∧ SRd w v 1 l.length (l.map u64V)
/- .. in new memory -/
def makeF (w : World) (base : Nat) (op fl : Int) (e : Ending) : (Nat × Option Nat) ⊕ List Nat → Prop
  | .inl E => ∃ er, e = .returned (.tuple #[zeroH, er]) ∧ HErr w base er (some E)
  | .inr l => ∃ v, e = .returned (.tuple #[.agg #[.int .i64 op, .bool false, .int .i64 fl, v], .nilIface]) ∧ SRd w v 1 l.length (l.map u64V) ∧ ∀ k, v.ownBlock = some k → base ≤ k
theorem results_s2 {P : Program} {fn : Func} {p a : Tmp} {ty : TypeId} (h : fn.results = #[.cell p ty, .tmp a]) (tmps : Array Value) (w : World) (g : Nat) (t : TypeId) (cs : Array Value) (d : TypeDesc) (va : Value)
    (hp : tmps.getD p undef = .pointer (some ⟨g, 0, none⟩)) (ha : tmps.getD a undef = va) (hg : Blk w g t cs)
    (hu : P.underlying ty = some d) (hd : (match d with | .struct _ | .array _ _ => true | _ => false) = true) (hi : (P.info? ty).map (·.size) = some cs.size) :
    (results fn tmps).run P w = .ok (.tuple #[.agg cs, va]) w := by
  have e : (results fn tmps).run P w = ((asAddr (tmps.getD p undef)).run P w).andThen fun x w₁ => ((loadVar ty x).run P w₁).andThen fun v w₂ => .ok (.tuple #[v, tmps.getD a undef]) w₂ := by
    simp only [results, h]
    simp [Sem.run_bind, Result.andThen]
  rw [e, hp, ha]
  have := run_loadVar_row (P := P) w g t ty cs (0, 0) d hg hu hd hi
  simp [asAddr, this]
def zeroU (n : Nat) : Array Value := madeCells #[.int .u64 0] (n * 1)
theorem zeroU_list (n : Nat) : zeroU n = ((List.replicate n 0).map u64V).toArray := by
  apply Array.ext'
  apply List.ext_getElem
  · simp [zeroU, size_madeCells]
  · intro i h1 h2
    simp [zeroU, madeCells, u64V]
    rw [Nat.mod_one]
    rfl
theorem make_u64 (n : Nat) (w : World) (h : n ≤ 1000000) : (Instr.makeSlice 36 (.int .i64 n) (.int .i64 n)).run Tryz.prog w =
    .ok (.slice (some ⟨w.heap.size, 0, none⟩) n n) (w.alloc (.cells (zeroU n) 49)) := by
  obtain ⟨i0, hi, hz0, hz1, hz2⟩ := info_parts infoU64
  have := run_make (P := Tryz.prog) w 36 49 i0 (.int .u64 0) Tryz.underlying36 hi hz0 .i64 .i64 n n (by omega) (by omega) (by rw [hz2]; omega) (by omega)
  rw [this, hz1]
  simp [zeroU, Value.cells]
theorem lastI_lt (fs : FieldL) (n : List UInt8) : ∀ k, -1 ≤ lastI fs n k ∧ lastI fs n k < k
  | 0 => by simp [lastI]
  | k + 1 => by
    have := lastI_lt fs n k
    rw [lastI]
    split <;> omega
set_option maxRecDepth 20000 in
set_option maxHeartbeats 2000000 in
theorem make_fresh (op fl : Int) (ns : List ByteArray) (vs : List Nat) (x y : Value) (w : World) (h0 : -9223372036854775808 ≤ op ∧ op ≤ 9223372036854775807) (hf : -9223372036854775808 ≤ fl ∧ fl ≤ 9223372036854775807)
    (hx : SRd w x 1 ns.length (ns.map .string)) (hy : SRd w y 1 vs.length (vs.map u64V)) (hvl : ∀ v ∈ vs, v < 18446744073709551616) (T : Tabs w) (hS : w.ShapedOpen Tryz.prog) :
    Calls Tryz.prog 58 #[.int .i64 op, .int .i64 fl, x, y] w fun e w' => makeF w' w.heap.size op fl e (makeR op fl (ns.map (·.data.toList)) vs) ∧ Below w.heap.size w w' := by
  obtain ⟨R, hR⟩ : ∃ R, makeR op fl (ns.map (·.data.toList)) vs = R := ⟨_, rfl⟩
  rw [hR]
  have HR := Lib.hid hR
  clear hR
  obtain ⟨_, A, cap, rfl, hcap, hmax, hcell⟩ := hx
  obtain ⟨_, A2, cap2, rfl, hcap2, hmax2, hcell2⟩ := hy
  obtain ⟨g, hg⟩ : ∃ g, w.heap.size = g := ⟨_, rfl⟩
  have hb0 : Below w.heap.size w (w.alloc (.cells #[.int .i64 0, .bool false, .int .i64 0, .slice none 0 0] 38)) := (Below.refl _ _).alloc (Nat.le_refl _) _
  have hB0 := Blk.new w 38 #[.int .i64 0, .bool false, .int .i64 0, .slice none 0 0]
  rw [hg] at hB0
  go_enter Tryz.func58, Tryz.ntmps58
  go_wp2_with fail
  obtain ⟨w0, hw0⟩ : ∃ w0 : World, w.alloc (.cells #[.int .i64 0, .bool false, .int .i64 0, .slice none 0 0] 38) = w0 := ⟨_, rfl⟩
  rw [hw0] at hb0 hB0 ⊢
  clear hw0
  try rw [hg]
  refine (fields_any op _ h0 (T.on hb0) (shaped_ons hS hb0)).mono ?_
  rintro e w1 ⟨hfi, hb1'⟩
  have hb1 := below_step hb0 hb1'
  have hB1 := hB0.below hb1' hB0.lt
  have hgl := hB0.lt
  have hbg1 : Below g w w1 := by rw [← hg]; exact hb1
  rcases hr : headRow op with _ | r
  · rw [hr] at hfi
    obtain rfl : e = _ := hfi
    rw [show errv 1 = .iface 56 (.int .i64 1) from rfl]
    have hz : R = .inl (1, none) := by rw [← HR.out, makeR, hr]
    subst hz
    clear hr HR
    have c0 := hB1.cell 0
    have c1 := hB1.cell 1
    have c2 := hB1.cell 2
    have c3 := hB1.cell 3
    have k0 := hB1.frozen 0
    have k1 := hB1.frozen 1
    have k2 := hB1.frozen 2
    have k3 := hB1.frozen 3
    go_wp2_with fail
    try rw [hg]
    have hB9 := (((hB1.put 0 (.int .i64 0)).put 1 (.bool false)).put 2 (.int .i64 0)).put 3 (.slice none 0 0)
    refine bodyPost_ret (results_s2 rfl _ _ g _ _ _ _ rfl rfl hB9 Tryz.underlying38 rfl (by kernel_rfl)) rfl ⟨?_, (((hbg1.setCell (Nat.le_refl _) _).setCell (Nat.le_refl _) _).setCell (Nat.le_refl _) _).setCell (Nat.le_refl _) _⟩
    exact ⟨_, rfl, rfl⟩
  · have hrm := headRow_mem hr
    have hpos := headT_pos r hrm
    rw [hr] at hfi
    obtain ⟨lv, rfl, hrow⟩ := hfi
    obtain ⟨N, hN⟩ : ∃ N, r.2.2.2.length = N := ⟨_, rfl⟩
    rw [hN] at hpos
    obtain ⟨lb, lcap, rfl, hlbg, hlc, hlm⟩ : ∃ lb lcap, lv = .slice (some ⟨lb, 0, none⟩) N lcap ∧ w0.heap.size ≤ lb ∧ N ≤ lcap ∧ lcap ≤ maxLen := by
      rcases hrow.2 with ⟨_, h⟩ | ⟨lb, lcap, cur, h1, h2, h3, h4, h5, _⟩
      · omega
      · exact ⟨lb, lcap, by rw [h1, hN], h2, by omega, h5⟩
    unfold maxLen at hlm hmax hmax2
    have hlcell : ∀ j u, (fCells r.2.2.2)[j]? = some u → w1.cell? ⟨lb, j, none⟩ = some u := by
      have hrow' := hrow
      unfold FRow at hrow'
      rw [hN] at hrow'
      exact fun j u hu => hrow'.cellAt j u hu
    have HLC := Lib.hid hlcell
    have HC := Lib.hid hcell
    have HC2 := Lib.hid hcell2
    have hlb1 : lb < w1.heap.size := MRow.lt hrow lb rfl |>.2
    have hmk : ∀ w : World, (Instr.makeSlice 36 (.int .i64 N) (.int .i64 N)).run Tryz.prog w = _ := fun w => make_u64 N w (by omega)
    clear hlcell hcell hcell2 hrow
    go_wp2_with fail
    have hBV : Blk ((w1.alloc (.cells (zeroU N) 49)).alloc (.cells #[.int .i64 op, .bool false, .int .i64 fl, .slice (some ⟨w1.heap.size, 0, none⟩) N N] 38)) w1.heap.size 49 (zeroU N) := (Blk.new w1 _ _).alloc _
    have hBH : Blk ((w1.alloc (.cells (zeroU N) 49)).alloc (.cells #[.int .i64 op, .bool false, .int .i64 fl, .slice (some ⟨w1.heap.size, 0, none⟩) N N] 38)) (w1.heap.size + 1) 38 #[.int .i64 op, .bool false, .int .i64 fl, .slice (some ⟨w1.heap.size, 0, none⟩) N N] := by
      have := Blk.new (w1.alloc (.cells (zeroU N) 49)) 38 #[.int .i64 op, .bool false, .int .i64 fl, .slice (some ⟨w1.heap.size, 0, none⟩) N N]
      simpa using this
    have hb12 : Below w1.heap.size w1 ((w1.alloc (.cells (zeroU N) 49)).alloc (.cells #[.int .i64 op, .bool false, .int .i64 fl, .slice (some ⟨w1.heap.size, 0, none⟩) N N] 38)) := ((Below.refl _ _).alloc (Nat.le_refl _) _).alloc (by simp) _
    obtain ⟨w3, hw3⟩ : ∃ w3 : World, ((w1.alloc (.cells (zeroU N) 49)).alloc (.cells #[.int .i64 op, .bool false, .int .i64 fl, .slice (some ⟨w1.heap.size, 0, none⟩) N N] 38)) = w3 := ⟨_, rfl⟩
    rw [hw3] at hBV hBH hb12 ⊢
    have hB3 := hB1.below hb12 hB1.lt
    have hbg3 : Below g w w3 := hbg1.trans (hb12.mono (Nat.le_of_lt hB1.lt))
    have hg1 : g < w1.heap.size := hB1.lt
    have hlne : lb ≠ g := by omega
    have LC3 : ∀ j u, (fCells r.2.2.2)[j]? = some u → w3.cell? ⟨lb, j, none⟩ = some u := fun j u hu => (hb12.cell (p := ⟨lb, j, none⟩) hlb1).trans (HLC.out j u hu)
    have hxb : ∀ b o, A = some ⟨b, o, none⟩ → 0 < ns.length → b < g := by
      intro b o hA hp
      obtain ⟨b2, o2, h1, h2, _⟩ := HC.out hp
      rw [hA] at h1
      injection h1 with h1
      injection h1 with h1
      omega
    have CX : ∀ b o, A = some ⟨b, o, none⟩ → ∀ j n, ns[j]? = some n → w3.cell? ⟨b, o + j, none⟩ = some (.string n) := by
      intro b o hA j n hn
      have hp : 0 < ns.length := by have := (List.getElem?_eq_some_iff.1 hn).1; omega
      obtain ⟨b2, o2, h1, h2, h3⟩ := HC.out hp
      rw [hA] at h1
      injection h1 with h1
      injection h1 with h4 h5
      subst h4 h5
      exact (hbg3.cell (p := ⟨b, o + j, none⟩) (by simp only; omega)).trans (h3 j _ (by rw [List.getElem?_map, hn]; rfl))
    have CY : ∀ b o, A2 = some ⟨b, o, none⟩ → ∀ (j n : Nat), vs[j]? = some n → w3.cell? ⟨b, o + j, none⟩ = some (.int .u64 n) ∧ b < g := by
      intro b o hA j n hn
      have hp : 0 < vs.length := by have := (List.getElem?_eq_some_iff.1 hn).1; omega
      obtain ⟨b2, o2, h1, h2, h3⟩ := HC2.out hp
      rw [hA] at h1
      injection h1 with h1
      injection h1 with h4 h5
      subst h4 h5
      exact ⟨(hbg3.cell (p := ⟨b, o + j, none⟩) (by simp only; omega)).trans (h3 j _ (by rw [List.getElem?_map, hn]; rfl)), by omega⟩
    have HLC3 := Lib.hid LC3
    have HCX := Lib.hid CX
    have HCY := Lib.hid CY
    have HXB := Lib.hid hxb
    have HPX : Hid (0 < ns.length → ∃ b o, A = some ⟨b, o, none⟩) := Lib.hid fun h => by obtain ⟨b, o, h1, _⟩ := HC.out h; exact ⟨b, o, h1⟩
    have HPY : Hid (0 < vs.length → ∃ b o, A2 = some ⟨b, o, none⟩) := Lib.hid fun h => by obtain ⟨b, o, h1, _⟩ := HC2.out h; exact ⟨b, o, h1⟩
    obtain ⟨gv, hgv⟩ : ∃ gv, w1.heap.size = gv := ⟨_, rfl⟩
    obtain ⟨gh, hgh⟩ : ∃ gh, gv + 1 = gh := ⟨_, rfl⟩
    rw [hgv] at hBV hBH hg1 hlb1 hb12
    rw [hgh] at hBH
    try rw [hgv]
    try rw [hgh]
    have hzl : (List.replicate N 0).length = N := List.length_replicate
    rw [zeroU_list] at hBV
    obtain ⟨NL, hNL⟩ : ∃ NL, ns.map (·.data.toList) = NL := ⟨_, rfl⟩
    have hR0 := HR.out
    rw [hNL, makeR, hr] at hR0
    simp only at hR0
    rw [hN] at hR0
    have HR0 := Lib.hid hR0
    have HNL := Lib.hid hNL
    have HOP := Lib.hid hr
    clear LC3 CX CY hxb HC HC2 HLC HR hR0 hNL hr hb12 hB1 hb1' hw3 hB0
    go_loopw [36] (fun i wr => ∃ (k : Nat) (cur : List Nat), k ≤ ns.length ∧ i = .int .i64 k ∧ Step gv w3 wr ∧ Blk wr gv 49 (cur.map u64V).toArray ∧ cur.length = N ∧ (∀ x ∈ cur, x < 18446744073709551616) ∧ mkGo r.2.2.2 (NL.drop k) (vs.drop k) cur = mkGo r.2.2.2 NL vs (List.replicate N 0)) (fun i _ => ns.length - (intOf i).toNat)
    case atStart => exact ⟨0, _, Nat.zero_le _, rfl, Step.refl _ _, hBV, hzl, fun x hx => by rw [(List.mem_replicate.1 hx).2]; decide, rfl⟩
    case round =>
      obtain ⟨k, cur, hk, rfl, hst, hBk, hcl, hcm, heq⟩ := hrel
      have HEQ := Lib.hid heq
      have HCM := Lib.hid hcm
      clear heq hcm
      by_cases hlt : k < ns.length
      · obtain ⟨n, hn⟩ : ∃ n, ns[k]? = some n := ⟨_, List.getElem?_eq_getElem hlt⟩
        obtain ⟨b, o, rfl⟩ := HPX.out (by omega)
        have hbg := HXB.out b o rfl (by omega)
        have e0 : wr.cell? ⟨b, o + k, none⟩ = some (.string n) := hst.cell (by simp only; omega) (HCX.out b o rfl k n hn)
        have HN := Lib.hid hn
        clear hn
        obtain ⟨X, hX⟩ : ∃ X, n.data.toList = X := ⟨_, rfl⟩
        have HX := Lib.hid hX
        clear hX
        go_wp2_with fail
        obtain ⟨wo, rfl⟩ : ∃ wo : World, wo = wr := ⟨_, rfl⟩
        go_loopw [43, 15] (fun i at_ wr => ∃ j : Nat, j ≤ N ∧ i = .int .i64 j ∧ at_ = .int .i64 (lastI r.2.2.2 X j) ∧ Below wo.heap.size wo wr) (fun i _ _ => N - (intOf i).toNat)
        case atStart => exact ⟨0, Nat.zero_le _, rfl, rfl, Below.refl _ _⟩
        case round =>
          obtain ⟨j, hj, rfl, rfl, hbm⟩ := hrel
          have hs3 : w3.heap.size ≤ wo.heap.size := hst.size
          have hv3 : gv < w3.heap.size := hBV.lt
          by_cases hjt : j < N
          · obtain ⟨f, hf⟩ : ∃ f, r.2.2.2[j]? = some f := ⟨_, List.getElem?_eq_getElem (by omega)⟩
            have hc := fCells_at _ _ _ hf
            have e0 : wr.cell? ⟨lb, 3 * j, none⟩ = some (.string ⟨f.1.toArray⟩) := (hbm.cell (p := ⟨lb, 3 * j, none⟩) (by simp only; omega)).trans (hst.cell (by simp only; omega) (HLC3.out _ _ hc.1))
            have e1 : wr.cell? ⟨lb, 3 * j + 1, none⟩ = some (.int .i64 f.2.1) := (hbm.cell (p := ⟨lb, 3 * j + 1, none⟩) (by simp only; omega)).trans (hst.cell (by simp only; omega) (HLC3.out _ _ hc.2.1))
            have e2 : wr.cell? ⟨lb, 3 * j + 2, none⟩ = some (.int .i64 f.2.2) := (hbm.cell (p := ⟨lb, 3 * j + 2, none⟩) (by simp only; omega)).trans (hst.cell (by simp only; omega) (HLC3.out _ _ hc.2.2))
            rw [Nat.mul_comm] at e0 e1 e2
            have hla : lastI r.2.2.2 X (j + 1) = if f.1 = X then (j : Int) else lastI r.2.2.2 X j := by
              rw [lastI, hf]
              simp
            obtain ⟨F1, hF1⟩ : ∃ S : ByteArray, S = ⟨f.1.toArray⟩ := ⟨_, rfl⟩
            rw [← hF1] at e0
            have hb4 : Below wo.heap.size wo (wr.alloc (.cells #[.string F1, .int .i64 f.2.1, .int .i64 f.2.2] 154)) := hbm.alloc hbm.size _
            have hlj := lastI_lt r.2.2.2 X j
            have HF1 := Lib.hid hF1
            by_cases hq : f.1 = X
            · have hqq : (F1.toList == n.toList) = true := by rw [toList_of, toList_of, hF1, HX.out]; simp [hq]
              rw [if_pos hq] at hla
              have HLA := Lib.hid hla
              clear hc hf hla hq hF1
              go_wp2_with fail
              go_roundw
              case rel => exact ⟨j + 1, by omega, by go_num, by rw [HLA.out], hb4⟩
              case measure => simp [intOf]; omega
            · have hqq : (F1.toList == n.toList) = false := by rw [toList_of, toList_of, hF1, HX.out]; simpa using hq
              rw [if_neg hq] at hla
              have HLA := Lib.hid hla
              clear hc hf hla hq hF1
              go_wp2_with fail
              go_roundw
              case rel => exact ⟨j + 1, by omega, by go_num, by rw [HLA.out], hb4⟩
              case measure => simp [intOf]; omega
          · have hjN : j = N := by omega
            subst hjN
            have hBgm := (hst.blk (by omega) hB3).below hbm (Nat.lt_of_lt_of_le hB3.lt hs3)
            have hBhm := (hst.blk (by omega) hBH).below hbm (Nat.lt_of_lt_of_le hBH.lt hs3)
            have hBkm := hBk.below hbm hBk.lt
            have hstm : Step gv w3 wr := hst.then_below hbm hs3
            have hbgm : Below g w wr := hbg3.trans (hstm.below (by omega) (Nat.le_of_lt hB3.lt))
            have hdn : NL.drop k = X :: NL.drop (k + 1) := by
              have : NL[k]? = some X := by rw [← HNL.out, List.getElem?_map, HN.out, ← HX.out]; rfl
              exact List.drop_eq_getElem?_toList_append.trans (by rw [this]; rfl)
            have hmg : mkGo r.2.2.2 NL vs (List.replicate j 0) = match mkStep r.2.2.2 X (vs.drop k).head? cur with
                | .inl c => .inl c
                | .inr cur' => mkGo r.2.2.2 (NL.drop (k + 1)) (vs.drop (k + 1)) cur' := by
              rw [← HEQ.out, hdn, mkGo]
              rw [List.tail_drop]
            have hlj := lastI_lt r.2.2.2 X j
            have c0 := hBgm.cell 0
            have c1 := hBgm.cell 1
            have c2 := hBgm.cell 2
            have c3 := hBgm.cell 3
            have k0 := hBgm.frozen 0
            have k1 := hBgm.frozen 1
            have k2 := hBgm.frozen 2
            have k3 := hBgm.frozen 3
            have hB9 := (((hBgm.put 0 (.int .i64 0)).put 1 (.bool false)).put 2 (.int .i64 0)).put 3 (.slice none 0 0)
            by_cases hneg : lastI r.2.2.2 X j < 0
            · rw [mkStep_neg (by rw [hN]; exact hneg)] at hmg
              have HMG := Lib.hid hmg
              clear hmg hdn
              go_wp2_with fail
              try rw [hg]
              refine bodyPost_ret (results_s2 rfl _ _ g _ _ _ _ rfl rfl hB9 Tryz.underlying38 rfl (by kernel_rfl)) rfl ⟨?_, (((hbgm.setCell (Nat.le_refl _) _).setCell (Nat.le_refl _) _).setCell (Nat.le_refl _) _).setCell (Nat.le_refl _) _⟩
              rw [← HR0.out, HMG.out]
              exact ⟨_, rfl, rfl⟩
            · obtain ⟨t, ht⟩ := Int.eq_ofNat_of_zero_le (show 0 ≤ lastI r.2.2.2 X j by omega)
              have hneg2 : ¬ lastI r.2.2.2 X r.2.2.2.length < 0 := by rw [hN]; exact hneg
              rw [ht] at hlj hneg ⊢
              by_cases hkv : k < vs.length
              · obtain ⟨u, hu⟩ : ∃ u, vs[k]? = some u := ⟨_, List.getElem?_eq_getElem hkv⟩
                have hdv : (vs.drop k).head? = some u := by rw [List.head?_drop]; exact hu
                rw [hdv, mkStep_some hneg2, hN, ht] at hmg
                simp only at hmg
                rw [Int.toNat_natCast] at hmg
                obtain ⟨b2, o2, rfl⟩ := HPY.out (by omega)
                obtain ⟨ey, hyb⟩ := HCY.out b2 o2 rfl k u hu
                have ey2 : wr.cell? ⟨b2, o2 + k, none⟩ = some (.int .u64 u) := hstm.cell (by simp only; omega) ey
                obtain ⟨u0, hu0⟩ : ∃ u0, cur[t]? = some u0 := ⟨_, List.getElem?_eq_getElem (by omega)⟩
                have hvm := hvl u (List.mem_of_getElem? hu)
                have h3 := hBhm.cell 3
                have hct : wr.cell? ⟨gv, t, none⟩ = some (.int .u64 u0) := by
                  rw [hBkm.cell t]
                  simp [hu0, u64V]
                have kt := hBkm.frozen t
                have hput := hBkm.put t (.int .u64 u)
                have hsl : (cur.map u64V).toArray.setIfInBounds t (.int .u64 u) = ((cur.set t u).map u64V).toArray := by
                  simp [List.map_set, u64V]
                rw [hsl] at hput
                have HMG := Lib.hid hmg
                clear hmg hdn hu hdv hu0 hsl ey
                go_wp2_with fail
                go_region
                go_wp2_with fail
                go_roundw
                case rel =>
                  refine ⟨k + 1, cur.set t u, by omega, by go_num, (hstm.trans (.of_below ((Below.refl _ _).drew))).trans (Step.setCell _ _ _ _), hput, by rw [List.length_set]; exact hcl, ?_, HMG.out.symm⟩
                  intro x hx
                  rcases List.mem_or_eq_of_mem_set hx with h | h
                  · exact HCM.out x h
                  · rw [h]; exact hvm
                case measure => simp [intOf]; omega
              · have hdv : (vs.drop k).head? = none := by rw [List.head?_drop, List.getElem?_eq_none (by omega)]
                rw [hdv, mkStep_none hneg2] at hmg
                have HMG := Lib.hid hmg
                clear hmg hdn hdv
                go_wp2_with fail
                try rw [hg]
                refine bodyPost_ret (results_s2 rfl _ _ g _ _ _ _ rfl rfl hB9 Tryz.underlying38 rfl (by kernel_rfl)) rfl ⟨?_, (((hbgm.setCell (Nat.le_refl _) _).setCell (Nat.le_refl _) _).setCell (Nat.le_refl _) _).setCell (Nat.le_refl _) _⟩
                rw [← HR0.out, HMG.out]
                exact ⟨_, rfl, rfl⟩
      · have hkz : k = ns.length := by omega
        subst hkz
        have hmg : mkGo r.2.2.2 NL vs (List.replicate N 0) = .inr cur := by
          rw [← HEQ.out, List.drop_eq_nil_of_le (by rw [← HNL.out]; simp), mkGo]
        have hR0 := HR0.out
        rw [hmg] at hR0
        simp only at hR0
        have hs3 : w3.heap.size ≤ wr.heap.size := hst.size
        have hBgr := hst.blk (by omega) hB3
        have hBhr := hst.blk (by omega) hBH
        have hbgr : Below g w wr := hbg3.trans (hst.below (by omega) (Nat.le_of_lt hB3.lt))
        have hbgr' : Below w.heap.size w wr := by rw [hg]; exact hbgr
        have d0 := hBhr.cell 0
        have d1 := hBhr.cell 1
        have d2 := hBhr.cell 2
        have d3 := hBhr.cell 3
        have hsr : SRd wr (.slice (some ⟨gv, 0, none⟩) N N) 1 cur.length (cur.map u64V) := by
          have := SRd.lit5 (n := N) hBk rfl (by simp [hcl]) (by unfold maxLen; omega)
          rw [hcl]; exact this
        have HRR := Lib.hid hR0
        have hlg := hBgr.lt
        have hlh := hBhr.lt
        clear hmg hR0
        go_wp2_with fail
        refine (right_any op false fl cur _ _ h0 hf hsr HCM.out (T.on hbgr') (shaped_ons hS hbgr')).mono ?_
        rintro e w5 ⟨er, rfl, her, hb5⟩
        have hBg5 := hBgr.below hb5 hlg
        have hBh5 := hBhr.below hb5 hlh
        have hbg5 : Below g w w5 := hbgr.trans (hb5.mono (Nat.le_of_lt hlg))
        have hbg5' : Below w.heap.size w w5 := by rw [hg]; exact hbg5
        have c0 := hBg5.cell 0
        have c1 := hBg5.cell 1
        have c2 := hBg5.cell 2
        have c3 := hBg5.cell 3
        have k0 := hBg5.frozen 0
        have k1 := hBg5.frozen 1
        have k2 := hBg5.frozen 2
        have k3 := hBg5.frozen 3
        have q0 := hBh5.cell 0
        have q1 := hBh5.cell 1
        have q2 := hBh5.cell 2
        have q3 := hBh5.cell 3
        rcases hrr : rightR op false fl cur with _ | E
        · rw [hrr] at her
          obtain rfl : er = .nilIface := her
          have hR1 := HRR.out
          rw [hrr] at hR1
          simp only at hR1
          have hB9 := (((hBg5.put 0 (.int .i64 op)).put 1 (.bool false)).put 2 (.int .i64 fl)).put 3 (.slice (some ⟨gv, 0, none⟩) N N)
          have hfin := (((hbg5.setCell (Nat.le_refl g) (p := ⟨g, 0, none⟩) (.int .i64 op)).setCell (Nat.le_refl g) (p := ⟨g, 1, none⟩) (.bool false)).setCell (Nat.le_refl g) (p := ⟨g, 2, none⟩) (.int .i64 fl)).setCell (Nat.le_refl g) (p := ⟨g, 3, none⟩) (.slice (some ⟨gv, 0, none⟩) N N)
          have hs5 := (hsr.on hb5)
          have hs9 := (((hs5.off g (fun a ha => by injection ha with ha; rw [← ha]; show gv ≠ g; omega) 0 (.int .i64 op)).off g (fun a ha => by injection ha with ha; rw [← ha]; show gv ≠ g; omega) 1 (.bool false)).off g (fun a ha => by injection ha with ha; rw [← ha]; show gv ≠ g; omega) 2 (.int .i64 fl)).off g (fun a ha => by injection ha with ha; rw [← ha]; show gv ≠ g; omega) 3 (.slice (some ⟨gv, 0, none⟩) N N)
          have HR1 := Lib.hid hR1
          clear hR1 hrr
          go_wp2_with fail
          try rw [hg]
          refine bodyPost_ret (results_s2 rfl _ _ g _ _ _ _ rfl rfl hB9 Tryz.underlying38 rfl (by kernel_rfl)) rfl ⟨?_, hfin⟩
          rw [← HR1.out]
          exact ⟨_, rfl, hs9, fun k hk => by have h1 := Option.some.inj hk; simp only at h1; omega⟩
        · rw [hrr] at her
          obtain ⟨et, ex, rfl⟩ := her.value
          have hR1 := HRR.out
          rw [hrr] at hR1
          simp only at hR1
          have hB9 := (((hBg5.put 0 (.int .i64 0)).put 1 (.bool false)).put 2 (.int .i64 0)).put 3 (.slice none 0 0)
          have her9 := (((her.store (i := 0) (u := .int .i64 0) hlg).store (i := 1) (u := .bool false) hlg).store (i := 2) (u := .int .i64 0) hlg).store (i := 3) (u := .slice none 0 0) hlg
          have hfin := (((hbg5.setCell (Nat.le_refl g) (p := ⟨g, 0, none⟩) (.int .i64 0)).setCell (Nat.le_refl g) (p := ⟨g, 1, none⟩) (.bool false)).setCell (Nat.le_refl g) (p := ⟨g, 2, none⟩) (.int .i64 0)).setCell (Nat.le_refl g) (p := ⟨g, 3, none⟩) (.slice none 0 0)
          have HR1 := Lib.hid hR1
          clear hR1 hrr her
          go_wp2_with fail
          try rw [hg]
          refine bodyPost_ret (results_s2 rfl _ _ g _ _ _ _ rfl rfl hB9 Tryz.underlying38 rfl (by kernel_rfl)) rfl ⟨?_, hfin⟩
          rw [← HR1.out]
          exact ⟨_, rfl, her9.more (Nat.le_of_lt hlg)⟩
theorem make_any (op fl : Int) (ns : List ByteArray) (vs : List Nat) (x y : Value) (w : World) (h0 : -9223372036854775808 ≤ op ∧ op ≤ 9223372036854775807) (hf : -9223372036854775808 ≤ fl ∧ fl ≤ 9223372036854775807)
    (hx : SRd w x 1 ns.length (ns.map .string)) (hy : SRd w y 1 vs.length (vs.map u64V)) (hvl : ∀ v ∈ vs, v < 18446744073709551616) (T : Tabs w) (hS : w.ShapedOpen Tryz.prog) :
    Calls Tryz.prog 58 #[.int .i64 op, .int .i64 fl, x, y] w fun e w' => makeIs w' w.heap.size op fl e (makeR op fl (ns.map (·.data.toList)) vs) ∧ Below w.heap.size w w' := by
  refine (make_fresh op fl ns vs x y w h0 hf hx hy hvl T hS).mono ?_
  rintro e w' ⟨h, hb⟩
  refine ⟨?_, hb⟩
  generalize makeR op fl (ns.map (·.data.toList)) vs = R at h ⊢
  rcases R with E | l
  · exact h
  · obtain ⟨v, h1, h2, _⟩ := h
    exact ⟨v, h1, h2⟩
end Go.Proofs.YtamlepacljjpiaaGreatDoor

/- The contract of head.Value where the value is there. -/
namespace Go.Proofs.YtamlepacljjpiaaGreatDoor
open Go.ChangeShapes Go.WideShapes Go.ChangeAt Go.RowKit Go.Shelf
set_option linter.unusedVariables false
def valGo : FieldL → List Nat → List UInt8 → Nat ⊕ Nat
  | [], _, _ => .inl 5
  | f :: fs, vs, n => if f.1 = n then (match vs with | [] => .inl 7 | v :: _ => .inr v) else valGo fs vs.tail n
theorem valGo_hit {f : List UInt8 × Nat × Nat} {fs : FieldL} {vs : List Nat} {n : List UInt8} {x : Nat} (h : valGo (f :: fs) vs n = .inr x) (hf : f.1 = n) : ∃ ys, vs = x :: ys := by
  rcases vs with _ | ⟨y, ys⟩
  · simp [valGo, hf] at h
  · simp [valGo, hf] at h
    exact ⟨ys, by rw [h]⟩
theorem valGo_miss {f : List UInt8 × Nat × Nat} {fs : FieldL} {vs : List Nat} {n : List UInt8} {x : Nat} (h : valGo (f :: fs) vs n = .inr x) (hf : f.1 ≠ n) : valGo fs vs.tail n = .inr x := by
  rcases vs with _ | ⟨y, ys⟩
  · simpa [valGo, hf] using h
  · simpa [valGo, hf] using h
theorem row_reads {w0 w1 : World} {r : HeadR} {lv : Value} (hrm : r ∈ headT) (hrow : FRow w1 w0.heap.size lv r.2.2.2) : ∃ lb lcap, lv = .slice (some ⟨lb, 0, none⟩) r.2.2.2.length lcap ∧ r.2.2.2.length ≤ lcap ∧ lcap ≤ maxLen ∧ lb < w1.heap.size ∧ (∀ j u, (fCells r.2.2.2)[j]? = some u → w1.cell? ⟨lb, j, none⟩ = some u) := by
  have hpos := headT_pos r hrm
  rcases hrow.2 with ⟨_, h⟩ | ⟨lb, lcap, cur, h1, h2, h3, h4, h5, _⟩
  · omega
  · subst h1
    have hrow' := hrow
    unfold FRow at hrow'
    exact ⟨lb, lcap, rfl, h4, h5, (MRow.lt hrow lb rfl).2, fun j u hu => hrow'.cellAt j u hu⟩
set_option maxRecDepth 20000 in
set_option maxHeartbeats 2000000 in
theorem value_at (op : Int) (now : Bool) (fl : Int) (vals : List Nat) (A : Option Addr) (cap : Nat) (r : HeadR) (hr : headRow op = some r) (n : ByteArray) (x : Nat) (hval : valGo r.2.2.2 vals n.data.toList = .inr x) (w : World) (h0 : -9223372036854775808 ≤ op ∧ op ≤ 9223372036854775807)
    (hv : SRd w (.slice A vals.length cap) 1 vals.length (vals.map u64V)) (T : Tabs w) (hS : w.ShapedOpen Tryz.prog) :
    Calls Tryz.prog 55 #[.agg #[.int .i64 op, .bool now, .int .i64 fl, .slice A vals.length cap], .string n] w fun e w' => e = .returned (.tuple #[.int .u64 x, .nilIface]) ∧ Below w.heap.size w w' := by
  obtain ⟨g, hg⟩ : ∃ g, w.heap.size = g := ⟨_, rfl⟩
  have hb0 : Below w.heap.size w (w.alloc (.cells #[.int .i64 op, .bool now, .int .i64 fl, .slice A vals.length cap] 38)) := (Below.refl _ _).alloc (Nat.le_refl _) _
  have hB0 := Blk.new w 38 #[.int .i64 op, .bool now, .int .i64 fl, .slice A vals.length cap]
  rw [hg] at hB0
  have hrm := headRow_mem hr
  have hpos := headT_pos r hrm
  go_enter Tryz.func55, Tryz.ntmps55
  go_wp2_with fail
  obtain ⟨w0, hw0⟩ : ∃ w0 : World, w.alloc (.cells #[.int .i64 op, .bool now, .int .i64 fl, .slice A vals.length cap] 38) = w0 := ⟨_, rfl⟩
  rw [hw0] at hb0 hB0 ⊢
  clear hw0
  try rw [hg]
  have hv0 := hv.on hb0
  refine (fields_any op _ h0 (T.on hb0) (shaped_ons hS hb0)).mono ?_
  rintro e w1 ⟨hfi, hb1⟩
  rw [hr] at hfi
  obtain ⟨lv, rfl, hrow⟩ := hfi
  obtain ⟨lb, lcap, rfl, hlc, hlm, hlb, hlcell⟩ := row_reads (w0 := w0) hrm hrow
  have hbw1 := below_step hb0 hb1
  have hB1 := hB0.below hb1 hB0.lt
  have hv1 := hv0.on hb1
  obtain ⟨N, hN⟩ : ∃ N, r.2.2.2.length = N := ⟨_, rfl⟩
  obtain ⟨M, hM⟩ : ∃ M, vals.length = M := ⟨_, rfl⟩
  have hA0 := hval
  rw [hN] at hlc hpos ⊢
  unfold maxLen at hlm
  have hMm : M ≤ 9223372036854775807 := by
    obtain ⟨_, A', cap', hvv, h2, h3, _⟩ := hv1
    injection hvv with e1 e2 e3
    unfold maxLen at h3
    omega
  have HV1 := Lib.hid hv1
  rw [hM] at hB1
  have HLC := Lib.hid hlcell
  have HN := Lib.hid hN
  have HM := Lib.hid hM
  have HVAL := Lib.hid hval
  have hgl1 := hB1.lt
  clear hval hv hv0 hv1 hlcell hrow hN hM hA0 hr hB0
  try rw [HM.out]
  go_wp2_with fail
  go_loopw [21] (fun i wr => ∃ k : Nat, k ≤ N ∧ i = .int .i64 k ∧ valGo (r.2.2.2.drop k) (vals.drop k) n.data.toList = .inr x ∧ Below w1.heap.size w1 wr) (fun i _ => N - (intOf i).toNat)
  case atStart => exact ⟨0, Nat.zero_le _, rfl, HVAL.out, Below.refl _ _⟩
  case round =>
    obtain ⟨k, hk, rfl, hA, hbw⟩ := hrel
    by_cases hlt : k < N
    · obtain ⟨f, hf⟩ : ∃ f, r.2.2.2[k]? = some f := ⟨_, List.getElem?_eq_getElem (by rw [HN.out]; exact hlt)⟩
      have hdr : r.2.2.2.drop k = f :: r.2.2.2.drop (k + 1) := by
        obtain ⟨h1, h2⟩ := List.getElem?_eq_some_iff.1 hf
        rw [List.drop_eq_getElem_cons h1, h2]
      rw [hdr] at hA
      obtain ⟨q0, q1, q2⟩ := fCells_at _ _ _ hf
      obtain ⟨F, hF⟩ : ∃ F : ByteArray, (⟨f.1.toArray⟩ : ByteArray) = F := ⟨_, rfl⟩
      have hFl : F.data.toList = f.1 := by rw [← hF]
      rw [hF] at q0
      have e0 : wr.cell? ⟨lb, k * 3, none⟩ = some (.string F) := (hbw.cell (p := ⟨lb, k * 3, none⟩) hlb).trans (by rw [Nat.mul_comm]; exact HLC.out _ _ q0)
      have e1 : wr.cell? ⟨lb, k * 3 + 1, none⟩ = some (.int .i64 f.2.1) := (hbw.cell (p := ⟨lb, k * 3 + 1, none⟩) hlb).trans (by rw [Nat.mul_comm]; exact HLC.out _ _ q1)
      have e2 : wr.cell? ⟨lb, k * 3 + 2, none⟩ = some (.int .i64 f.2.2) := (hbw.cell (p := ⟨lb, k * 3 + 2, none⟩) hlb).trans (by rw [Nat.mul_comm]; exact HLC.out _ _ q2)
      have hb2 : Below wr.heap.size wr (wr.alloc (.cells #[.string F, .int .i64 f.2.1, .int .i64 f.2.2] 154)) := (Below.refl _ _).alloc (Nat.le_refl _) _
      have hBr := hB1.below hbw hgl1
      have hBa := hBr.below hb2 hBr.lt
      have c3 := hBr.cell 3
      have d3 := hBa.cell 3
      clear hdr q0 q1 q2 hF hf
      by_cases hfn : f.1 = n.data.toList
      · obtain ⟨ys, hvd⟩ := valGo_hit hA hfn
        have hvk : vals[k]? = some x := by
          have := congrArg List.head? hvd
          rw [List.head?_drop] at this
          exact this
        have hkM : k < M := by rw [← HM.out]; exact (List.getElem?_eq_some_iff.1 hvk).1
        have hkI : (k : Int) < (M : Int) := by omega
        have hkd : decide ((M : Int) ≤ (k : Int)) = false := by simp; omega
        have hse : (F.toList == n.toList) = true := by rw [toList_of, toList_of, hFl, hfn]; simp
        obtain ⟨_, A', cap', hvv, _, _, h4⟩ := (HV1.out.on hbw).on hb2
        injection hvv with g1 g2 g3
        obtain ⟨b, o, hA', hbl, hcc⟩ := h4 (by rw [HM.out]; omega)
        have hAA : A = some ⟨b, o, none⟩ := g1.trans hA'
        subst hAA
        have cv := hcc k (u64V x) (by rw [List.getElem?_map, hvk]; rfl)
        unfold u64V at cv
        have cv0 := (hb2.cell (p := ⟨b, o + k, none⟩) (by
          obtain ⟨_, A2, cap2, hvv2, _, _, h42⟩ := HV1.out.on hbw
          injection hvv2 with u1 _ _
          obtain ⟨b2, o2, hA2, hbl2, _⟩ := h42 (by rw [HM.out]; omega)
          have := u1.trans hA2
          injection this with this
          injection this with t1 t2
          subst t1
          exact hbl2)).symm.trans cv
        clear hcc h4 g1 g2 g3 hA' hvk hvd hA hfn hFl
        go_wp2_with fail
        go_ret2
        exact ⟨rfl, below_step hbw1 (below_step hbw hb2)⟩
      · have hA := valGo_miss hA hfn
        rw [List.tail_drop] at hA
        have hse : (F.toList == n.toList) = false := by
          rw [toList_of, toList_of, hFl]
          simpa using hfn
        have HA := Lib.hid hA
        clear hA hfn hFl
        go_wp2_with fail
        go_roundw
        case rel => exact ⟨k + 1, by omega, by go_num, HA.out, below_step hbw hb2⟩
        case measure => simp [intOf]; omega
    · obtain rfl : k = N := by omega
      rw [List.drop_of_length_le (by rw [HN.out]; exact Nat.le_refl _)] at hA
      cases hA
end Go.Proofs.YtamlepacljjpiaaGreatDoor
