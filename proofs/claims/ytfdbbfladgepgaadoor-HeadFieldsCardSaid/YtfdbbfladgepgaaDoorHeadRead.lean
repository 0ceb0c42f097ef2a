/- The contract of head.Read. -/
import Derived.Test.YtfdbbfladgepgaaDoorHeadWrite
import Derived.Laws.ResultCell
import Derived.Laws.Rows
namespace Go.Proofs.YtfdbbfladgepgaaDoor
open Go.ChangeShapes Go.WideShapes Go.ChangeAt Go.RowKit Go.Shelf
set_option linter.unusedVariables false
theorem or_i64 (a b : Nat) (ha : a < 4294967296) (hb : b < 4294967296) : bits .or .i64 (a : Int) (b : Int) = ((a ||| b : Nat) : Int) := by
  show IntKind.i64.wrap ((BitVec.ofInt 64 a ||| BitVec.ofInt 64 b).toNat : Int) = _
  have h1 : (BitVec.ofInt 64 (a : Int)).toNat = a := by
    rw [BitVec.toNat_ofInt]
    have : ((2 ^ 64 : Nat) : Int) = 18446744073709551616 := by decide
    rw [this]; omega
  have h2 : (BitVec.ofInt 64 (b : Int)).toNat = b := by
    rw [BitVec.toNat_ofInt]
    have : ((2 ^ 64 : Nat) : Int) = 18446744073709551616 := by decide
    rw [this]; omega
  have h3 : a ||| b < 2 ^ 32 := Nat.or_lt_two_pow (by omega) (by omega)
  rw [BitVec.toNat_or, h1, h2, IntKind.wrap_i64]
  omega
theorem or_data (a b c : Nat) (ha : a < 256) (hb : b < 256) (hc : c < 256) : bits .or .i64 (bits .or .i64 ((a : Int) * 65536) ((b : Int) * 256)) (c : Int) = ((a * 65536 + b * 256 + c : Nat) : Int) := by
  have e1 : ((a : Int) * 65536) = ((a * 65536 : Nat) : Int) := by omega
  have e2 : ((b : Int) * 256) = ((b * 256 : Nat) : Int) := by omega
  have e3 : a * 65536 ||| b * 256 = a * 65536 + b * 256 := by
    have := Nat.two_pow_add_eq_or_of_lt (i := 16) (b := b * 256) (by omega) a
    simp only [Nat.reducePow] at this
    rw [Nat.mul_comm a 65536, ← this]
  have e4 : (a * 65536 + b * 256) ||| c = a * 65536 + b * 256 + c := by
    have := Nat.two_pow_add_eq_or_of_lt (i := 8) (b := c) (by omega) (a * 256 + b)
    simp only [Nat.reducePow] at this
    rw [show a * 65536 + b * 256 = 256 * (a * 256 + b) by omega, ← this]
  rw [e1, e2, or_i64 _ _ (by omega) (by omega), e3, or_i64 _ _ (by omega) (by omega), e4]
theorem and63 : ∀ k : Fin 256, bits .and .u8 (k.val : Int) 63 = ((k.val % 64 : Nat) : Int) := by decide +kernel
theorem and64 : ∀ k : Fin 128, (bits .and .u8 (k.val : Int) 64 != 0) = decide (64 ≤ k.val) := by decide +kernel
theorem results_s4 {P : Program} {fn : Func} {p a b c : Tmp} {ty : TypeId} (h : fn.results = #[.cell p ty, .tmp a, .tmp b, .tmp c]) (tmps : Array Value) (w : World) (g : Nat) (t : TypeId) (cs : Array Value) (d : TypeDesc) (va vb vc : Value)
    (hp : tmps.getD p undef = .pointer (some ⟨g, 0, none⟩)) (ha : tmps.getD a undef = va) (hb : tmps.getD b undef = vb) (hc : tmps.getD c undef = vc) (hg : Blk w g t cs)
    (hu : P.underlying ty = some d) (hd : (match d with | .struct _ | .array _ _ => true | _ => false) = true) (hi : (P.info? ty).map (·.size) = some cs.size) :
    (results fn tmps).run P w = .ok (.tuple #[.agg cs, va, vb, vc]) w := by
  have e : (results fn tmps).run P w = ((asAddr (tmps.getD p undef)).run P w).andThen fun x w₁ => ((loadVar ty x).run P w₁).andThen fun v w₂ => .ok (.tuple #[v, tmps.getD a undef, tmps.getD b undef, tmps.getD c undef]) w₂ := by
    simp only [results, h]
    simp [Sem.run_bind, Result.andThen]
  rw [e, hp, ha, hb, hc]
  have := run_loadVar_row (P := P) w g t ty cs (0, 0) d hg hu hd hi
  simp [asAddr, this]
theorem cell_new_u (w : World) (u : Value) (t : TypeId) : (w.alloc (.cells #[u] t)).cell? ((⟨w.heap.size, 0, none⟩ : Addr).add 0) = some u := by
  rw [Addr.add_lit, Nat.zero_add]
  exact (Blk.new w t #[u]).cell 0
theorem infoU64 : (Tryd.prog.info? 53).map (fun i => (i.zero, i.size, i.bytes)) = some (some (.int .u64 0), 1, 8) := by kernel_rfl
def VRow (w : World) (base : Nat) (v : Value) (l : List Nat) : Prop := MRow w base 53 1 v l.length (l.map u64V)
theorem wpList_append_u64 (w : World) {ops : Array Oper} {rest : List Oper} {o : Oper} {a : Act} {Q : Exit → Act → World → Prop} (hgd : o.guard = none) (s x : Operand)
    (ho : o.op = .call { callee := .builtin .append, args := #[s, x], argTypes := #[36, 36] })
    (base : Nat) (v : Value) (l : List Nat) (hs : a.eval s = v) (hown : VRow w base v l)
    (ad : Addr) (n : Nat) (c : Nat) (hx : a.eval x = .slice (some ad) 1 c) (hc : w.cell? (ad.add 0) = some (.int .u64 n))
    (hlen : l.length ≤ 1000) (hbase : base ≤ w.heap.size) {w0 : World} (hbel : Below base w0 w)
    (h : ∀ v' w', VRow w' base v' (l ++ [n]) → Below base w0 w' → wpList Tryd.prog ops Q rest (a.put o.dst v') w') : wpList Tryd.prog ops Q (o :: rest) a w := by
  obtain ⟨i0, hi, hz0, hz1, hz2⟩ := info_parts infoU64
  refine wpList_plain hgd fun _ hK => wp_append_m w s x _ ho base 53 i0 _ 1 8 Tryd.underlying36 hi hz0 hz1 hz2 rfl (by decide) v l.length _ hs hown ad 1 c [.int .u64 n] hx (by simp) ?_ ?_ (by unfold maxLen; omega) (by omega) hbase ?_
  · intro j u hu
    match j with
    | 0 => cases hu; exact hc
    | j + 1 => simp at hu
  · intro u hu
    simp at hu
    rcases hu with rfl
    rfl
  · intro v' w' r1 r2 r3
    refine hK _ _ (h v' w' ?_ (hbel.grown r2 hbase fun k hk => (hown.lt k hk).1))
    unfold VRow
    rw [List.length_append, List.map_append]
    exact r1
theorem Step.mrow {g : Nat} {X Y : World} {base : Nat} {e : TypeId} {size n : Nat} {v : Value} {xs : List Value} (h : Step g X Y) (hr : MRow X base e size v n xs) (hne : v.ownBlock ≠ some g) : MRow Y base e size v n xs :=
  hr.keep fun k hk => h.block k (fun e => hne (by rw [hk, e])) (hr.lt k hk).2
theorem Step.then_below {g n : Nat} {X Y Z : World} (h : Step g X Y) (k : Below n Y Z) (hn : X.heap.size ≤ n) : Step g X Z :=
  ⟨k.os.trans h.os, k.tape.trans h.tape, k.output.trans h.output, Nat.le_trans h.size k.size, fun i hi hl => (k.block i (by omega)).trans (h.block i hi hl)⟩
theorem Step.setCell (g i : Nat) (A : World) (v : Value) : Step g A (A.setCell ⟨g, i, none⟩ v) :=
  ⟨rfl, rfl, rfl, by simp [World.setCell], fun k hk _ => Below.heap_setCell A _ v k hk⟩
theorem VRow.store {w : World} {base g i : Nat} {v u : Value} {l : List Nat} (h : VRow w base v l) (hg : g < base) : VRow (w.setCell ⟨g, i, none⟩ u) base v l :=
  MRow.keep h fun k hk => Below.heap_setCell w _ u k (by have := (MRow.lt h k hk).1; simp only; omega)
theorem HErr.store {w : World} {base g i : Nat} {v u : Value} {E : Option (Nat × Option Nat)} (h : HErr w base v E) (hg : g < base) : HErr (w.setCell ⟨g, i, none⟩ u) base v E := by
  rcases E with _ | ⟨c, _ | p⟩
  · exact h
  · exact h
  · obtain ⟨k, h1, h2, h3⟩ := h
    exact ⟨k, h1, h2, h3.far (by simp only; omega) _⟩
theorem HErr.more {w : World} {base base' : Nat} {v : Value} {E : Option (Nat × Option Nat)} (h : HErr w base v E) (hb : base' ≤ base) : HErr w base' v E := by
  rcases E with _ | ⟨c, _ | p⟩
  · exact h
  · exact h
  · obtain ⟨k, h1, h2, h3⟩ := h
    exact ⟨k, by omega, h2, h3⟩
theorem HErr.iface {w : World} {base : Nat} {v : Value} {c : Nat} {o : Option Nat} (h : HErr w base v (some (c, o))) : ∃ t x, v = .iface t x := by
  rcases o with _ | p
  · exact ⟨_, _, h⟩
  · obtain ⟨k, h1, h2, h3⟩ := h
    exact ⟨_, _, h2⟩
theorem SRd.off {w : World} {A : Option Addr} {n n' cap size : Nat} {xs : List Value} (h : SRd w (.slice A n' cap) size n xs) (g : Nat) (hA : ∀ a, A = some a → a.block ≠ g) (i : Nat) (u : Value) : SRd (w.setCell ⟨g, i, none⟩ u) (.slice A n' cap) size n xs := by
  obtain ⟨h1, A', cap', hv, h2, h3, h4⟩ := h
  refine ⟨h1, A', cap', hv, h2, h3, fun hp => ?_⟩
  obtain ⟨b, o, ha, hb, hc⟩ := h4 hp
  injection hv with e1 e2 e3
  have hne := hA _ (e1.trans ha)
  refine ⟨b, o, ha, by simpa [World.setCell] using hb, fun j u hu => ?_⟩
  rw [← hc j u hu]
  exact World.cell?_of_block (w := w) (Below.heap_setCell w _ _ b hne)
def rB (l : List UInt8) (j : Nat) : Nat := (l.getD j 0).toNat
theorem rB_lt (l : List UInt8) (j : Nat) : rB l j < 256 := UInt8.toNat_lt _
theorem rB_at (s : ByteArray) (j : Nat) (h : j < s.size) : s[j].toNat = rB s.data.toList j := by
  unfold rB
  rw [List.getD_eq_getElem?_getD, List.getElem?_eq_getElem (by rw [len_of]; exact h)]
  rfl
def readE (l : List UInt8) : Option (Nat × Option Nat) :=
  if l.length ≠ 48 then some (7, none) else if 128 ≤ rB l 0 then some (3, none) else
  match headRow ((rB l 0 % 64 : Nat) : Int) with
  | none => some (1, none)
  | some r => match rightR ((rB l 0 % 64 : Nat) : Int) (decide (64 ≤ rB l 0)) (rB l 1) (readV r.2.2.2 l) with
    | some e => some e
    | none => if layAll (headB r.1 (decide (64 ≤ rB l 0)) (rB l 1) (rB l 4) (rB l 5 * 65536 + rB l 6 * 256 + rB l 7)) r.2.2.2 (readV r.2.2.2 l) = l then none else some (3, none)
def zeroH : Value := .agg #[.int .i64 0, .bool false, .int .i64 0, .slice none 0 0]
def readIs (w : World) (base : Nat) (l : List UInt8) (e : Ending) : Prop := ∃ hv wd dt er, e = .returned (.tuple #[hv, .int .i64 wd, .int .i64 dt, er]) ∧ HErr w base er (readE l) ∧
  (readE l ≠ none → hv = zeroH ∧ wd = 0 ∧ dt = 0) ∧
  (readE l = none → ∃ r v, headRow ((rB l 0 % 64 : Nat) : Int) = some r ∧ hv = .agg #[.int .i64 ((rB l 0 % 64 : Nat) : Int), .bool (decide (64 ≤ rB l 0)), .int .i64 (rB l 1), v] ∧
    SRd w v 1 (readV r.2.2.2 l).length ((readV r.2.2.2 l).map u64V) ∧ wd = (rB l 4 : Nat) ∧ dt = ((rB l 5 * 65536 + rB l 6 * 256 + rB l 7 : Nat) : Int) ∧ (∀ A n c, v = .slice A n c → ∀ a, A = some a → base ≤ a.block))
set_option maxRecDepth 20000 in
set_option maxHeartbeats 2000000 in
theorem read_any (s : ByteArray) (w : World) (hs : s.size ≤ 1000000) (T : Tabs w) (hS : w.ShapedOpen Tryd.prog) :
    Calls Tryd.prog 9 #[.string s] w fun e w' => readIs w' w.heap.size s.data.toList e ∧ Below w.heap.size w w' := by
  obtain ⟨g, hg⟩ : ∃ g, w.heap.size = g := ⟨_, rfl⟩
  rw [hg]
  have hZ : Blk (w.alloc (.cells #[.int .i64 0, .bool false, .int .i64 0, .slice none 0 0] 38)) g 38 #[.int .i64 0, .bool false, .int .i64 0, .slice none 0 0] := by
    rw [← hg]; exact Blk.new _ _ _
  have hbZ : Below g w (w.alloc (.cells #[.int .i64 0, .bool false, .int .i64 0, .slice none 0 0] 38)) := by
    rw [← hg]; exact (Below.refl _ _).alloc (Nat.le_refl _) _
  by_cases hz : s.size = 48
  · have hlz : s.data.toList.length = 48 := by rw [len_of, hz]
    have hc0 := rB_at s 0 (by omega)
    have hc1 := rB_at s 1 (by omega)
    have hc4 := rB_at s 4 (by omega)
    have hc5 := rB_at s 5 (by omega)
    have hc6 := rB_at s 6 (by omega)
    have hc7 := rB_at s 7 (by omega)
    by_cases h128 : 128 ≤ rB s.data.toList 0
    · have hE : readE s.data.toList = some (3, none) := by rw [readE, if_neg (fun h => h hlz), if_pos h128]
      have h128' : 128 ≤ ((s[0]'(by omega)).toNat : Int) := by rw [hc0]; omega
      have HE := Lib.hid hE
      clear hE hc0 hc1 hc4 hc5 hc6 hc7 hlz h128
      go_enter Tryd.func9, Tryd.ntmps9
      go_wp2_with fail
      try rw [hg]
      refine bodyPost_ret (results_s4 rfl _ _ g _ _ _ _ _ _ rfl rfl rfl rfl hZ Tryd.underlying38 rfl (by kernel_rfl)) rfl ⟨?_, hbZ⟩
      exact ⟨_, _, _, _, rfl, by rw [HE.out]; rfl, fun _ => ⟨rfl, rfl, rfl⟩, fun h => by rw [HE.out] at h; cases h⟩
    · have h128' : ((s[0]'(by omega)).toNat : Int) < 128 := by rw [hc0]; omega
      have hq0 : rB s.data.toList 0 < 128 := by omega
      have b1 : bits .and .u8 ((s[0]'(by omega)).toNat : Int) 63 = ((rB s.data.toList 0 % 64 : Nat) : Int) := by
        rw [hc0]; exact and63 ⟨_, rB_lt _ _⟩
      have b2 : (bits .and .u8 ((s[0]'(by omega)).toNat : Int) 64 != 0) = decide (64 ≤ rB s.data.toList 0) := by
        rw [hc0]; exact and64 ⟨_, hq0⟩
      have b3 : ((s[1]'(by omega)).toNat : Int) = ((rB s.data.toList 1 : Nat) : Int) := by rw [hc1]
      have hE : readE s.data.toList = match headRow ((rB s.data.toList 0 % 64 : Nat) : Int) with
        | none => some (1, none)
        | some r => match rightR ((rB s.data.toList 0 % 64 : Nat) : Int) (decide (64 ≤ rB s.data.toList 0)) (rB s.data.toList 1) (readV r.2.2.2 s.data.toList) with
          | some e => some e
          | none => if layAll (headB r.1 (decide (64 ≤ rB s.data.toList 0)) (rB s.data.toList 1) (rB s.data.toList 4) (rB s.data.toList 5 * 65536 + rB s.data.toList 6 * 256 + rB s.data.toList 7)) r.2.2.2 (readV r.2.2.2 s.data.toList) = s.data.toList then none else some (3, none) := by
        rw [readE, if_neg (fun h => h hlz), if_neg h128]
      obtain ⟨E, hEE⟩ : ∃ E, readE s.data.toList = E := ⟨_, rfl⟩
      have hOPl : rB s.data.toList 0 % 64 < 64 := Nat.mod_lt _ (by omega)
      have hFLl := rB_lt s.data.toList 1
      obtain ⟨OP, hOP⟩ : ∃ OP, rB s.data.toList 0 % 64 = OP := ⟨_, rfl⟩
      obtain ⟨NOW, hNOW⟩ : ∃ NOW, decide (64 ≤ rB s.data.toList 0) = NOW := ⟨_, rfl⟩
      obtain ⟨FL, hFL⟩ : ∃ FL, rB s.data.toList 1 = FL := ⟨_, rfl⟩
      rw [hOP] at b1 hE hOPl
      rw [hNOW] at b2 hE
      rw [hFL] at b3 hE hFLl
      rw [hEE] at hE
      have HE := Lib.hid hE
      have HEE := Lib.hid hEE
      have HOP := Lib.hid hOP
      have HNOW := Lib.hid hNOW
      have HFL := Lib.hid hFL
      have HZ0 := Lib.hid h128
      clear hE hEE hOP hNOW hFL h128 hc0 hc1 hq0
      have hzz : ((s.size : Int) != 48) = false := by rw [hz]; rfl
      go_enter Tryd.func9, Tryd.ntmps9
      go_wp2_with fail
      go_region
      go_wp2_with fail
      have hbO : Below g w (w.alloc (.cells #[.int .i64 OP, .bool NOW, .int .i64 FL, .slice none 0 0] 38)).drew := by
        rw [← hg]; exact ((Below.refl _ _).alloc (Nat.le_refl _) _).drew
      have hBO : Blk (w.alloc (.cells #[.int .i64 OP, .bool NOW, .int .i64 FL, .slice none 0 0] 38)).drew g 38 #[.int .i64 OP, .bool NOW, .int .i64 FL, .slice none 0 0] := by
        rw [← hg]; exact Blk.new w _ _
      obtain ⟨w0, hw0⟩ : ∃ w0 : World, (w.alloc (.cells #[.int .i64 OP, .bool NOW, .int .i64 FL, .slice none 0 0] 38)).drew = w0 := ⟨_, rfl⟩
      rw [hw0] at hbO hBO ⊢
      clear hw0 hZ hbZ
      have hb0' : Below w.heap.size w w0 := by rw [hg]; exact hbO
      have hgw : g ≤ w0.heap.size := Nat.le_of_lt hBO.lt
      refine (fields_any OP _ (by omega) (T.on hb0') (shaped_ons hS hb0')).mono ?_
      rintro e w1 ⟨hfi, hb1⟩
      have hbw1 : Below g w w1 := hbO.trans (hb1.mono hgw)
      have hB1 := hBO.below hb1 hBO.lt
      rcases hr : headRow (OP : Int) with _ | r
      · rw [hr] at hfi
        obtain rfl : e = _ := hfi
        rw [show errv 1 = .iface 45 (.int .i64 1) from rfl]
        have hEz : E = some (1, none) := by rw [HE.out, hr]
        subst hEz
        have c0 := hB1.cell 0
        have c1 := hB1.cell 1
        have c2 := hB1.cell 2
        have c3 := hB1.cell 3
        have k0 := hB1.frozen 0
        have k1 := hB1.frozen 1
        have k2 := hB1.frozen 2
        have k3 := hB1.frozen 3
        clear hr HE
        go_wp2_with fail
        try rw [hg]
        have hB9 := (((hB1.put 0 (.int .i64 0)).put 1 (.bool false)).put 2 (.int .i64 0)).put 3 (.slice none 0 0)
        refine bodyPost_ret (results_s4 rfl _ _ g _ _ _ _ _ _ rfl rfl rfl rfl hB9 Tryd.underlying38 rfl (by kernel_rfl)) rfl ⟨?_, (((hbw1.setCell (Nat.le_refl _) _).setCell (Nat.le_refl _) _).setCell (Nat.le_refl _) _).setCell (Nat.le_refl _) _⟩
        exact ⟨_, _, _, _, rfl, by rw [HEE.out]; rfl, fun _ => ⟨rfl, rfl, rfl⟩, fun h => by rw [HEE.out] at h; cases h⟩
      · have hrm := headRow_mem hr
        have hop := headRow_op hr
        rw [hr] at hfi
        obtain ⟨lv, rfl, hrow⟩ := hfi
        have hpos := headT_pos r hrm
        obtain ⟨N, hN⟩ : ∃ N, r.2.2.2.length = N := ⟨_, rfl⟩
        rw [hN] at hpos
        obtain ⟨lb, lcap, rfl, hlbg, hlc, hlm⟩ : ∃ lb lcap, lv = .slice (some ⟨lb, 0, none⟩) N lcap ∧ w0.heap.size ≤ lb ∧ N ≤ lcap ∧ lcap ≤ maxLen := by
          rcases hrow.2 with ⟨_, h⟩ | ⟨lb, lcap, cur, h1, h2, h3, h4, h5, _⟩
          · omega
          · exact ⟨lb, lcap, by rw [h1, hN], h2, by omega, h5⟩
        unfold maxLen at hlm
        have hlcell : ∀ j u, (fCells r.2.2.2)[j]? = some u → w1.cell? ⟨lb, j, none⟩ = some u := by
          have hrow' := hrow
          unfold FRow at hrow'
          rw [hN] at hrow'
          exact fun j u hu => hrow'.cellAt j u hu
        have HLC := Lib.hid hlcell
        have HOK := Lib.hid (okAll_mem _ (headT_ok r hrm))
        have hg0 := hBO.lt
        have hg1 := hB1.lt
        obtain ⟨VS, hVS⟩ : ∃ VS, readV r.2.2.2 s.data.toList = VS := ⟨_, rfl⟩
        have hVz : VS.length = N := by rw [← hVS, readV_len, hN]
        have HVS := Lib.hid hVS
        have HR := Lib.hid hr
        clear hlcell hrow hb1 hBO hbO hb0' hr hVS
        go_wp2_with fail
        go_loopw [48] (fun i wr => ∃ (k : Nat) (vv : Value), k ≤ N ∧ i = .int .i64 k ∧ Step g w1 wr ∧ Blk wr g 38 #[.int .i64 OP, .bool NOW, .int .i64 FL, vv] ∧ VRow wr w1.heap.size vv (VS.take k)) (fun i _ => N - (intOf i).toNat)
        case atStart => exact ⟨0, _, Nat.zero_le _, rfl, Step.refl _ _, hB1, MRow.nil _ _ _ _⟩
        case round =>
          obtain ⟨k, vv, hk, rfl, hst, hBk, hvr⟩ := hrel
          have hs3 := hst.size
          by_cases hlt : k < N
          · obtain ⟨f, hf⟩ : ∃ f, r.2.2.2[k]? = some f := ⟨_, List.getElem?_eq_getElem (by omega)⟩
            have hok := HOK.out f (List.mem_of_getElem? hf)
            simp only [okF, Bool.and_eq_true, decide_eq_true_eq] at hok
            have hk8 : f.2.2 ≤ 8 := hok.2
            have hat : f.2.1 + f.2.2 ≤ 48 := hok.1.1.1.2
            have hc := fCells_at _ _ _ hf
            have e0 : wr.cell? ⟨lb, 3 * k, none⟩ = some (.string ⟨f.1.toArray⟩) := hst.cell (by simp only; omega) (HLC.out _ _ hc.1)
            have e1 : wr.cell? ⟨lb, 3 * k + 1, none⟩ = some (.int .i64 f.2.1) := hst.cell (by simp only; omega) (HLC.out _ _ hc.2.1)
            have e2 : wr.cell? ⟨lb, 3 * k + 2, none⟩ = some (.int .i64 f.2.2) := hst.cell (by simp only; omega) (HLC.out _ _ hc.2.2)
            rw [Nat.mul_comm] at e0 e1 e2
            obtain ⟨X, hX⟩ : ∃ X, s.extract f.2.1 (f.2.1 + f.2.2) = X := ⟨_, rfl⟩
            have hXd : X.data.toList = (s.data.toList.drop f.2.1).take f.2.2 := by
              rw [← hX, ext_of]
              simp
            have hXz : X.size ≤ 8 := by rw [← hX, ByteArray.size_extract]; omega
            have hvk : VS[k]? = some (getN X.data.toList) := by rw [← HVS.out, readV, List.getElem?_map, hf, hXd]; rfl
            have htk : VS.take (k + 1) = VS.take k ++ [getN X.data.toList] := by rw [List.take_add_one, hvk]; rfl
            have hlk : (VS.take k).length = k := by rw [List.length_take]; omega
            have HX := Lib.hid hX
            have HT := Lib.hid htk
            have HL := Lib.hid hlk
            clear hok hc hf hXd hvk htk hlk hX
            go_wp2_with fail
            rw [HX.out]
            refine (get_any X _ hXz).mono ?_
            rintro e w4 ⟨rfl, rfl⟩
            have hb4 : Below wr.heap.size wr (wr.alloc (.cells #[.string ⟨f.1.toArray⟩, .int .i64 f.2.1, .int .i64 f.2.2] 33)) := (Below.refl _ _).alloc (Nat.le_refl _) _
            obtain ⟨w4, hw4⟩ : ∃ w4 : World, wr.alloc (.cells #[.string ⟨f.1.toArray⟩, .int .i64 f.2.1, .int .i64 f.2.2] 33) = w4 := ⟨_, rfl⟩
            obtain ⟨G, hG⟩ : ∃ G, wr.heap.size = G := ⟨_, rfl⟩
            obtain ⟨n, hn⟩ : ∃ n, getN X.data.toList = n := ⟨_, rfl⟩
            rw [hw4] at hb4 ⊢
            rw [hG, hn]
            rw [hn] at HT
            have hst4 : Step g w1 w4 := hst.trans (.of_below hb4)
            have hBk4 := hBk.below hb4 hBk.lt
            have hvr4 : VRow w4 w1.heap.size vv (VS.take k) := MRow.below hvr hb4 (Nat.le_refl _)
            have hs4 : w1.heap.size ≤ w4.heap.size := hst4.size
            have c3 := hBk4.cell 3
            clear e0 e1 e2 hst hBk hvr hw4 hb4 hn
            go_wp2_with (at_builtin; refine wpList_append_u64 _ rfl _ _ rfl w1.heap.size _ (VS.take k) rfl ?g0 ⟨w4.heap.size, 0, none⟩ n 1 rfl ?g1 ?g2 ?g3 (w0 := w4) ?g4 ?_)
            case g0 => exact MRow.alloc hvr4 _
            case g1 => exact cell_new_u w4 _ _
            case g2 => rw [HL.out]; omega
            case g3 => simp; omega
            case g4 => exact (Below.refl _ _).alloc hs4 _
            intro v6 w6 hvr6 hb6
            obtain ⟨A6, cap6, rfl⟩ : ∃ A cap, v6 = .slice A (k + 1) cap := by
              obtain ⟨A, cap, hv, _⟩ := MRow.form hvr6
              rw [List.length_append, HL.out] at hv
              exact ⟨A, cap, hv⟩
            have hBk6 := hBk4.below hb6 (by omega)
            have hst6 : Step g w1 w6 := hst4.then_below hb6 (Nat.le_refl _)
            have k3 := hBk6.cell 3
            have f3 := hBk6.frozen 3
            clear c3
            go_wp2_with fail
            go_roundw
            case rel => exact ⟨k + 1, _, by omega, by go_num, hst6.trans (Step.setCell _ _ _ _), hBk6.put 3 _, by rw [HT.out]; exact VRow.store hvr6 hg1⟩
            case measure => simp [intOf]; omega
          · obtain ⟨VA, vcap, rfl⟩ : ∃ A cap, vv = .slice A k cap := by
              obtain ⟨A, cap, hv, _⟩ := MRow.form hvr
              rw [List.length_take, hVz, Nat.min_eq_left hk] at hv
              exact ⟨A, cap, hv⟩
            have hkN : k = N := by omega
            subst hkN
            have hfull : VS.take k = VS := List.take_of_length_le (by omega)
            have hsr : SRd wr (.slice VA k vcap) 1 VS.length (VS.map u64V) := by
              have := SRd.of_m hvr
              rw [hfull] at this
              exact this
            have hbwr : Below g w wr := hbw1.trans (hst.below (Nat.le_refl _) (by omega))
            have hbwr' : Below w.heap.size w wr := by rw [hg]; exact hbwr
            have c0 := hBk.cell 0
            have c1 := hBk.cell 1
            have c2 := hBk.cell 2
            have c3 := hBk.cell 3
            have hVl : ∀ x ∈ VS, x < 18446744073709551616 := by
              intro x hx
              obtain ⟨i, hi⟩ := List.getElem?_of_mem hx
              rw [← HVS.out] at hi
              have hi2 := hi
              rw [readV, List.getElem?_map] at hi2
              rcases hfi : r.2.2.2[i]? with _ | f
              · rw [hfi] at hi2; cases hi2
              · have := readV_lt _ _ i f x hfi hi
                have hk8 := HOK.out f (List.mem_of_getElem? hfi)
                simp only [okF, Bool.and_eq_true, decide_eq_true_eq] at hk8
                exact Nat.lt_of_lt_of_le this (Nat.le_trans (Nat.pow_le_pow_right (by omega) (Nat.mul_le_mul_left 8 hk8.2)) (by decide))
            have hVA : ∀ a, VA = some a → a.block ≠ g := by
              intro a ha
              obtain ⟨A2, c2, hv2, _, _, hx⟩ := MRow.form hvr
              injection hv2 with p1 p2 p3
              have := (hx a (by rw [← p1]; exact ha)).2.2.1
              omega
            have hVG : ∀ a, VA = some a → g ≤ a.block := by
              intro a ha
              obtain ⟨A2, c2, hv2, _, _, hx⟩ := MRow.form hvr
              injection hv2 with p1 p2 p3
              have := (hx a (by rw [← p1]; exact ha)).2.2.1
              omega
            have HVG := Lib.hid hVG
            clear hvr hfull hVG
            go_wp2_with fail
            refine (right_any OP NOW FL VS _ _ (by omega) (by omega) (by rw [hVz] at hsr ⊢; exact hsr) hVl (T.on hbwr') (shaped_ons hS hbwr')).mono ?_
            rintro e w5 ⟨er, rfl, her, hb5⟩
            have hgr : g < wr.heap.size := hBk.lt
            have hB5 := hBk.below hb5 hgr
            have hbw5 : Below g w w5 := hbwr.trans (hb5.mono (Nat.le_of_lt hgr))
            have hsr5 := hsr.on hb5
            have hHE : E = match rightR (OP : Int) NOW FL VS with
              | some e => some e
              | none => if layAll (headB r.1 NOW FL (rB s.data.toList 4) (rB s.data.toList 5 * 65536 + rB s.data.toList 6 * 256 + rB s.data.toList 7)) r.2.2.2 VS = s.data.toList then none else some (3, none) := by
              rw [HE.out, HR.out]
              simp only
              rw [HVS.out]
            rcases hrr : rightR (OP : Int) NOW FL VS with _ | ⟨ec, eo⟩
            · rw [hrr] at her
              obtain rfl : er = .nilIface := her
              have hEz : E = if layAll (headB r.1 NOW FL (rB s.data.toList 4) (rB s.data.toList 5 * 65536 + rB s.data.toList 6 * 256 + rB s.data.toList 7)) r.2.2.2 VS = s.data.toList then none else some (3, none) := by rw [hHE, hrr]
              have HEz := Lib.hid hEz
              have HRR := Lib.hid hrr
              have d0 := hB5.cell 0
              have d1 := hB5.cell 1
              have d2 := hB5.cell 2
              have d3 := hB5.cell 3
              clear hEz hrr hHE HE hBk hsr hbwr hbwr' c0 c1 c2 c3 hst hB1
              go_wp2_with fail
              have a4 : ((s[4]'(by omega)).toNat : Int) = ((rB s.data.toList 4 : Nat) : Int) := by rw [hc4]
              have a5 : ((s[5]'(by omega)).toNat : Int) = ((rB s.data.toList 5 : Nat) : Int) := by rw [hc5]
              have a6 : ((s[6]'(by omega)).toNat : Int) = ((rB s.data.toList 6 : Nat) : Int) := by rw [hc6]
              have a7 : ((s[7]'(by omega)).toNat : Int) = ((rB s.data.toList 7 : Nat) : Int) := by rw [hc7]
              have hB4 := rB_lt s.data.toList 4
              have hB5' := rB_lt s.data.toList 5
              have hB6 := rB_lt s.data.toList 6
              have hB7 := rB_lt s.data.toList 7
              have hor := or_data _ _ _ hB5' hB6 hB7
              obtain ⟨B4, hb4⟩ : ∃ B, rB s.data.toList 4 = B := ⟨_, rfl⟩
              obtain ⟨B5, hb5⟩ : ∃ B, rB s.data.toList 5 = B := ⟨_, rfl⟩
              obtain ⟨B6, hb6⟩ : ∃ B, rB s.data.toList 6 = B := ⟨_, rfl⟩
              obtain ⟨B7, hb7⟩ : ∃ B, rB s.data.toList 7 = B := ⟨_, rfl⟩
              obtain ⟨D, hD⟩ : ∃ D, B5 * 65536 + B6 * 256 + B7 = D := ⟨_, rfl⟩
              rw [hb5, hb6, hb7, hD] at hor
              rw [hb4] at a4 hB4
              rw [hb5] at a5 hB5'
              rw [hb6] at a6 hB6
              rw [hb7] at a7 hB7
              have hDl : D < 16777216 := by omega
              have HB := Lib.hid (And.intro hb4 (show rB s.data.toList 5 * 65536 + rB s.data.toList 6 * 256 + rB s.data.toList 7 = D by rw [hb5, hb6, hb7, hD]))
              clear hb4 hb5 hb6 hb7 hD hc4 hc5 hc6 hc7
              go_region
              go_wp2_with fail
              have hbd : Below w5.heap.size w5 w5.drew := (Below.refl _ _).drew
              obtain ⟨w6, hw6⟩ : ∃ w6 : World, w5.drew = w6 := ⟨_, rfl⟩
              rw [hw6] at hbd ⊢
              have hBd := hB5.below hbd hB5.lt
              have hsr6 := hsr5.on hbd
              have hbw6 : Below g w w6 := hbw5.trans (hbd.mono (Nat.le_of_lt hB5.lt))
              have hbw6' : Below w.heap.size w w6 := by rw [hg]; exact hbw6
              clear d0 d1 d2 d3 hw6 hsr5 hbw5 hbd hB5
              refine (write_ok OP NOW FL VS _ B4 D r _ (by omega) hFLl (by rw [hVz] at hsr6 ⊢; exact hsr6) hVl (T.on hbw6') (shaped_ons hS hbw6') HR.out HRR.out hB4 hDl).mono ?_
              rintro e w7 ⟨rfl, hb7⟩
              have hB8 := hBd.below hb7 hBd.lt
              have hsr7 := hsr6.on hb7
              have hsr9 : SRd ((((w7.setCell ⟨g, 0, none⟩ (.int .i64 OP)).setCell ⟨g, 1, none⟩ (.bool NOW)).setCell ⟨g, 2, none⟩ (.int .i64 FL)).setCell ⟨g, 3, none⟩ (.slice VA k vcap)) (.slice VA k vcap) 1 VS.length (VS.map u64V) := (((hsr7.off g hVA _ _).off g hVA _ _).off g hVA _ _).off g hVA _ _
              have hbw7 : Below g w w7 := hbw6.trans (hb7.mono (Nat.le_of_lt hBd.lt))
              obtain ⟨TT, hTT⟩ : ∃ TT : ByteArray, (⟨(layAll (headB r.1 NOW FL B4 D) r.2.2.2 VS).toArray⟩ : ByteArray) = TT := ⟨_, rfl⟩
              rw [hTT]
              have hTd : TT.data.toList = layAll (headB r.1 NOW FL B4 D) r.2.2.2 VS := by rw [← hTT]
              have hEz : E = if TT.data.toList = s.data.toList then none else some (3, none) := by
                rw [HEz.out, hTd, HB.out.1, HB.out.2]
              have HE2 := Lib.hid hEz
              clear hTT hTd hEz HEz
              by_cases hq : TT.data.toList = s.data.toList
              · have hEn : E = none := by rw [HE2.out, if_pos hq]
                have f0 : (TT.toList == s.toList) = true := by rw [toList_of, toList_of, hq]; simp
                have f1 : (TT.toList != s.toList) = false := by rw [bne, f0]; rfl
                have HEN := Lib.hid hEn
                have d0 := hB8.cell 0
                have d1 := hB8.cell 1
                have d2 := hB8.cell 2
                have d3 := hB8.cell 3
                have k0 := hB8.frozen 0
                have k1 := hB8.frozen 1
                have k2 := hB8.frozen 2
                have k3 := hB8.frozen 3
                clear hq hEn HE2
                go_wp2_with fail
                try rw [hg]
                have hB9 : Blk _ g 38 #[.int .i64 OP, .bool NOW, .int .i64 FL, .slice VA k vcap] := (((hB8.put 0 (.int .i64 OP)).put 1 (.bool NOW)).put 2 (.int .i64 FL)).put 3 (.slice VA k vcap)
                refine bodyPost_ret (results_s4 rfl _ _ g _ _ _ _ _ _ rfl rfl rfl rfl hB9 Tryd.underlying38 rfl (by kernel_rfl)) rfl ⟨?_, (((hbw7.setCell (Nat.le_refl _) _).setCell (Nat.le_refl _) _).setCell (Nat.le_refl _) _).setCell (Nat.le_refl _) _⟩
                refine ⟨_, _, _, _, rfl, by rw [HEE.out, HEN.out]; rfl, fun h => absurd (HEE.out.trans HEN.out) h, fun _ => ⟨r, _, by rw [HOP.out]; exact HR.out, by rw [HOP.out, HNOW.out, HFL.out], ?_, by rw [HB.out.1], by rw [HB.out.2], fun A n c hv => by injection hv with e1; rw [← e1]; exact HVG.out⟩⟩
                rw [HVS.out]
                exact hsr9
              · have hEn : E = some (3, none) := by rw [HE2.out, if_neg hq]
                have f0 : (TT.toList == s.toList) = false := by rw [toList_of, toList_of]; simpa using hq
                have f1 : (TT.toList != s.toList) = true := by rw [bne, f0]; rfl
                have HEN := Lib.hid hEn
                have d0 := hB8.cell 0
                have d1 := hB8.cell 1
                have d2 := hB8.cell 2
                have d3 := hB8.cell 3
                have k0 := hB8.frozen 0
                have k1 := hB8.frozen 1
                have k2 := hB8.frozen 2
                have k3 := hB8.frozen 3
                clear hq hEn HE2
                go_wp2_with fail
                try rw [hg]
                have hB9 := (((hB8.put 0 (.int .i64 0)).put 1 (.bool false)).put 2 (.int .i64 0)).put 3 (.slice none 0 0)
                refine bodyPost_ret (results_s4 rfl _ _ g _ _ _ _ _ _ rfl rfl rfl rfl hB9 Tryd.underlying38 rfl (by kernel_rfl)) rfl ⟨?_, (((hbw7.setCell (Nat.le_refl _) _).setCell (Nat.le_refl _) _).setCell (Nat.le_refl _) _).setCell (Nat.le_refl _) _⟩
                exact ⟨_, _, _, _, rfl, by rw [HEE.out, HEN.out]; rfl, fun _ => ⟨rfl, rfl, rfl⟩, fun h => by rw [HEE.out, HEN.out] at h; cases h⟩
            · rw [hrr] at her
              obtain ⟨et, ex, rfl⟩ := her.iface
              have hEz : E = some (ec, eo) := by rw [hHE, hrr]
              have HEz := Lib.hid hEz
              have HHR := Lib.hid her
              have d0 := hB5.cell 0
              have d1 := hB5.cell 1
              have d2 := hB5.cell 2
              have d3 := hB5.cell 3
              have k0 := hB5.frozen 0
              have k1 := hB5.frozen 1
              have k2 := hB5.frozen 2
              have k3 := hB5.frozen 3
              clear hEz hrr hHE HE hBk hsr hbwr hbwr' c0 c1 c2 c3 hst hB1 her
              go_wp2_with fail
              try rw [hg]
              have hB9 := (((hB5.put 0 (.int .i64 0)).put 1 (.bool false)).put 2 (.int .i64 0)).put 3 (.slice none 0 0)
              refine bodyPost_ret (results_s4 rfl _ _ g _ _ _ _ _ _ rfl rfl rfl rfl hB9 Tryd.underlying38 rfl (by kernel_rfl)) rfl ⟨?_, (((hbw5.setCell (Nat.le_refl _) _).setCell (Nat.le_refl _) _).setCell (Nat.le_refl _) _).setCell (Nat.le_refl _) _⟩
              refine ⟨_, _, _, _, rfl, ?_, fun _ => ⟨rfl, rfl, rfl⟩, fun h => by rw [HEE.out, HEz.out] at h; cases h⟩
              rw [HEE.out, HEz.out]
              exact HErr.more ((((HHR.out.store hgr).store hgr).store hgr).store hgr) (Nat.le_of_lt hgr)
  · have hE : readE s.data.toList = some (7, none) := by rw [readE, if_pos (by rw [len_of]; exact hz)]
    have HE := Lib.hid hE
    have hz' : ((s.size : Int) != 48) = true := by simp; omega
    clear hE
    go_enter Tryd.func9, Tryd.ntmps9
    go_wp2_with fail
    try rw [hg]
    refine bodyPost_ret (results_s4 rfl _ _ g _ _ _ _ _ _ rfl rfl rfl rfl hZ Tryd.underlying38 rfl (by kernel_rfl)) rfl ⟨?_, hbZ⟩
    exact ⟨_, _, _, _, rfl, by rw [HE.out]; rfl, fun _ => ⟨rfl, rfl, rfl⟩, fun h => by rw [HE.out] at h; cases h⟩
end Go.Proofs.YtfdbbfladgepgaaDoor
