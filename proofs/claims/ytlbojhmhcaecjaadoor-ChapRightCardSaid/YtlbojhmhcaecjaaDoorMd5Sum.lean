/- The contract of md5.Sum. -/
import Derived.Test.YtlbojhmhcaecjaaDoorMd5
import Derived.Great.BuildSlice
import Derived.StillTailTactics
namespace Go.Proofs.YtlbojhmhcaecjaaDoor
open Go.ChangeShapes Go.WideShapes Go.ChangeAt Go.RowKit
set_option linter.unusedVariables false
def sineL : List Int := [3614090360, 3905402710, 606105819, 3250441966, 4118548399, 1200080426, 2821735955, 4249261313, 1770035416, 2336552879, 4294925233, 2304563134, 1804603682, 4254626195, 2792965006, 1236535329, 4129170786, 3225465664, 643717713, 3921069994, 3593408605, 38016083, 3634488961, 3889429448, 568446438, 3275163606, 4107603335, 1163531501, 2850285829, 4243563512, 1735328473, 2368359562, 4294588738, 2272392833, 1839030562, 4259657740, 2763975236, 1272893353, 4139469664, 3200236656, 681279174, 3936430074, 3572445317, 76029189, 3654602809, 3873151461, 530742520, 3299628645, 4096336452, 1126891415, 2878612391, 4237533241, 1700485571, 2399980690, 4293915773, 2240044497, 1873313359, 4264355552, 2734768916, 1309151649, 4149444226, 3174756917, 718787259, 3951481745]
def sineA : Array Value := (sineL.map (Value.int .u32)).toArray
theorem sineA_all : sineA.all (·.oneCell') = true := by kernel_rfl
theorem sineA_size : sineA.size = 64 := by kernel_rfl
def zeroA : Array Value := (List.replicate 64 (Value.int .u32 0)).toArray
theorem zeroA_size : zeroA.size = 64 := by kernel_rfl
set_option maxRecDepth 20000 in
theorem sines_any (w : World) : Calls Tryd.prog 80 #[] w fun e w' => e = .returned (.agg sineA) ∧ Below w.heap.size w w' := by
  go_enter Tryd.func80, Tryd.ntmps80
  have hg := heap_alloc_new w (.cells zeroA 138 (0, 0))
  go_wp2_with (first | (refine wpList_buildFlatArr rfl 138 52 64 _ rfl .u32 sineL Tryd.underlying138 (by kernel_rfl) (by kernel_rfl) (by kernel_rfl) ?_; rw [show (sineL.map (Value.int .u32)).toArray = sineA from rfl]) | (refine wpList_store_row rfl 138 _ _ rfl w.heap.size sineA rfl rfl 138 zeroA hg (by kernel_rfl) (by kernel_rfl) sineA_all ?_))
  have h2 := setRow_heap _ w.heap.size _ sineA _ _ hg
  refine bodyPost_ret (results_cell_row rfl _ _ w.heap.size _ sineA _ _ rfl h2 Tryd.underlying138 rfl (by kernel_rfl)) rfl ⟨rfl, ?_⟩
  exact below_setRow ((Below.refl _ _).alloc (Nat.le_refl _) _) (Nat.le_refl _) _
def turnL : List Int := [7, 12, 17, 22, 5, 9, 14, 20, 4, 11, 16, 23, 6, 10, 15, 21]
def stA (q : Int × Int × Int × Int) : Array Value := #[.int .u32 q.1, .int .u32 q.2.1, .int .u32 q.2.2.1, .int .u32 q.2.2.2]
def wordI (P : List UInt8) (m k : Nat) : Int :=
  bits .or .u32 (bits .or .u32 (bits .or .u32 (((P[64 * m + 4 * k]?.getD 0).toNat : Int) % 4294967296) (((P[64 * m + (4 * k + 1)]?.getD 0).toNat : Int) % 4294967296 * 256 % 4294967296))
    (((P[64 * m + (4 * k + 2)]?.getD 0).toNat : Int) % 4294967296 * 65536 % 4294967296)) (((P[64 * m + (4 * k + 3)]?.getD 0).toNat : Int) % 4294967296 * 16777216 % 4294967296)
def xA (P : List UInt8) (m k : Nat) : Array Value := ((List.range k).map (fun i => Value.int .u32 (wordI P m i)) ++ List.replicate (16 - k) (Value.int .u32 0)).toArray
theorem xA_at (P : List UInt8) (m k : Nat) (h : k < 16) : (xA P m k)[k]? = some (.int .u32 0) := by
  rw [xA, List.getElem?_toArray, List.getElem?_append_right (by simp), List.getElem?_replicate, if_pos (by simp; omega)]
theorem grown_set {a b : World} {g : Nat} (h : a.grownBy b (some g)) (i : Nat) (u : Value) : a.grownBy (b.setCell ⟨g, i, none⟩ u).drew (some g) :=
  ⟨h.os, h.tape, h.output, by simpa [World.setCell] using h.size, fun k hk hne => (Below.heap_setCell b ⟨g, i, none⟩ u k (fun e => hne (by rw [e]))).trans (h.block k hk hne)⟩
theorem xA_set (P : List UInt8) (m k : Nat) (h : k < 16) : (xA P m k).setIfInBounds k (.int .u32 (wordI P m k)) = xA P m (k + 1) := by
  apply Array.toList_inj.1
  rw [Array.toList_setIfInBounds]
  simp only [xA]
  rw [List.set_append_right _ _ (by simp), show 16 - k = (16 - (k + 1)) + 1 from by omega, List.replicate_succ, List.range_succ]
  simp
def turnA : Array Value := (turnL.map (Value.int .i64)).toArray
def roundF (c : Nat) (qb qc qd : Int) : Int :=
  if c = 0 then bits .or .u32 (bits .and .u32 qb qc) (bits .and .u32 (bits .xor .u32 IntKind.u32.max qb) qd)
  else if c = 1 then bits .or .u32 (bits .and .u32 qd qb) (bits .and .u32 (bits .xor .u32 IntKind.u32.max qd) qc)
  else if c = 2 then bits .xor .u32 (bits .xor .u32 qb qc) qd
  else bits .xor .u32 qc (bits .or .u32 qb (bits .xor .u32 IntKind.u32.max qd))
def roundG (j : Nat) : Nat := if j / 16 = 0 then j else if j / 16 = 1 then (5 * j + 1) % 16 else if j / 16 = 2 then (3 * j + 5) % 16 else 7 * j % 16
def stepR (P : List UInt8) (m j : Nat) (q : Int × Int × Int × Int) : Int × Int × Int × Int :=
  (q.2.2.2, (q.2.1 + rotI ((q.1 + roundF (j / 16) q.2.1 q.2.2.1 q.2.2.2 + (sineL[j]?.getD 0) + wordI P m (roundG j)) % 4294967296) (turnL[4 * (j / 16) + j % 4]?.getD 0)) % 4294967296, q.2.1, q.2.2.1)
def mdRounds (P : List UInt8) (m : Nat) (q : Int × Int × Int × Int) : Nat → Int × Int × Int × Int
  | 0 => q
  | j + 1 => stepR P m j (mdRounds P m q j)
theorem sine_at (j : Nat) (h : j < 64) : sineA[j]? = some (.int .u32 (sineL[j]?.getD 0)) := by
  have hl : j < sineL.length := h
  show ((sineL.map (Value.int .u32)).toArray)[j]? = _
  rw [List.getElem?_toArray, List.getElem?_map, List.getElem?_eq_getElem hl]
  rfl
theorem turn_all : ∀ i : Fin 16, 1 ≤ turnL[i.val]?.getD 0 ∧ turnL[i.val]?.getD 0 ≤ 31 := by decide +kernel
theorem turn_at (j : Nat) (h : j < 16) : ∃ T : Int, T = turnL[j]?.getD 0 ∧ turnA[j]? = some (.int .i64 T) ∧ 1 ≤ T ∧ T ≤ 31 := by
  refine ⟨_, rfl, ?_, (turn_all ⟨j, h⟩).1, (turn_all ⟨j, h⟩).2⟩
  have hl : j < turnL.length := h
  show ((turnL.map (Value.int .i64)).toArray)[j]? = _
  rw [List.getElem?_toArray, List.getElem?_map, List.getElem?_eq_getElem hl]
  rfl
theorem xA_full (P : List UInt8) (m k : Nat) (h : k < 16) : (xA P m 16)[k]? = some (.int .u32 (wordI P m k)) := by
  rw [xA, List.getElem?_toArray, List.getElem?_append_left (by simpa using h), List.getElem?_map, List.getElem?_range h]
  rfl
theorem quiet_add {P : Program} {f : FuncId} {args : Array Value} {w : World} {a n : Nat} {v : Value}
    (h : Calls P f args (w.drewN (a + n)) fun e w' => e = .returned v ∧ w.drewN (a + n) = w') : Calls P f args (w.drewN (a + n)) fun e w'' => e = .returned v ∧ ∃ m, w'' = w.drewN (a + m) :=
  h.mono fun _ _ ⟨he, hm⟩ => ⟨he, n, hm.symm⟩
theorem cell_grown {a b : World} {row : Option Nat} {k i : Nat} (h : a.grownBy b row) (hk : k < a.heap.size) (hne : some k ≠ row) : b.cell? ⟨k, i, none⟩ = a.cell? ⟨k, i, none⟩ := World.cell?_of_block (h.block k hk hne)
def addQ (q r : Int × Int × Int × Int) : Int × Int × Int × Int := ((q.1 + r.1) % 4294967296, (q.2.1 + r.2.1) % 4294967296, (q.2.2.1 + r.2.2.1) % 4294967296, (q.2.2.2 + r.2.2.2) % 4294967296)
def mdState (P : List UInt8) : Nat → Int × Int × Int × Int
  | 0 => (1732584193, 4023233417, 2562383102, 271733878)
  | n + 1 => addQ (mdState P n) (mdRounds P n (mdState P n) 64)
theorem ix0 (a b c d : Int) (w : World) : (Instr.index 142 (.agg #[.int .u32 a, .int .u32 b, .int .u32 c, .int .u32 d]) (.int .i64 0)).run Tryd.prog w = .ok (.int .u32 a) w := by kernel_rfl
theorem ix1 (a b c d : Int) (w : World) : (Instr.index 142 (.agg #[.int .u32 a, .int .u32 b, .int .u32 c, .int .u32 d]) (.int .i64 1)).run Tryd.prog w = .ok (.int .u32 b) w := by kernel_rfl
theorem ix2 (a b c d : Int) (w : World) : (Instr.index 142 (.agg #[.int .u32 a, .int .u32 b, .int .u32 c, .int .u32 d]) (.int .i64 2)).run Tryd.prog w = .ok (.int .u32 c) w := by kernel_rfl
theorem ix3 (a b c d : Int) (w : World) : (Instr.index 142 (.agg #[.int .u32 a, .int .u32 b, .int .u32 c, .int .u32 d]) (.int .i64 3)).run Tryd.prog w = .ok (.int .u32 d) w := by kernel_rfl
theorem grown_via {a b c : World} {row : Option Nat} {x : Nat} (h : a.grownBy b row) (k : b.grownBy c (some x)) (hx : a.heap.size ≤ x) : a.grownBy c row :=
  ⟨k.os.trans h.os, k.tape.trans h.tape, k.output.trans h.output, Nat.le_trans h.size k.size, fun i hi hne => (k.block i (Nat.lt_of_lt_of_le hi h.size) (fun e => by have := Option.some.inj e; omega)).trans (h.block i hi hne)⟩
theorem grown_set0 {a b : World} {g : Nat} (h : a.grownBy b (some g)) (i : Nat) (u : Value) : a.grownBy (b.setCell ⟨g, i, none⟩ u) (some g) :=
  ⟨h.os, h.tape, h.output, by simpa [World.setCell] using h.size, fun k hk hne => (Below.heap_setCell b ⟨g, i, none⟩ u k (fun e => hne (by rw [e]))).trans (h.block k hk hne)⟩
theorem grown_drewN {a b : World} {row : Option Nat} (h : a.grownBy b row) (n : Nat) : a.grownBy (b.drewN n) row := ⟨h.os, h.tape, h.output, h.size, h.block⟩
def b4 (q : Int) : List UInt8 := [UInt8.ofNat (q % 256).toNat, UInt8.ofNat (q / 256 % 256).toNat, UInt8.ofNat (q / 65536 % 256).toNat, UInt8.ofNat (q / 16777216 % 256).toNat]
theorem byteV_int (z : Int) : byteV (UInt8.ofNat (z % 256).toNat) = .int .u8 (z % 256) := by
  rw [byteV_ofNat]
  congr 1
  omega
theorem b4_cells (q : Int) : #[Value.int .u8 (q % 256), .int .u8 (q / 256 % 256), .int .u8 (q / 65536 % 256), .int .u8 (q / 16777216 % 256)] = ((b4 q).map byteV).toArray := by
  simp only [b4, List.map_cons, List.map_nil, byteV_int]
def md5L (l : List UInt8) : List UInt8 :=
  let q := mdState (md5Pad l) ((md5Pad l).length / 64)
  b4 q.1 ++ b4 q.2.1 ++ b4 q.2.2.1 ++ b4 q.2.2.2
theorem md5L_len (l : List UInt8) : (md5L l).length = 16 := by simp [md5L, b4]
theorem laid_sines (w w1 : World) (hb1 : Below w.heap.size w w1) : ∃ W, (w1.alloc (.cells zeroA 138 (0, 0))).setRow w1.heap.size sineA = W ∧ Blk W w1.heap.size 138 sineA ∧ Below w.heap.size w W ∧ W.heap.size = w1.heap.size + 1 := by
  refine ⟨_, rfl, setRow_heap _ w1.heap.size _ sineA _ _ (heap_alloc_new w1 (.cells zeroA 138 (0, 0))), below_setRow (hb1.alloc hb1.size _) hb1.size _, ?_⟩
  rw [setRow_size]
  simp
theorem md5Pad_bound (l : List UInt8) (h : l.length ≤ 1000000) : (md5Pad l).length ≤ 1000100 := by
  simp [md5Pad, le64, zerosN]; omega
def initA : Array Value := #[.int .u32 1732584193, .int .u32 4023233417, .int .u32 2562383102, .int .u32 271733878]
theorem calls_world {P : Program} {f : FuncId} {args : Array Value} {w w' : World} {R : Ending → World → Prop} (h : w = w') (k : Calls P f args w' R) : Calls P f args w R := h ▸ k
theorem wpList_world {P : Program} {ops : Array Oper} {rest : List Oper} {a : Act} {w w' : World} {Q : Exit → Act → World → Prop} (h : w = w') (k : wpList P ops Q rest a w') : wpList P ops Q rest a w := h ▸ k
set_option maxRecDepth 20000 in
set_option maxHeartbeats 4000000 in
theorem sum_any (s : ByteArray) (w : World) (hs : s.size ≤ 1000000) : Calls Tryd.prog 50 #[.string s] w fun e w' => e = .returned (.string ⟨(md5L s.data.toList).toArray⟩) ∧ Below w.heap.size w w' := by
  have hg1 := fun (w1 : World) => heap_alloc_new w1 (.cells zeroA 138 (0, 0))
  go_enter Tryd.func50, Tryd.ntmps50
  go_wp2_with (first | (go_at_call 80; refine (sines_any _).mono ?_; rintro e w1 ⟨rfl, hb1⟩) | (refine wpList_store_row rfl 138 _ _ rfl w1.heap.size sineA rfl rfl 138 zeroA (hg1 w1) (by kernel_rfl) (by kernel_rfl) sineA_all ?_; obtain ⟨W, hW, hK, hb2, hsz⟩ := laid_sines w w1 hb1; refine wpList_world hW ?_; clear hW))
  obtain ⟨KB, hKB⟩ : ∃ KB, w1.heap.size = KB := ⟨_, rfl⟩
  rw [hKB] at hK hsz ⊢
  have hK2 := (hK.alloc (.cells turnA 141)).alloc (.cells initA 142)
  have hT2 := (Blk.new W 141 turnA).alloc (.cells initA 142)
  have hS2 := Blk.new (W.alloc (.cells turnA 141)) 142 initA
  have hb3 : Below w.heap.size w ((W.alloc (.cells turnA 141)).alloc (.cells initA 142)) := (hb2.alloc hb2.size _).alloc (Nat.le_trans hb2.size (by simp)) _
  rw [hsz] at hT2
  rw [World.size_alloc, hsz] at hS2
  have hz3 : ((W.alloc (.cells turnA 141)).alloc (.cells initA 142)).heap.size = KB + 3 := by simp [hsz]
  obtain ⟨W2, hW2⟩ : ∃ W2, (W.alloc (.cells turnA 141)).alloc (.cells initA 142) = W2 := ⟨_, rfl⟩
  rw [hW2] at hK2 hT2 hS2 hb3 hz3
  refine calls_world hW2 ?_
  refine (padded_any5 s W2 (by omega)).mono ?_
  rintro e w3 ⟨v, rfl, hP, hb4⟩
  have hK3 := hK2.below hb4 hK2.lt
  have hT3 := hT2.below hb4 hT2.lt
  have hS3 := hS2.below hb4 hS2.lt
  have hb5 := hb3.trans (hb4.mono hb3.size)
  have hPl := md5Pad_len s.data.toList
  clear hK2 hT2 hS2 hb4 hK hW2 hg1
  have hsr := SRd.of_m hP
  obtain ⟨P, hPe⟩ : ∃ P, md5Pad s.data.toList = P := ⟨_, rfl⟩
  have hPz : P.length ≤ 1000100 := by rw [← hPe]; exact md5Pad_bound _ (by rw [len_of]; exact hs)
  have hP0 : 0 < P.length := by rw [← hPe]; simp [md5Pad]; omega
  rw [hPe] at hsr hPl
  obtain ⟨_, A, cap, rfl, hcap, hmax, hcc⟩ := hsr
  obtain ⟨g, o, rfl, hgl, hcell⟩ := hcc (by omega)
  have hg0 : W2.heap.size ≤ g := by
    obtain ⟨A2, c2, hv, _, _, h⟩ := MRow.form hP
    injection hv with hA _ _
    exact (h _ hA.symm).2.2.1
  have ho0 : o = 0 := by
    obtain ⟨A2, c2, hv, _, _, h⟩ := MRow.form hP
    injection hv with hA _ _
    exact (h _ hA.symm).1
  subst ho0
  have hcb : ∀ j c, P[j]? = some c → w3.cell? ⟨g, j, none⟩ = some (.int .u8 c.toNat) := by
    intro j c hc
    have := hcell j (byteV c) (by rw [List.getElem?_map, hc]; rfl)
    rw [Nat.zero_add] at this
    exact this
  have HCB := Lib.hid hcb
  have HPE := Lib.hid hPe
  unfold maxLen at hmax
  clear hcc hcell hcb hP hPe
  go_wp2_with fail
  go_loopw [6] (fun b wr => ∃ (m : Nat) (A : Option Addr), 64 * m ≤ P.length ∧ b = .slice A (P.length - 64 * m) (cap - 64 * m) ∧ (64 * m < P.length → A = some ⟨g, 64 * m, none⟩) ∧ Blk wr KB 138 sineA ∧ Blk wr (KB + 1) 141 turnA ∧ Blk wr (KB + 2) 142 (stA (mdState P m)) ∧ Below w.heap.size w wr ∧ w3.grownBy wr (some (KB + 2))) (fun b _ => sliceLen b)
  case atStart => exact ⟨0, some ⟨g, 0, none⟩, by omega, by simp, fun _ => rfl, hK3, hT3, hS3, hb5, ⟨rfl, rfl, rfl, Nat.le_refl _, fun _ _ _ => rfl⟩⟩
  case round =>
    obtain ⟨m, A, hm, rfl, hA, hK, hT, hS, hbw, hgr⟩ := hrel
    have hwk : w.heap.size ≤ KB := by rw [← hKB]; exact hb1.size
    by_cases hlt : 64 * m < P.length
    · obtain rfl := hA hlt
      clear hA
      have hm2 : 64 * m + 64 ≤ P.length := by omega
      go_wp2_with fail
      obtain ⟨wo, rfl⟩ : ∃ wo : World, wo = wr := ⟨_, rfl⟩
      have hX0 : Blk (wo.alloc (.cells (xA P m 0) 144)) wo.heap.size 144 (xA P m 0) := Blk.new wo _ _
      have hgr0 : wo.grownBy (wo.alloc (.cells (xA P m 0) 144)) (some wo.heap.size) := World.grownBy_alloc _ _ _
      go_loopw [35] (fun i wr => ∃ k : Nat, k ≤ 16 ∧ i = .int .i64 k ∧ Blk wr wo.heap.size 144 (xA P m k) ∧ wo.grownBy wr (some wo.heap.size)) (fun i _ => 16 - (intOf i).toNat)
      case atStart => exact ⟨0, by omega, rfl, hX0, hgr0⟩
      case round =>
        obtain ⟨k, hk, rfl, hX, hgx⟩ := hrel
        by_cases hk16 : k < 16
        · have i0 : (4 : Int) * k < ((P.length - 64 * m : Nat) : Int) := by omega
          have i1 : (4 : Int) * k + 1 < ((P.length - 64 * m : Nat) : Int) := by omega
          have i2 : (4 : Int) * k + 2 < ((P.length - 64 * m : Nat) : Int) := by omega
          have i3 : (4 : Int) * k + 3 < ((P.length - 64 * m : Nat) : Int) := by omega
          have hgo : g < wo.heap.size := Nat.lt_of_lt_of_le hgl hgr.size
          have hcx : ∀ j, j < 64 → wr.cell? ⟨g, 64 * m + j, none⟩ = some (.int .u8 (P.getD (64 * m + j) 0).toNat) := by
            intro j hj
            have hlt2 : 64 * m + j < P.length := by omega
            rw [cell_grown hgx hgo (by intro e; have := Option.some.inj e; omega), cell_grown hgr hgl (by intro e; have := Option.some.inj e; omega), HCB.out _ _ (List.getElem?_eq_getElem hlt2)]
            simp [hlt2]
          have c0 := hcx (4 * k) (by omega)
          have c1 := hcx (4 * k + 1) (by omega)
          have c2 := hcx (4 * k + 2) (by omega)
          have c3 := hcx (4 * k + 3) (by omega)
          clear hcx
          go_wp2_with fail
          have e0 : IntKind.i64.wrap (4 * (k : Int)) = 4 * k := by rw [IntKind.wrap_i64]; omega
          have e1 : IntKind.i64.wrap (4 * (k : Int) + 1) = 4 * k + 1 := by rw [IntKind.wrap_i64]; omega
          have e2 : IntKind.i64.wrap (4 * (k : Int) + 2) = 4 * k + 2 := by rw [IntKind.wrap_i64]; omega
          have e3 : IntKind.i64.wrap (4 * (k : Int) + 3) = 4 * k + 3 := by rw [IntKind.wrap_i64]; omega
          have e4 : (k : Int) < 16 := by omega
          have x0 := (hX.cell k).trans (xA_at P m k hk16)
          have x1 := hX.frozen k
          go_region
          have hX2 := (hX.put k (.int .u32 (wordI P m k))).drew
          rw [xA_set P m k hk16] at hX2
          have hg2 := grown_set hgx k (.int .u32 (wordI P m k))
          go_wp2_with fail
          go_roundw
          case rel => exact ⟨k + 1, by omega, by go_num, hX2, hg2⟩
          case measure => simp [intOf]; omega
        · obtain rfl : k = 16 := by omega
          have hS4 := hS.grown hgx (by intro e; have := hS.lt; have := Option.some.inj e; omega)
          have hK4 := hK.grown hgx (by intro e; have := hK.lt; have := Option.some.inj e; omega)
          have hT4 := hT.grown hgx (by intro e; have := hT.lt; have := Option.some.inj e; omega)
          have s0 := hS4.cell 0
          have s1 := hS4.cell 1
          have s2 := hS4.cell 2
          have s3 := hS4.cell 3
          rcases hq : mdState P m with ⟨q0, q1, q2, q3⟩
          rw [hq] at s0 s1 s2 s3
          change wr.cell? ⟨KB + 1 + 1, 0, none⟩ = some (.int .u32 q0) at s0
          change wr.cell? ⟨KB + 1 + 1, 1, none⟩ = some (.int .u32 q1) at s1
          change wr.cell? ⟨KB + 1 + 1, 2, none⟩ = some (.int .u32 q2) at s2
          change wr.cell? ⟨KB + 1 + 1, 3, none⟩ = some (.int .u32 q3) at s3
          have HQ := Lib.hid hq
          clear hq
          go_wp2_with fail
          go_quiet (fail)
          go_wp2_with fail
          obtain ⟨w5, rfl⟩ : ∃ w5 : World, w5 = wr := ⟨_, rfl⟩
          rw [show decide (0 < P.length - 64 * m) = true from decide_eq_true (by omega)]
          go_loopw [9, 10, 11, 12, 82] (fun a b c d i wr => ∃ (j n : Nat) (qa qb qc qd : Int), j ≤ 64 ∧ i = .int .i64 j ∧ a = .int .u32 qa ∧ b = .int .u32 qb ∧ c = .int .u32 qc ∧ d = .int .u32 qd ∧ wr = w5.drewN n ∧ mdRounds P m (q0, q1, q2, q3) j = (qa, qb, qc, qd)) (fun _ _ _ _ i _ => 64 - (intOf i).toNat)
          case atStart => exact ⟨0, _, _, _, _, _, by omega, rfl, rfl, rfl, rfl, rfl, rfl, rfl⟩
          case round =>
            obtain ⟨j, nd, qa, qb, qc, qd, hj, rfl, rfl, rfl, rfl, rfl, rfl, hst⟩ := hrel
            have HST := Lib.hid hst
            clear hst
            by_cases hj64 : j < 64
            · have kc : w5.cell? ⟨KB, j, none⟩ = some (.int .u32 (sineL[j]?.getD 0)) := (hK4.cell j).trans (sine_at j hj64)
              obtain ⟨R, hR⟩ : ∃ R : Nat, j % 4 = R := ⟨_, rfl⟩
              have hR4 : R < 4 := by omega
              have eR : (j : Int) % 4 = (R : Int) := by omega
              rcases (show j / 16 = 0 ∨ j / 16 = 1 ∨ j / 16 = 2 ∨ j / 16 = 3 by omega) with hc | hc | hc | hc
              · have ec : (j : Int) / 16 = 0 := by omega
                have ha : (0 : Int) ≤ j := by omega
                have hb : (j : Int) < 16 := by omega
                obtain ⟨T, hTv, hT9, t1, t2⟩ := turn_at (4 * 0 + R) (by omega)
                have tc : w5.cell? ⟨KB + 1, 4 * 0 + R, none⟩ = some (.int .i64 T) := (hT4.cell _).trans hT9
                rw [Nat.mul_zero, Nat.zero_add] at tc
                have xc : w5.cell? ⟨wo.heap.size, j, none⟩ = some (.int .u32 (wordI P m j)) := (hX.cell j).trans (xA_full P m j (by omega))
                have e64 : (j : Int) < 64 := by omega
                have r4 : (R : Int) < 4 := by omega
                have HTV := Lib.hid hTv
                have HC := Lib.hid hc
                have HR := Lib.hid hR
                clear hTv hc hR hT9
                go_wp2_with fail
                go_big_quiet ((go_at_call 82; exact quiet_add (rot_any _ _ _ (by omega) (by omega) t1 t2)))
                go_wp2_with fail
                go_roundw
                case rel => exact ⟨.int .u32 qd, .int .u32 ((qb + rotI ((qa + bits .or .u32 (bits .and .u32 qb qc) (bits .and .u32 (bits .xor .u32 IntKind.u32.max qb) qd) + sineL[j]?.getD 0 + wordI P m j) % 4294967296) T) % 4294967296), .int .u32 qb, .int .u32 qc, _, _, _, _, _, _, _, _, _, _, _, _, _, _, _, _, _, _, _, _, _, _, _, _, _, _, _, _, _, _, _, _, _, _, _, _, _, _, _, _, _, _, _, _, _, _, _, _, _, _, _, _, _, _, _, _, _, _, _, _, _, _, _, _, _, _, _, _, _, _, _, _, _, _, _, _, _, _, ⟨j + 1, _, _, _, _, _, by omega, by go_num, rfl, rfl, rfl, rfl, rfl, by unfold mdRounds; rw [HST.out]; unfold stepR roundF roundG; rw [HC.out, HR.out, HTV.out]; rfl⟩, rfl⟩
                case measure => simp [intOf]; omega
              · have ec : (j : Int) / 16 = 1 := by omega
                have ha : (16 : Int) ≤ j := by omega
                have hb : (j : Int) < 32 := by omega
                obtain ⟨T, hTv, hT9, t1, t2⟩ := turn_at (4 * 1 + R) (by omega)
                have tc : w5.cell? ⟨KB + 1, 4 + R, none⟩ = some (.int .i64 T) := (hT4.cell (4 * 1 + R)).trans hT9
                obtain ⟨G, hG⟩ : ∃ G : Nat, G = (5 * j + 1) % 16 := ⟨_, rfl⟩
                have eG : (5 * (j : Int) + 1) % 16 = (G : Int) := by omega
                have hG16 : G < 16 := by omega
                have gI : (G : Int) < 16 := by omega
                have xc : w5.cell? ⟨wo.heap.size, G, none⟩ = some (.int .u32 (wordI P m G)) := (hX.cell G).trans (xA_full P m G hG16)
                have w1' : IntKind.i64.wrap (5 * (j : Int)) = 5 * (j : Int) := by rw [IntKind.wrap_i64]; omega
                have w2' : IntKind.i64.wrap (5 * (j : Int) + 1) = 5 * (j : Int) + 1 := by rw [IntKind.wrap_i64]; omega
                have HGV := Lib.hid hG
                clear hG
                have e64 : (j : Int) < 64 := by omega
                have r4 : (R : Int) < 4 := by omega
                have HTV := Lib.hid hTv
                have HC := Lib.hid hc
                have HR := Lib.hid hR
                clear hTv hc hR hT9
                go_wp2_with fail
                go_big_quiet ((go_at_call 82; exact quiet_add (rot_any _ _ _ (by omega) (by omega) t1 t2)))
                go_wp2_with fail
                go_roundw
                case rel => exact ⟨.int .u32 qd, .int .u32 ((qb + rotI ((qa + bits .or .u32 (bits .and .u32 qd qb) (bits .and .u32 (bits .xor .u32 IntKind.u32.max qd) qc) + sineL[j]?.getD 0 + wordI P m G) % 4294967296) T) % 4294967296), .int .u32 qb, .int .u32 qc, _, _, _, _, _, _, _, _, _, _, _, _, _, _, _, _, _, _, _, _, _, _, _, _, _, _, _, _, _, _, _, _, _, _, _, _, _, _, _, _, _, _, _, _, _, _, _, _, _, _, _, _, _, _, _, _, _, _, _, _, _, _, _, _, _, _, _, _, _, _, _, _, _, _, _, _, _, _, ⟨j + 1, _, _, _, _, _, by omega, by go_num, rfl, rfl, rfl, rfl, rfl, by unfold mdRounds; rw [HST.out]; unfold stepR roundF roundG; rw [HC.out, HR.out, HTV.out, HGV.out]; rfl⟩, rfl⟩
                case measure => simp [intOf]; omega
              · have ec : (j : Int) / 16 = 2 := by omega
                have ha : (32 : Int) ≤ j := by omega
                have hb : (j : Int) < 48 := by omega
                obtain ⟨T, hTv, hT9, t1, t2⟩ := turn_at (4 * 2 + R) (by omega)
                have tc : w5.cell? ⟨KB + 1, 8 + R, none⟩ = some (.int .i64 T) := (hT4.cell (4 * 2 + R)).trans hT9
                obtain ⟨G, hG⟩ : ∃ G : Nat, G = (3 * j + 5) % 16 := ⟨_, rfl⟩
                have eG : (3 * (j : Int) + 5) % 16 = (G : Int) := by omega
                have hG16 : G < 16 := by omega
                have gI : (G : Int) < 16 := by omega
                have xc : w5.cell? ⟨wo.heap.size, G, none⟩ = some (.int .u32 (wordI P m G)) := (hX.cell G).trans (xA_full P m G hG16)
                have w1' : IntKind.i64.wrap (3 * (j : Int)) = 3 * (j : Int) := by rw [IntKind.wrap_i64]; omega
                have w2' : IntKind.i64.wrap (3 * (j : Int) + 5) = 3 * (j : Int) + 5 := by rw [IntKind.wrap_i64]; omega
                have HGV := Lib.hid hG
                clear hG
                have e64 : (j : Int) < 64 := by omega
                have r4 : (R : Int) < 4 := by omega
                have HTV := Lib.hid hTv
                have HC := Lib.hid hc
                have HR := Lib.hid hR
                clear hTv hc hR hT9
                go_wp2_with fail
                go_big_quiet ((go_at_call 82; exact quiet_add (rot_any _ _ _ (by omega) (by omega) t1 t2)))
                go_wp2_with fail
                go_roundw
                case rel => exact ⟨j + 1, _, _, _, _, _, by omega, by go_num, rfl, rfl, rfl, rfl, rfl, by unfold mdRounds; rw [HST.out]; unfold stepR roundF roundG; rw [HC.out, HR.out, HTV.out, HGV.out]; rfl⟩
                case measure => simp [intOf]; omega
              · have ec : (j : Int) / 16 = 3 := by omega
                have ha : (48 : Int) ≤ j := by omega
                have hb : (j : Int) < 64 := by omega
                obtain ⟨T, hTv, hT9, t1, t2⟩ := turn_at (4 * 3 + R) (by omega)
                have tc : w5.cell? ⟨KB + 1, 12 + R, none⟩ = some (.int .i64 T) := (hT4.cell (4 * 3 + R)).trans hT9
                obtain ⟨G, hG⟩ : ∃ G : Nat, G = (7 * j) % 16 := ⟨_, rfl⟩
                have eG : (7 * (j : Int)) % 16 = (G : Int) := by omega
                have hG16 : G < 16 := by omega
                have gI : (G : Int) < 16 := by omega
                have xc : w5.cell? ⟨wo.heap.size, G, none⟩ = some (.int .u32 (wordI P m G)) := (hX.cell G).trans (xA_full P m G hG16)
                have w1' : IntKind.i64.wrap (7 * (j : Int)) = 7 * (j : Int) := by rw [IntKind.wrap_i64]; omega
                have HGV := Lib.hid hG
                clear hG
                have e64 : (j : Int) < 64 := by omega
                have r4 : (R : Int) < 4 := by omega
                have HTV := Lib.hid hTv
                have HC := Lib.hid hc
                have HR := Lib.hid hR
                clear hTv hc hR hT9
                go_wp2_with fail
                go_big_quiet ((go_at_call 82; exact quiet_add (rot_any _ _ _ (by omega) (by omega) t1 t2)))
                go_wp2_with fail
                go_roundw
                case rel => exact ⟨.int .u32 qd, .int .u32 ((qb + rotI ((qa + bits .xor .u32 qc (bits .or .u32 qb (bits .xor .u32 IntKind.u32.max qd)) + sineL[j]?.getD 0 + wordI P m G) % 4294967296) T) % 4294967296), .int .u32 qb, .int .u32 qc, _, _, _, _, _, _, _, _, _, _, _, _, _, _, _, _, _, _, _, _, _, _, _, _, _, _, _, _, _, _, _, _, _, _, _, _, _, _, _, _, _, _, _, _, _, _, _, _, _, _, _, _, _, _, _, _, _, _, _, _, _, _, _, _, _, _, _, _, _, _, _, _, _, _, _, _, _, _, ⟨j + 1, _, _, _, _, _, by omega, by go_num, rfl, rfl, rfl, rfl, rfl, by unfold mdRounds; rw [HST.out]; unfold stepR roundF roundG; rw [HC.out, HR.out, HTV.out, HGV.out]; rfl⟩, rfl⟩
                case measure => simp [intOf]; omega
            · obtain rfl : j = 64 := by omega
              have x0 := ix0 qa qb qc qd
              have x1 := ix1 qa qb qc qd
              have x2 := ix2 qa qb qc qd
              have x3 := ix3 qa qb qc qd
              have z0 := hS4.frozen 0
              have z1 := hS4.frozen 1
              have z2 := hS4.frozen 2
              have z3 := hS4.frozen 3
              go_wp2_with fail
              refine wp_loop_rounds 5 ?_
              rw [rounds_succ]
              go_wp2_with fail
              rw [rounds_succ]
              go_wp2_with fail
              rw [rounds_succ]
              go_wp2_with fail
              rw [rounds_succ]
              go_wp2_with fail
              rw [rounds_succ]
              go_wp2_with fail
              have hS5 := hS4
              rw [HQ.out] at hS5
              have e : stA (mdState P (m + 1)) = #[.int .u32 ((q0 + qa) % 4294967296), .int .u32 ((q1 + qb) % 4294967296), .int .u32 ((q2 + qc) % 4294967296), .int .u32 ((q3 + qd) % 4294967296)] := by
                unfold mdState; rw [HQ.out, HST.out]; rfl
              have hb6 : Below w.heap.size w w5 := hbw.grown hgx hbw.size (fun k e => by have := Option.some.inj e; have := hbw.size; omega)
              have hg6 := grown_via hgr hgx hgr.size
              refine ⟨⟨m + 1, (if cap - 64 * m = 64 then some ⟨g, 64 * m, none⟩ else some ⟨g, 64 * m + 64, none⟩), by omega, ?_, fun h => ?_, ?_, ?_, ?_, ?_, ?_⟩, ?_⟩
              · rw [show P.length - 64 * (m + 1) = P.length - 64 * m - 64 from by omega, show cap - 64 * (m + 1) = cap - 64 * m - 64 from by omega]
              · rw [if_neg (by omega)]; rfl
              · exact ((((hK4.drewN nd).far (by show KB ≠ KB + 1 + 1; omega) _).far (by show KB ≠ KB + 1 + 1; omega) _).far (by show KB ≠ KB + 1 + 1; omega) _).far (by show KB ≠ KB + 1 + 1; omega) _
              · exact ((((hT4.drewN nd).far (by show KB + 1 ≠ KB + 1 + 1; omega) _).far (by show KB + 1 ≠ KB + 1 + 1; omega) _).far (by show KB + 1 ≠ KB + 1 + 1; omega) _).far (by show KB + 1 ≠ KB + 1 + 1; omega) _
              · rw [e]
                exact ((((hS5.drewN nd).put 0 _).put 1 _).put 2 _).put 3 _
              · exact ((((below_drewN hb6 nd).setCell (by show w.heap.size ≤ KB + 1 + 1; omega) _).setCell (by show w.heap.size ≤ KB + 1 + 1; omega) _).setCell (by show w.heap.size ≤ KB + 1 + 1; omega) _).setCell (by show w.heap.size ≤ KB + 1 + 1; omega) _
              · exact grown_set0 (grown_set0 (grown_set0 (grown_set0 (grown_drewN hg6 nd) 0 _) 1 _) 2 _) 3 _
              · show P.length - 64 * m - 64 < P.length - 64 * m
                omega
    · have hz : P.length - 64 * m = 0 := by omega
      have hmq : P.length / 64 = m := by omega
      rcases hq : mdState P m with ⟨q0, q1, q2, q3⟩
      have hS6 := hS
      rw [hq] at hS6
      have s0 : wr.cell? ⟨KB + 1 + 1, 0, none⟩ = some (.int .u32 q0) := hS6.cell 0
      have s1 : wr.cell? ⟨KB + 1 + 1, 1, none⟩ = some (.int .u32 q1) := hS6.cell 1
      have s2 : wr.cell? ⟨KB + 1 + 1, 2, none⟩ = some (.int .u32 q2) := hS6.cell 2
      have s3 : wr.cell? ⟨KB + 1 + 1, 3, none⟩ = some (.int .u32 q3) := hS6.cell 3
      have x0 := ix0 q0 q1 q2 q3
      have x1 := ix1 q0 q1 q2 q3
      have x2 := ix2 q0 q1 q2 q3
      have x3 := ix3 q0 q1 q2 q3
      have HQ := Lib.hid hq
      have HMQ := Lib.hid hmq
      clear hq hmq hS6
      go_wp2_with fail
      refine wp_loop_rounds 5 ?_
      rw [rounds_succ]
      go_wp2_with (at_builtin; refine wpList_append_bytes _ rfl _ _ rfl wr.heap.size (.slice none 0 0) [] rfl (BRow.nil _ _) ⟨wr.heap.size, 0, none⟩ (b4 q0) 4 4 rfl rfl (lit_cells wr _ _ _ (b4_cells q0)) (by simp [b4]) (by simp) (w0 := wr) ((Below.refl _ _).alloc (Nat.le_refl _) _) ?_; intro v1 w6 hB1 hc1 hg1')
      go_wp2_with fail
      rw [rounds_succ]
      go_wp2_with (at_builtin; refine wpList_append_bytes _ rfl _ _ rfl wr.heap.size _ ([] ++ b4 q0) rfl (hB1.alloc _) ⟨w6.heap.size, 0, none⟩ (b4 q1) 4 4 rfl rfl (lit_cells w6 _ _ _ (b4_cells q1)) (by simp [b4]) (Nat.le_trans hc1.size (by simp)) (w0 := wr) (hc1.alloc hc1.size _) ?_; intro v2 w7 hB2 hc2 hg2')
      go_wp2_with fail
      rw [rounds_succ]
      go_wp2_with (at_builtin; refine wpList_append_bytes _ rfl _ _ rfl wr.heap.size _ (([] ++ b4 q0) ++ b4 q1) rfl (hB2.alloc _) ⟨w7.heap.size, 0, none⟩ (b4 q2) 4 4 rfl rfl (lit_cells w7 _ _ _ (b4_cells q2)) (by simp [b4]) (Nat.le_trans hc2.size (by simp)) (w0 := wr) (hc2.alloc hc2.size _) ?_; intro v3 w8 hB3 hc3 hg3')
      go_wp2_with fail
      rw [rounds_succ]
      go_wp2_with (at_builtin; refine wpList_append_bytes _ rfl _ _ rfl wr.heap.size _ ((([] ++ b4 q0) ++ b4 q1) ++ b4 q2) rfl (hB3.alloc _) ⟨w8.heap.size, 0, none⟩ (b4 q3) 4 4 rfl rfl (lit_cells w8 _ _ _ (b4_cells q3)) (by simp [b4]) (Nat.le_trans hc3.size (by simp)) (w0 := wr) (hc3.alloc hc3.size _) ?_; intro v4 w9 hB4 hc4 hg4')
      go_wp2_with fail
      rw [rounds_succ]
      have hcv := hB4.string
      go_wp2_with fail
      go_ret
      refine ⟨ret_str ?_, hbw.trans (hc4.mono hbw.size)⟩
      unfold md5L
      rw [HPE.out, HMQ.out, HQ.out]
      rfl
end Go.Proofs.YtlbojhmhcaecjaaDoor
