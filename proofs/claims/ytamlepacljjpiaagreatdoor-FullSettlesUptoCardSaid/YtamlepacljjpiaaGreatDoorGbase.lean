/- Base Mem Field FieldGet FieldPut FieldPlain Tell Tell2 TellAt Shell ShellD LaidMore. -/
import Derived.Test.YtamlepacljjpiaaGreatDoorRows
import Derived.WalkKit
import Derived.ProofKit
import Derived.OpenShut
import Derived.Lib.Hide
import Derived.Laws.Bits64
import Derived.WalkLawsBesides
import Derived.WalkSpells
import Derived.Outline
import Derived.Deep.QuietTactic
import Derived.BigQuiet
import Derived.Deep.DeepFit
import Derived.ArgAppend
import Derived.Lib.BufferRead
import Derived.LaidEql
import Derived.Stop.Asserts
import Derived.RowKitTokens
import Derived.SizedLaws
import Derived.Carry
import Derived.WideKeyArgs
import Derived.Deep.DeepHandedRow
import Derived.LaidHandle
import Derived.LaidLaws
import Derived.Lay
import Derived.Deep.DeepWitnessRowRef
/- Small words that all walks of this seat use: endings, strings as lists of bytes, errors, numbers in range. -/
namespace Go.Proofs.YtamlepacljjpiaaGreatDoor
open Go.ChangeShapes Go.WideShapes Go.ChangeAt Go.RowKit
set_option linter.unusedVariables false

theorem ret_bool {a b : Bool} (h : a = b) : Ending.returned (.bool a) = .returned (.bool b) := by rw [h]
theorem ret_int {k : IntKind} {a b : Int} (h : a = b) : Ending.returned (.int k a) = .returned (.int k b) := by rw [h]
theorem ret_str {a b : ByteArray} (h : a = b) : Ending.returned (.string a) = .returned (.string b) := by rw [h]
theorem ret_eq {a b : Value} (h : a = b) : Ending.returned a = .returned b := by rw [h]
theorem str_of (s : ByteArray) : s = ⟨s.data.toList.toArray⟩ := by cases s; simp
theorem len_of (s : ByteArray) : s.data.toList.length = s.size := by simp
@[simp] theorem size_mkl (l : List UInt8) : (ByteArray.mk l.toArray).size = l.length := rfl
theorem cat_of (s t : ByteArray) : s ++ t = ⟨(s.data.toList ++ t.data.toList).toArray⟩ := by
  rw [str_of s, str_of t, ByteArray.mk_append_mk]
theorem ext_of (s : ByteArray) (a b : Nat) : s.extract a b = ⟨((s.data.toList.drop a).take (b - a)).toArray⟩ := by
  rw [str_of s, ByteArray.extract_mk]
theorem toList_of (s : ByteArray) : s.toList = s.data.toList := ByteArray.toList_eq s
def errv (k : Nat) : Value := if k = 0 then .nilIface else .iface 56 (.int .i64 k)
theorem errv0 : errv 0 = .nilIface := rfl
theorem quiet_same {P : Program} {f : FuncId} {args : Array Value} {w : World} {n : Nat} {v : Value}
    (h : Calls P f args (w.drewN n) fun e w' => e = .returned v ∧ w.drewN n = w') : Calls P f args (w.drewN n) fun e w'' => e = .returned v ∧ ∃ m, w'' = w.drewN m :=
  h.mono fun _ _ ⟨he, hm⟩ => ⟨he, n, hm.symm⟩
theorem quiet_at {P : Program} {f : FuncId} {args : Array Value} {W : World} {v : Value} {C : World → Prop}
    (h : Calls P f args W fun e w' => e = .returned v ∧ W = w') (hC : C W) : Calls P f args W fun e w'' => e = .returned v ∧ C w'' :=
  h.mono fun _ _ ⟨he, hm⟩ => ⟨he, by rw [← hm]; exact hC⟩
theorem size_ext (s : ByteArray) (a b : Nat) : (s.extract a b).size ≤ s.size := by rw [ByteArray.size_extract]; omega
def pickI (a n : Int) : Int := (a % 18446744073709551616) % n
theorem pick_eq (a n : Int) (hn : 1 ≤ n) (hn2 : n < 9223372036854775808) : wrap64 ((IntKind.u64.wrap a).tmod n) = pickI a n := by
  have h0 : IntKind.u64.wrap a = a % 18446744073709551616 := by exact IntKind.wrap_u64 a
  have h1 : (0 : Int) ≤ a % 18446744073709551616 := Int.emod_nonneg _ (by decide)
  rw [h0, Int.tmod_eq_emod_of_nonneg h1]
  have h2 := Int.emod_nonneg (a % 18446744073709551616) (show n ≠ 0 by omega)
  have h3 := Int.emod_lt_of_pos (a % 18446744073709551616) (show 0 < n by omega)
  unfold wrap64 pickI
  omega
theorem pick_rng (a n : Int) (hn : 1 ≤ n) : 0 ≤ pickI a n ∧ pickI a n < n :=
  ⟨Int.emod_nonneg _ (by omega), Int.emod_lt_of_pos _ (by omega)⟩
theorem pick_any (a n : Int) (w : World) (hn : 1 ≤ n) (hn2 : n < 9223372036854775808) : Calls Tryz.prog 23 #[.int .i64 a, .int .i64 n] w fun e w' => e = .returned (.int .i64 (pickI a n)) ∧ w = w' := by
  go_enter Tryz.func23, Tryz.ntmps23
  go_wp2
  go_ret
  exact ⟨ret_int (pick_eq a n hn hn2), rfl⟩
theorem and3_i64 (x : Int) : bits .and .i64 x 3 = x % 4 := by
  show IntKind.i64.wrap ((BitVec.ofInt 64 x &&& BitVec.ofInt 64 3).toNat : Int) = _
  have h3 : (BitVec.ofInt 64 3).toNat = 2 ^ 2 - 1 := by decide
  rw [BitVec.toNat_and, h3, Nat.and_two_pow_sub_one_eq_mod, BitVec.toNat_ofInt]
  show IntKind.i64.wrap (((x % ((2 ^ 64 : Nat) : Int)).toNat % 2 ^ 2 : Nat) : Int) = _
  have e : (((x % ((2 ^ 64 : Nat) : Int)).toNat % 2 ^ 2 : Nat) : Int) = x % 4 := by
    have : ((2 ^ 64 : Nat) : Int) = 18446744073709551616 := by decide
    rw [this]; omega
  rw [e]
  rw [IntKind.wrap_i64]; omega
theorem or256_u64 (g c : Nat) (hc : c < 256) (h : g * 256 + c < 18446744073709551616) :
    bits .or .u64 ((g : Int) * 256) (c : Int) = ((g * 256 + c : Nat) : Int) := by
  have a1 : g * 256 < 18446744073709551616 := Nat.lt_of_le_of_lt (Nat.le_add_right _ _) h
  have a2 : c < 18446744073709551616 := Nat.lt_trans hc (by decide)
  have e1 : ((g : Int) * 256) = ((g * 256 : Nat) : Int) := by omega
  rw [e1, u64_or_nat (g * 256) c a1 a2]
  have := Nat.two_pow_add_eq_or_of_lt (i := 8) (b := c) (by omega) g
  simp only [Nat.reducePow] at this
  rw [Nat.mul_comm g 256, ← this]
theorem take_snoc (l : List UInt8) (k : Nat) (h : k < l.length) : l.take (k + 1) = l.take k ++ [l[k]] := List.take_succ_eq_append_getElem h
theorem take_snoc_s (s : ByteArray) (k : Nat) (h : k < s.size) : s.data.toList.take (k + 1) = s.data.toList.take k ++ [s[k]] := by
  rw [take_snoc _ _ (by rw [len_of]; exact h)]; rfl
theorem take_all (s : ByteArray) (k : Nat) (h : s.size ≤ k) : s.data.toList.take k = s.data.toList := List.take_of_length_le (by rw [len_of]; exact h)
/- Rows of bytes that the call itself made. -/
theorem infoU8 : (Tryz.prog.info? 5).map (fun i => (i.zero, i.size, i.bytes)) = some (some (.int .u8 0), 1, 1) := by kernel_rfl
def byteV (c : UInt8) : Value := .int .u8 c.toNat
def zeros (n : Nat) : Array Value := madeCells #[.int .u8 0] (n * 1)
theorem zeros_size (n : Nat) : (zeros n).size = n := by simp [zeros, size_madeCells]
theorem zeros_list (n : Nat) : (zeros n).toList = List.replicate n (byteV 0) := by
  apply List.ext_getElem
  · simp [zeros_size]
  · intro i h1 h2
    simp [zeros, madeCells, byteV]
    rw [Nat.mod_one]
    rfl
theorem make_bytes (n : Nat) (w : World) (h : n ≤ 140737488355328) : (Instr.makeSlice 115 (.int .i64 n) (.int .i64 n)).run Tryz.prog w =
    .ok (.slice (some ⟨w.heap.size, 0, none⟩) n n) (w.alloc (.cells (zeros n) 5)) := by
  obtain ⟨i0, hi, hz0, hz1, hz2⟩ := info_parts infoU8
  have := run_make (P := Tryz.prog) w 115 5 i0 (.int .u8 0) Tryz.underlying115 hi hz0 .i64 .i64 n n (by omega) (by omega) (by rw [hz2]; omega) (by omega)
  rw [this, hz1]
  simp [zeros, Value.cells]
theorem byteV_ofNat (m : Nat) : byteV (UInt8.ofNat m) = .int .u8 ((m : Int) % 256) := by simp [byteV]
theorem own_string {w : World} {base g n cap : Nat} {l : List UInt8} (h : w.ownsRow base 5 1 (.slice (some ⟨g, 0, none⟩) n cap) n (l.map byteV)) :
    (convert 115 9 (.slice (some ⟨g, 0, none⟩) n cap)).run Tryz.prog w = .ok (.string ⟨l.toArray⟩) w := by
  have hn : l.length = n := by have := h.1; simpa using this
  subst hn
  refine run_convert_bytes_back w _ _ _ _ _ l Tryz.underlying115 Tryz.underlying5 Tryz.underlying9 ?_
  intro j hj
  exact h.cells (g := g) rfl j _ (by simp [List.getElem?_eq_getElem hj, byteV])
/- A block that is known whole: just these cells of one element type, none frozen. -/
def Blk (w : World) (g : Nat) (t : TypeId) (cs : Array Value) : Prop := w.heap[g]? = some (.cells cs t (0, 0))
section
variable {w w' : World} {g : Nat} {t : TypeId} {cs : Array Value}
theorem Blk.lt (h : Blk w g t cs) : g < w.heap.size := by
  rcases Nat.lt_or_ge g w.heap.size with hlt | hge
  · exact hlt
  · unfold Blk at h; rw [Array.getElem?_eq_none hge] at h; cases h
theorem Blk.cell (h : Blk w g t cs) (i : Nat) : w.cell? ⟨g, i, none⟩ = cs[i]? := cell_of_row w g i cs t (0, 0) h
theorem Blk.frozen (h : Blk w g t cs) (i : Nat) : w.frozen? ⟨g, i, none⟩ = false := frozen_of_row w g i cs t h
theorem Blk.new (w : World) (t : TypeId) (cs : Array Value) : Blk (w.alloc (.cells cs t)) w.heap.size t cs := heap_alloc_new w _
theorem Blk.drew (h : Blk w g t cs) : Blk w.drew g t cs := h
theorem Blk.drewN (h : Blk w g t cs) (n : Nat) : Blk (w.drewN n) g t cs := h
theorem Blk.alloc (h : Blk w g t cs) (o : Obj) : Blk (w.alloc o) g t cs := (Below.heap_alloc w o g h.lt).trans h
theorem Blk.put (h : Blk w g t cs) (i : Nat) (u : Value) : Blk (w.setCell ⟨g, i, none⟩ u) g t (cs.setIfInBounds i u) := heap_setCell_same w g i cs t u h
theorem Blk.far (h : Blk w g t cs) {p : Addr} (hp : g ≠ p.block) (u : Value) : Blk (w.setCell p u) g t cs := (Below.heap_setCell w p u g hp).trans h
theorem Blk.below {B : Nat} (h : Blk w g t cs) (hb : Below B w w') (hg : g < B) : Blk w' g t cs := (hb.block g hg).trans h
theorem Blk.grown {row : Option Nat} (h : Blk w g t cs) (hb : w.grownBy w' row) (hg : some g ≠ row) : Blk w' g t cs := (hb.block g h.lt hg).trans h
end
theorem below_setRow {B g : Nat} {a w : World} (h : Below B a w) (hg : B ≤ g) (cs : Array Value) : Below B a (w.setRow g cs) :=
  h.trans ⟨rfl, rfl, rfl, by simp, fun k hk => setRow_other _ _ _ _ (by omega)⟩
theorem lit_string (w : World) (l : List UInt8) (cs : Array Value) (h : cs.toList = l.map byteV) (hl : l.length ≤ maxLen) :
    (convert 115 9 (.slice (some ⟨w.heap.size, 0, none⟩) l.length l.length)).run Tryz.prog (w.alloc (.cells cs 5)) = .ok (.string ⟨l.toArray⟩) (w.alloc (.cells cs 5)) := by
  have h1 := World.ownsRow_lit (base := 0) (e := 5) (size := 1) w cs l.length (Nat.zero_le _) hl (by rw [← Array.length_toList, h]; simp)
  rw [h] at h1
  exact own_string h1
/- A block that is known whole, none of its cells frozen, whatever its mark. -/
def BlkM (w : World) (g : Nat) (t : TypeId) (cs : Array Value) : Prop := ∃ lo hi, w.heap[g]? = some (.cells cs t (lo, hi)) ∧ ∀ i, i < cs.size → ¬ (lo ≤ i ∧ i < hi)
section
variable {w w' : World} {g : Nat} {t : TypeId} {cs : Array Value}
theorem BlkM.lt (h : BlkM w g t cs) : g < w.heap.size := by
  obtain ⟨lo, hi, h, _⟩ := h
  rcases Nat.lt_or_ge g w.heap.size with hlt | hge
  · exact hlt
  · rw [Array.getElem?_eq_none hge] at h; cases h
theorem BlkM.cell (h : BlkM w g t cs) (i : Nat) : w.cell? ⟨g, i, none⟩ = cs[i]? := by
  obtain ⟨lo, hi, h, _⟩ := h
  exact cell_of_row w g i cs t _ h
theorem BlkM.frozen (h : BlkM w g t cs) (i : Nat) (hi : i < cs.size) : w.frozen? ⟨g, i, none⟩ = false := by
  obtain ⟨lo, hi', h, hn⟩ := h
  have := hn i hi
  simp [World.frozen?, h]
  omega
theorem BlkM.of_blk (h : Blk w g t cs) : BlkM w g t cs := ⟨0, 0, h, fun i _ => by omega⟩
theorem BlkM.new (w : World) (t : TypeId) (cs : Array Value) (lo hi : Nat) (h : cs.size ≤ lo) : BlkM (w.alloc (.cells cs t (lo, hi))) w.heap.size t cs :=
  ⟨lo, hi, heap_alloc_new w _, fun i _ => by omega⟩
theorem BlkM.drew (h : BlkM w g t cs) : BlkM w.drew g t cs := h
theorem BlkM.drewN (h : BlkM w g t cs) (n : Nat) : BlkM (w.drewN n) g t cs := h
theorem BlkM.block (h : BlkM w g t cs) (hb : w'.heap[g]? = w.heap[g]?) : BlkM w' g t cs := by
  obtain ⟨lo, hi, h, hn⟩ := h
  exact ⟨lo, hi, hb.trans h, hn⟩
theorem BlkM.alloc (h : BlkM w g t cs) (o : Obj) : BlkM (w.alloc o) g t cs := h.block (Below.heap_alloc w o g h.lt)
theorem BlkM.put (h : BlkM w g t cs) (i : Nat) (u : Value) : BlkM (w.setCell ⟨g, i, none⟩ u) g t (cs.setIfInBounds i u) := by
  obtain ⟨lo, hi, h, hn⟩ := h
  refine ⟨lo, hi, ?_, fun j hj => hn j (by simpa using hj)⟩
  simp [World.setCell, Array.getElem?_modify, h]
theorem BlkM.far (h : BlkM w g t cs) {p : Addr} (hp : g ≠ p.block) (u : Value) : BlkM (w.setCell p u) g t cs := h.block (Below.heap_setCell w p u g hp)
theorem BlkM.below {B : Nat} (h : BlkM w g t cs) (hb : Below B w w') (hg : g < B) : BlkM w' g t cs := h.block (hb.block g hg)
theorem BlkM.grown {row : Option Nat} (h : BlkM w g t cs) (hb : w.grownBy w' row) (hg : some g ≠ row) : BlkM w' g t cs := h.block (hb.block g h.lt hg)
theorem blkM_string {l : List UInt8} {cap : Nat} {more : List Value} (h : BlkM w g 5 (l.map byteV ++ more).toArray) :
    (convert 115 9 (.slice (some ⟨g, 0, none⟩) l.length cap)).run Tryz.prog w = .ok (.string ⟨l.toArray⟩) w := by
  refine run_convert_bytes_back w _ _ _ _ _ l Tryz.underlying115 Tryz.underlying5 Tryz.underlying9 ?_
  intro j hj
  have hadd : (⟨g, 0, none⟩ : Addr).add j = ⟨g, j, none⟩ := by unfold Addr.add; split <;> simp_all
  rw [hadd, h.cell j]
  simp [List.getElem?_append, hj, byteV]
end
/- '[]byte(s)': a new block, the text's bytes and what is spare behind them. -/
theorem bytes_of (w : World) (s : ByteArray) : ∃ (cap : Nat) (C : Array Value) (fr : Nat × Nat), s.size ≤ cap ∧ C = (s.data.toList.map byteV ++ List.replicate (cap - s.size) (byteV 0)).toArray ∧ C.size ≤ fr.1 ∧
    (convert 9 115 (.string s)).run Tryz.prog w = .ok (.slice (some ⟨w.heap.size, 0, none⟩) s.size cap) (w.drew.alloc (.cells C 5 fr)) := by
  refine ⟨grownCap w s.size 0 5, bytesRow s (grownCap w s.size 0 5), _, ?_, ?_, ?_, run_bytes_of_string w _ _ _ s Tryz.underlying9 Tryz.underlying115 Tryz.underlying5⟩
  · simp [grownCap, Question.cut]
  · apply Array.toList_inj.1
    simp [bytesRow]
    rfl
  · exact Nat.le_refl _
theorem rowGet {m : List UInt8} {more : List Value} {j : Nat} {c : UInt8} (h : m[j]? = some c) : (m.map byteV ++ more).toArray[j]? = some (.int .u8 c.toNat) := by
  have hj : j < m.length := (List.getElem?_eq_some_iff.1 h).1
  rw [List.getElem?_toArray, List.getElem?_append_left (by simpa using hj), List.getElem?_map, h]
  rfl
theorem rowSet {m : List UInt8} {more : List Value} {j : Nat} (c : UInt8) (hj : j < m.length) : (m.map byteV ++ more).toArray.setIfInBounds j (byteV c) = ((m.set j c).map byteV ++ more).toArray := by
  apply Array.toList_inj.1
  rw [Array.toList_setIfInBounds, List.set_append_left _ _ (by simpa using hj), List.map_set]
theorem rowSize {m : List UInt8} {more : List Value} {j : Nat} (hj : j < m.length) : j < (m.map byteV ++ more).toArray.size := by simp; omega
theorem bit_u32 (b k : Nat) (hb : b < 4294967296) : bits .and .u32 ((b : Int) / 2 ^ k) 1 = if b.testBit k = true then 1 else 0 := by
  have e : ((b : Int) / 2 ^ k) = ((b / 2 ^ k : Nat) : Int) := by simp
  have h1 : b / 2 ^ k < 4294967296 := Nat.lt_of_le_of_lt (Nat.div_le_self _ _) hb
  have := u32_and_nat (b / 2 ^ k) 1 h1 (by decide)
  rw [Nat.and_one_is_mod] at this
  rw [e]
  refine this.trans ?_
  rw [Nat.testBit_eq_decide_div_mod_eq]
  have h2 : b / 2 ^ k % 2 = 0 ∨ b / 2 ^ k % 2 = 1 := by omega
  rcases h2 with h2 | h2 <;> simp [h2]
/- A region that draws its order, whose operations read and whose callees make memory of their own: walked once, in the worlds that are as w below its end. -/
structure BW (w : World) where
  v : World
  h : Below w.heap.size w v
instance (w : World) : Nonempty (BW w) := ⟨⟨w, Below.refl _ _⟩⟩
theorem wp_region_quietB {P : Program} {id : Nat} {Q : Exit → Act → World → Prop} {a : Act} {w : World} {l : List Oper} (hm : P.follows .mixedOrders = true) (hB : Region.lexB .any l.toArray = true)
    (h : wpQuiet P l.toArray (fun w' => ∃ i : BW w, w' = i.v) (fun a' => ∀ w', (∃ i : BW w, w' = i.v) → Q .normal a' w') l a) : (Code.region id l.toArray true).wp P Q a w :=
  wp_region_quiet (C := fun w' => ∃ i : BW w, w' = i.v) hm hB ⟨⟨w.drew, (Below.refl _ _).drew⟩, rfl⟩ (by simpa using h)
theorem calls_bw {P : Program} {f : FuncId} {args : Array Value} {w : World} {i : BW w} {v : Value}
    (h : Calls P f args i.v fun e w' => e = .returned v ∧ Below i.v.heap.size i.v w') : Calls P f args i.v fun e w'' => e = .returned v ∧ ∃ j : BW w, w'' = j.v :=
  h.mono fun _ w' ⟨he, hm⟩ => ⟨he, ⟨w', i.h.trans (hm.mono i.h.size)⟩, rfl⟩
theorem calls_bw_same {P : Program} {f : FuncId} {args : Array Value} {w : World} {i : BW w} {v : Value}
    (h : Calls P f args i.v fun e w' => e = .returned v ∧ i.v = w') : Calls P f args i.v fun e w'' => e = .returned v ∧ ∃ j : BW w, w'' = j.v :=
  h.mono fun _ w' ⟨he, hm⟩ => ⟨he, i, hm.symm⟩
theorem calls_bw_drew {P : Program} {f : FuncId} {args : Array Value} {w : World} {i : BW w} {v : Value}
    (h : Calls P f args i.v fun e w' => e = .returned v ∧ ∃ k, w' = i.v.drewN k) : Calls P f args i.v fun e w'' => e = .returned v ∧ ∃ j : BW w, w'' = j.v :=
  h.mono fun _ w' ⟨he, k, hm⟩ => ⟨he, ⟨i.v.drewN k, below_drewN i.h k⟩, hm⟩
theorem below_step {a b c : World} (h : Below a.heap.size a b) (k : Below b.heap.size b c) : Below a.heap.size a c := h.trans (k.mono h.size)
end Go.Proofs.YtamlepacljjpiaaGreatDoor

/- Rows that the call itself made, whatever mark their block bears: what append and a store make of them, for elements of any size. -/
namespace Go.Proofs.YtamlepacljjpiaaGreatDoor
set_option linter.unusedVariables false
open Go.ChangeShapes Go.WideShapes Go.ChangeAt Go.RowKit
section
variable {w w' : World} {g base size n : Nat} {t e : TypeId} {cs : Array Value} {v : Value} {xs : List Value}
theorem setCells_other (g k : Nat) (hk : k ≠ g) : ∀ (vs : List Value) (off : Nat) (w : World), (w.setCells g off vs).heap[k]? = w.heap[k]?
  | [], _, _ => rfl
  | u :: r, off, w => (setCells_other g k hk r (off + 1) _).trans (Below.heap_setCell w _ u k hk)
theorem setCells_size (g : Nat) : ∀ (vs : List Value) (off : Nat) (w : World), (w.setCells g off vs).heap.size = w.heap.size
  | [], _, _ => rfl
  | u :: r, off, w => (setCells_size g r (off + 1) _).trans (by simp [World.setCell])
theorem setCells_rest (g : Nat) : ∀ (vs : List Value) (off : Nat) (w : World), (w.setCells g off vs).os = w.os ∧ (w.setCells g off vs).tape = w.tape ∧ (w.setCells g off vs).output = w.output
  | [], _, _ => ⟨rfl, rfl, rfl⟩
  | u :: r, off, w => setCells_rest g r (off + 1) (w.setCell ⟨g, off, none⟩ u)
theorem setCells_grown (g : Nat) (vs : List Value) (off : Nat) (w : World) : w.grownBy (w.setCells g off vs) (some g) :=
  ⟨(setCells_rest g vs off w).1, (setCells_rest g vs off w).2.1, (setCells_rest g vs off w).2.2, by rw [setCells_size]; exact Nat.le_refl _,
    fun k _ hk => setCells_other g k (fun h => hk (by rw [h])) vs off w⟩
theorem BlkM.puts : ∀ (vs : List Value) (off : Nat) {w : World} {cs : Array Value}, BlkM w g t cs → off + vs.length ≤ cs.size →
    BlkM (w.setCells g off vs) g t (cs.toList.take off ++ vs ++ cs.toList.drop (off + vs.length)).toArray
  | [], off, w, cs, h, _ => by
    simp only [List.append_nil, List.length_nil, Nat.add_zero, List.take_append_drop]
    exact h
  | u :: r, off, w, cs, h, hl => by
    have hl' : off + (r.length + 1) ≤ cs.size := hl
    have h1 := BlkM.puts r (off + 1) (h.put off u) (by rw [Array.size_setIfInBounds]; omega)
    have e : ((cs.setIfInBounds off u).toList.take (off + 1) ++ r ++ (cs.setIfInBounds off u).toList.drop (off + 1 + r.length)) = (cs.toList.take off ++ (u :: r) ++ cs.toList.drop (off + (u :: r).length)) := by
      rw [Array.toList_setIfInBounds, List.take_set, List.drop_set_of_lt (by omega)]
      have h2 : off < cs.toList.length := by simp; omega
      rw [List.take_succ_eq_append_getElem h2, List.set_append_right _ _ (by simp; omega)]
      have h3 : off - (cs.toList.take off).length = 0 := by simp; omega
      rw [h3]
      simp only [List.set_cons_zero, List.append_assoc, List.cons_append, List.nil_append, List.length_cons]
      congr 4
      omega
    rw [e] at h1
    exact h1
def MRow (w : World) (base : Nat) (e : TypeId) (size : Nat) (v : Value) (n : Nat) (xs : List Value) : Prop :=
  xs.length = n * size ∧ ((v = .slice none 0 0 ∧ n = 0) ∨
    ∃ g cap cur, v = .slice (some ⟨g, 0, none⟩) n cap ∧ base ≤ g ∧ BlkM w g e cur ∧ n ≤ cap ∧ cap ≤ maxLen ∧ cur.size = cap * size ∧ cur.toList.take (n * size) = xs)
theorem MRow.nil (w : World) (base : Nat) (e : TypeId) (size : Nat) : MRow w base e size (.slice none 0 0) 0 [] := ⟨by simp, .inl ⟨rfl, rfl⟩⟩
theorem MRow.of_own (h : w.ownsRow base e size v n xs) : MRow w base e size v n xs := by
  refine ⟨h.1, ?_⟩
  rcases h.2 with h | ⟨g, cap, cur, h1, h2, h3, h4⟩
  · exact .inl h
  · exact .inr ⟨g, cap, cur, h1, h2, BlkM.of_blk h3, h4⟩
theorem MRow.keep (h : MRow w base e size v n xs) (hk : ∀ g, v.ownBlock = some g → w'.heap[g]? = w.heap[g]?) : MRow w' base e size v n xs := by
  refine ⟨h.1, ?_⟩
  rcases h.2 with h | ⟨g, cap, cur, rfl, h2, h3, h4⟩
  · exact .inl h
  · exact .inr ⟨g, cap, cur, rfl, h2, h3.block (hk g rfl), h4⟩
theorem MRow.lt (h : MRow w base e size v n xs) : ∀ g, v.ownBlock = some g → base ≤ g ∧ g < w.heap.size := by
  intro k hk
  rcases h.2 with ⟨rfl, _⟩ | ⟨g, cap, cur, rfl, h2, h3, h4⟩
  · simp [Value.ownBlock] at hk
  · have : g = k := by simpa [Value.ownBlock] using hk
    subst this
    exact ⟨h2, h3.lt⟩
theorem MRow.below {B : Nat} (h : MRow w base e size v n xs) (hb : Below B w w') (hB : w.heap.size ≤ B) : MRow w' base e size v n xs :=
  h.keep fun g hg => hb.block g (Nat.lt_of_lt_of_le (h.lt g hg).2 hB)
theorem MRow.alloc (h : MRow w base e size v n xs) (o : Obj) : MRow (w.alloc o) base e size v n xs :=
  h.keep fun g hg => Below.heap_alloc w o g (h.lt g hg).2
theorem MRow.drew (h : MRow w base e size v n xs) : MRow w.drew base e size v n xs := h
theorem MRow.drewN (h : MRow w base e size v n xs) (k : Nat) : MRow (w.drewN k) base e size v n xs := h
theorem MRow.kept {row : Option Nat} (h : MRow w base e size v n xs) (hg : w.grownBy w' row) (hne : v.ownBlock = none ∨ v.ownBlock ≠ row) : MRow w' base e size v n xs :=
  h.keep fun g hg' => hg.block g (h.lt g hg').2 (by rw [hg'] at hne; rcases hne with hne | hne; · cases hne
                                                    · exact hne)
theorem MRow.more {base' : Nat} (h : MRow w base e size v n xs) (hB : base' ≤ base) : MRow w base' e size v n xs := by
  refine ⟨h.1, ?_⟩
  rcases h.2 with h | ⟨g, cap, cur, h1, h2, h3, h4⟩
  · exact .inl h
  · exact .inr ⟨g, cap, cur, h1, Nat.le_trans hB h2, h3, h4⟩
/- What it is: an address (none for nil), n, and a capacity; its cells. -/
theorem MRow.form (h : MRow w base e size v n xs) : ∃ A cap, v = .slice A n cap ∧ n ≤ cap ∧ cap ≤ maxLen ∧
    ∀ a, A = some a → a.off = 0 ∧ a.spot = none ∧ base ≤ a.block ∧ a.block < w.heap.size ∧ (∀ j u, xs[j]? = some u → w.cell? (a.add j) = some u) := by
  rcases h.2 with ⟨rfl, rfl⟩ | ⟨g, cap, cur, rfl, h2, h3, h4, h5, h6, h7⟩
  · exact ⟨none, 0, rfl, Nat.le_refl _, by unfold maxLen; omega, by intro a h; cases h⟩
  · refine ⟨_, cap, rfl, h4, h5, ?_⟩
    intro a ha
    cases ha
    refine ⟨rfl, rfl, h2, h3.lt, fun j u hu => ?_⟩
    have hadd : (⟨g, 0, none⟩ : Addr).add j = ⟨g, j, none⟩ := by unfold Addr.add; split <;> simp_all
    rw [hadd, h3.cell j]
    subst h7
    have hj : j < n * size := by
      have := (List.getElem?_eq_some_iff.1 hu).1
      simp at this; omega
    rw [List.getElem?_take_of_lt hj] at hu
    rw [← Array.getElem?_toList]; exact hu
theorem MRow.cellAt {cap : Nat} (h : MRow w base e size (.slice (some ⟨g, 0, none⟩) n cap) n xs) (j : Nat) (u : Value) (hu : xs[j]? = some u) : w.cell? ⟨g, j, none⟩ = some u := by
  obtain ⟨A, c, hv, _, _, hc⟩ := h.form
  injection hv with h1 _ _
  have := (hc _ h1.symm).2.2.2.2 j u hu
  have hadd : (⟨g, 0, none⟩ : Addr).add j = ⟨g, j, none⟩ := by unfold Addr.add; split <;> simp_all
  rwa [hadd] at this
theorem MRow.frozenAt {cap : Nat} (h : MRow w base e size (.slice (some ⟨g, 0, none⟩) n cap) n xs) (j : Nat) (hj : j < n * size) : w.frozen? ⟨g, j, none⟩ = false := by
  rcases h.2 with ⟨hv, _⟩ | ⟨g', cap', cur, hv, h2, h3, h4, h5, h6, h7⟩
  · cases hv
  · injection hv with h1 _ _
    injection h1 with h1
    injection h1 with h1
    subst h1
    exact h3.frozen j (by rw [h6]; exact Nat.lt_of_lt_of_le hj (Nat.mul_le_mul_right _ h4))
theorem MRow.stored {cap : Nat} (h : MRow w base e size (.slice (some ⟨g, 0, none⟩) n cap) n xs) (j : Nat) (u : Value) :
    MRow (w.setCell ⟨g, j, none⟩ u) base e size (.slice (some ⟨g, 0, none⟩) n cap) n (xs.set j u) := by
  rcases h.2 with ⟨hv, _⟩ | ⟨g', cap', cur, hv, h2, h3, h4, h5, h6, h7⟩
  · cases hv
  · injection hv with h1 _ h1c
    injection h1 with h1
    injection h1 with h1
    subst h1; subst h1c
    refine ⟨by rw [List.length_set]; exact h.1, .inr ⟨g, cap, _, rfl, h2, h3.put j u, h4, h5, by simpa using h6, ?_⟩⟩
    rw [Array.toList_setIfInBounds, List.take_set, h7]
end
theorem run_append_m {P : Program} (w : World) (base : Nat) (t ty e : TypeId) (i : TypeInfo) (z : Value) (size bytes : Nat) (ht : P.underlying t = some (.slice e)) (hi : P.info? e = some i) (hz : i.zero = some z)
    (hsize : i.size = size) (hby : i.bytes = bytes) (hzs : z.cells.size = size) (hsz : 0 < size)
    (v : Value) (n : Nat) (xs : List Value) (hown : MRow w base e size v n xs)
    (ad : Addr) (m c : Nat) (news : List Value) (hl : news.length = m * size) (hnews : ∀ j u, news[j]? = some u → w.cell? (ad.add j) = some u) (h1 : ∀ u ∈ news, u.oneCell' = true)
    (h63 : n + m ≤ maxLen) (hbytes : (n + m) * bytes ≤ 140737488355328) (hbase : base ≤ w.heap.size) :
    ∃ v' w', (Builtin.append_ #[t, t] ty #[v, .slice (some ad) m c]).run P w = .ok v' w' ∧ MRow w' base e size v' (n + m) (xs ++ news) ∧ w.grownBy w' v.ownBlock ∧ (v' = .slice none 0 0 → m = 0) := by
  rcases hown.2 with ⟨hv, hn⟩ | ⟨g, cap, cur, hv, h2, h3, h4, h5, h6, h7⟩
  · subst hn
    have hx0 : xs = [] := List.eq_nil_of_length_eq_zero (by simpa using hown.1)
    subst hx0
    obtain ⟨v', w', r0, r1, r2, r3⟩ := run_append_own (P := P) w base t ty e i z size bytes ht hi hz hsize hby hzs hsz v 0 [] (by rw [hv]; exact World.ownsRow_nil w base e size) ad m c news hl hnews h1 h63 hbytes hbase
    exact ⟨v', w', r0, MRow.of_own r1, r2, fun e => (r3.1 e).2⟩
  · by_cases hr : n + m ≤ cap
    · subst hsize
      have hlt : ∀ j, j < news.length → n * i.size + j < cur.size := by
        intro j hj
        rw [h6]
        have : (n + m) * i.size ≤ cap * i.size := Nat.mul_le_mul_right _ hr
        rw [Nat.add_mul] at this
        omega
      have hrun := run_append_room_cells (P := P) w t ty e i ht hi g 0 n cap ad m c news hl hnews h1 hr
        (fun j hj => by rw [Nat.zero_add, h3.cell, Array.getElem?_eq_getElem (hlt j hj)]; rfl)
        (fun j hj => by rw [Nat.zero_add]; exact h3.frozen _ (hlt j hj))
      rw [Nat.zero_add] at hrun
      have hfit : n * i.size + news.length ≤ cur.size := by rw [hl, h6, ← Nat.add_mul]; exact Nat.mul_le_mul_right _ hr
      have hp := h3.puts news (n * i.size) hfit
      rw [hv]
      refine ⟨_, _, hrun, ⟨by rw [List.length_append, hown.1, hl, Nat.add_mul], .inr ⟨g, cap, _, rfl, h2, hp, hr, h5, ?_, ?_⟩⟩, setCells_grown g news (n * i.size) w, by intro e; cases e⟩
      · simp only [List.size_toArray, List.length_append, List.length_take, List.length_drop, Array.length_toList]; omega
      · rw [h7]
        show List.take _ (xs ++ news ++ _) = _
        exact List.take_left' (by rw [List.length_append, hown.1, hl, Nat.add_mul])
    · have holds : ∀ j u, xs[j]? = some u → w.cell? ((⟨g, 0, none⟩ : Addr).add j) = some u := by
        intro j u hu
        rw [Addr.add_lit, Nat.zero_add]
        rw [hv] at hown
        exact hown.cellAt j u hu
      obtain ⟨v', w', r0, r1, r2⟩ := run_append_arg_grows (P := P) w t ty e i z size bytes ht hi hz hsize hby hzs hsz ⟨g, 0, none⟩ n cap xs hown.1 holds ad m c news hl hnews (by omega) h63 hbytes
      rw [hv]
      refine ⟨v', w', r0, (MRow.of_own r1).more hbase, ⟨r2.os, r2.tape, r2.output, r2.size, fun k hk _ => r2.block k hk (by simp)⟩, ?_⟩
      intro e
      rcases r1.2 with ⟨_, hz⟩ | ⟨_, _, _, hv', _⟩
      · omega
      · rw [e] at hv'; cases hv'
theorem wp_append_m {P : Program} (w : World) {o : Oper} {a : Act} {K : Act → World → Prop} {Q : Exit → Act → World → Prop} (s x : Operand) (t : TypeId)
    (ho : o.op = .call { callee := .builtin .append, args := #[s, x], argTypes := #[t, t] })
    (base : Nat) (e : TypeId) (i : TypeInfo) (z : Value) (size bytes : Nat) (ht : P.underlying t = some (.slice e)) (hi : P.info? e = some i) (hz : i.zero = some z)
    (hsize : i.size = size) (hby : i.bytes = bytes) (hzs : z.cells.size = size) (hsz : 0 < size)
    (v : Value) (n : Nat) (xs : List Value) (hs : a.eval s = v) (hown : MRow w base e size v n xs)
    (ad : Addr) (m c : Nat) (news : List Value) (hx : a.eval x = .slice (some ad) m c) (hl : news.length = m * size) (hnews : ∀ j u, news[j]? = some u → w.cell? (ad.add j) = some u) (h1 : ∀ u ∈ news, u.oneCell' = true)
    (h63 : n + m ≤ maxLen) (hbytes : (n + m) * bytes ≤ 140737488355328) (hbase : base ≤ w.heap.size)
    (h : ∀ v' w', MRow w' base e size v' (n + m) (xs ++ news) → w.grownBy w' v.ownBlock → (v' = .slice none 0 0 → m = 0) → K (a.put o.dst v') w') : o.wp P a w K Q := by
  obtain ⟨v', w', hr, h2, h3, h4⟩ := run_append_m (P := P) w base t o.type e i z size bytes ht hi hz hsize hby hzs hsz v n xs hown ad m c news hl hnews h1 h63 hbytes hbase
  unfold Oper.wp execOp
  simp only [ho, resolve, invoke, builtin, Sem.run_bind, Sem.run_pure, Result.andThen_ok, List.map_toArray, List.map_cons, List.map_nil, hs, hx, hr]
  exact h v' w' h2 h3 h4
/- Rows of bytes. -/
def BRow (w : World) (base : Nat) (v : Value) (l : List UInt8) : Prop := MRow w base 5 1 v l.length (l.map byteV)
theorem BRow.string {w : World} {base : Nat} {v : Value} {l : List UInt8} (h : BRow w base v l) : (convert 115 9 v).run Tryz.prog w = .ok (.string ⟨l.toArray⟩) w := by
  rcases h.2 with ⟨rfl, hn⟩ | ⟨g, cap, cur, rfl, h2, h3, h4, h5, h6, h7⟩
  · have : l = [] := List.eq_nil_of_length_eq_zero hn
    subst this
    exact Lib.run_convert_nil_bytes w _ _ _ _ Tryz.underlying115 Tryz.underlying5 Tryz.underlying9
  · rw [Nat.mul_one] at h7
    have e : cur = (l.map byteV ++ cur.toList.drop l.length).toArray := by
      apply Array.toList_inj.1
      show cur.toList = l.map byteV ++ cur.toList.drop l.length
      rw [← h7, List.take_append_drop]
    rw [e] at h3
    exact blkM_string h3
theorem wp_append_bytes (w : World) {o : Oper} {a : Act} {K : Act → World → Prop} {Q : Exit → Act → World → Prop} (s x : Operand)
    (ho : o.op = .call { callee := .builtin .append, args := #[s, x], argTypes := #[115, 115] })
    (base : Nat) (v : Value) (l : List UInt8) (hs : a.eval s = v) (hown : BRow w base v l)
    (ad : Addr) (m : List UInt8) (k c : Nat) (hx : a.eval x = .slice (some ad) k c) (hk : k = m.length) (hnews : ∀ j u, (m.map byteV)[j]? = some u → w.cell? (ad.add j) = some u)
    (hlen : l.length + m.length ≤ 140737488355328) (hbase : base ≤ w.heap.size) {w0 : World} (hbel : Below base w0 w)
    (h : ∀ v' w', BRow w' base v' (l ++ m) → Below base w0 w' → w.grownBy w' v.ownBlock → K (a.put o.dst v') w') : o.wp Tryz.prog a w K Q := by
  obtain ⟨i0, hi, hz0, hz1, hz2⟩ := info_parts infoU8
  subst hk
  refine wp_append_m w s x _ ho base 5 i0 (.int .u8 0) 1 1 Tryz.underlying115 hi hz0 hz1 hz2 rfl (by decide) v l.length _ hs hown ad m.length c (m.map byteV) hx (by simp) hnews ?_ (by unfold maxLen; omega) (by omega) hbase ?_
  · intro u hu
    obtain ⟨b, _, rfl⟩ := List.mem_map.1 hu
    rfl
  · intro v' w' r1 r2 _
    refine h v' w' ?_ (hbel.grown r2 hbase fun k hk => (hown.lt k hk).1) r2
    unfold BRow
    rw [List.length_append, List.map_append]
    exact r1
theorem wpList_append_bytes (w : World) {ops : Array Oper} {rest : List Oper} {o : Oper} {a : Act} {Q : Exit → Act → World → Prop} (hgd : o.guard = none) (s x : Operand)
    (ho : o.op = .call { callee := .builtin .append, args := #[s, x], argTypes := #[115, 115] })
    (base : Nat) (v : Value) (l : List UInt8) (hs : a.eval s = v) (hown : BRow w base v l)
    (ad : Addr) (m : List UInt8) (k c : Nat) (hx : a.eval x = .slice (some ad) k c) (hk : k = m.length) (hnews : ∀ j u, (m.map byteV)[j]? = some u → w.cell? (ad.add j) = some u)
    (hlen : l.length + m.length ≤ 140737488355328) (hbase : base ≤ w.heap.size) {w0 : World} (hbel : Below base w0 w)
    (h : ∀ v' w', BRow w' base v' (l ++ m) → Below base w0 w' → w.grownBy w' v.ownBlock → wpList Tryz.prog ops Q rest (a.put o.dst v') w') : wpList Tryz.prog ops Q (o :: rest) a w :=
  wpList_plain hgd fun _ hK => wp_append_bytes w s x ho base v l hs hown ad m k c hx hk hnews hlen hbase hbel fun v' w' h2 h3 h4 => hK _ _ (h v' w' h2 h3 h4)
theorem step_append_bytes (w : World) {ops : Array Oper} {o : Oper} {a : Act} {K : Act → World → Prop} {Q : Exit → Act → World → Prop} {E : Prop} (hgd : o.guard = none) (s x : Operand)
    (ho : o.op = .call { callee := .builtin .append, args := #[s, x], argTypes := #[115, 115] })
    (base : Nat) (v : Value) (l : List UInt8) (hs : a.eval s = v) (hown : BRow w base v l)
    (ad : Addr) (m : List UInt8) (k c : Nat) (hx : a.eval x = .slice (some ad) k c) (hk : k = m.length) (hnews : ∀ j u, (m.map byteV)[j]? = some u → w.cell? (ad.add j) = some u)
    (hlen : l.length + m.length ≤ 140737488355328) (hbase : base ≤ w.heap.size) {w0 : World} (hbel : Below base w0 w)
    (h : ∀ v' w', BRow w' base v' (l ++ m) → Below base w0 w' → w.grownBy w' v.ownBlock → K (a.put o.dst v') w') : if Region.wanted o (yielded ops a.tmps) = true then Oper.wp Tryz.prog o a w K Q else E := by
  rw [if_pos (by simp [Region.wanted, hgd])]
  exact wp_append_bytes w s x ho base v l hs hown ad m k c hx hk hnews hlen hbase hbel h
/- The cells of a literal that was just laid. -/
theorem lit_cells (w : World) (cs : Array Value) (t : TypeId) (m : List UInt8) (h : cs = (m.map byteV).toArray) : ∀ j u, (m.map byteV)[j]? = some u → (w.alloc (.cells cs t)).cell? ((⟨w.heap.size, 0, none⟩ : Addr).add j) = some u := by
  intro j u hu
  subst h
  rw [Addr.add_lit, Nat.zero_add, (Blk.new w t _).cell j, List.getElem?_toArray]
  exact hu
section
variable {w w' : World} {base : Nat} {v : Value} {l : List UInt8}
theorem BRow.alloc (h : BRow w base v l) (o : Obj) : BRow (w.alloc o) base v l := MRow.alloc h o
theorem BRow.drew (h : BRow w base v l) : BRow w.drew base v l := h
theorem BRow.drewN (h : BRow w base v l) (k : Nat) : BRow (w.drewN k) base v l := h
theorem BRow.below {B : Nat} (h : BRow w base v l) (hb : Below B w w') (hB : w.heap.size ≤ B) : BRow w' base v l := MRow.below h hb hB
theorem BRow.below_grown {a : World} (hr : BRow w base v l) (h : Below base a w) (hB : base ≤ w.heap.size) (hg : w.grownBy w' v.ownBlock) : Below base a w' :=
  h.grown hg hB fun k hk => (MRow.lt hr k hk).1
end
def sliceLen : Value → Nat | .slice _ n _ => n | _ => 0
theorem BRow.len {w : World} {base : Nat} {v : Value} {l : List UInt8} (h : BRow w base v l) : sliceLen v = l.length := by
  obtain ⟨A, cp, rfl, _⟩ := MRow.form h
  rfl
theorem BRow.nil (w : World) (base : Nat) : BRow w base (.slice none 0 0) [] := MRow.nil w base _ _
/- '[]byte(s)' as a row of the call's own. -/
theorem bytes_brow (w : World) (s : ByteArray) (hs : s.size ≤ maxLen) : ∃ (cap : Nat) (C : Array Value) (fr : Nat × Nat),
    (convert 9 115 (.string s)).run Tryz.prog w = .ok (.slice (some ⟨w.heap.size, 0, none⟩) s.size cap) (w.drew.alloc (.cells C 5 fr)) ∧
    BRow (w.alloc (.cells C 5 fr)).drew w.heap.size (.slice (some ⟨w.heap.size, 0, none⟩) s.size cap) s.data.toList ∧ Below w.heap.size w (w.alloc (.cells C 5 fr)).drew := by
  have hrun := run_bytes_of_string (P := Tryz.prog) w _ _ _ s Tryz.underlying9 Tryz.underlying115 Tryz.underlying5
  refine ⟨_, _, _, hrun, ?_, ((Below.refl _ _).alloc (Nat.le_refl _) _).drew⟩
  have h1 : BlkM (w.alloc (.cells (bytesRow s (grownCap w s.size 0 5)) 5 ((bytesRow s (grownCap w s.size 0 5)).size, (bytesRow s (grownCap w s.size 0 5)).size + 1))).drew w.heap.size 5 (bytesRow s (grownCap w s.size 0 5)) := BlkM.new w _ _ _ _ (Nat.le_refl _)
  have hge := grownCap_ge w s.size 0 5
  refine ⟨by simp, .inr ⟨w.heap.size, _, _, by rw [len_of], Nat.le_refl _, h1, by rw [len_of]; exact hge, grownCap_le_maxLen w _ _ _ hs, ?_, ?_⟩⟩
  · simp [bytesRow]; have := len_of s; simp at this; omega
  · have e : (bytesRow s (grownCap w s.size 0 5)).toList = s.data.toList.map byteV ++ List.replicate (grownCap w s.size 0 5 - s.size) (.int .u8 0) := by simp [bytesRow, byteV]
    rw [e]
    exact List.take_left' (by simp)
theorem below_grown {B : Nat} {a w w' : World} {v : Value} {e : TypeId} {size n : Nat} {xs : List Value} (h : Below B a w) (hr : MRow w B e size v n xs) (hB : B ≤ w.heap.size) (hg : w.grownBy w' v.ownBlock) : Below B a w' :=
  h.grown hg hB fun k hk => (hr.lt k hk).1
/- A slice that reads as a list of cells: whoever's memory it is. -/
def SRd (w : World) (v : Value) (size n : Nat) (xs : List Value) : Prop :=
  xs.length = n * size ∧ ∃ A cap, v = .slice A n cap ∧ n ≤ cap ∧ cap ≤ maxLen ∧
    (0 < n → ∃ b o, A = some ⟨b, o, none⟩ ∧ b < w.heap.size ∧ ∀ j u, xs[j]? = some u → w.cell? ⟨b, o + j, none⟩ = some u)
section
variable {w w' : World} {v : Value} {size n : Nat} {xs : List Value}
theorem SRd.of_m {base : Nat} {e : TypeId} (h : MRow w base e size v n xs) : SRd w v size n xs := by
  obtain ⟨A, cap, hv, h1, h2, h3⟩ := h.form
  refine ⟨h.1, A, cap, hv, h1, h2, fun hn => ?_⟩
  rcases h.2 with ⟨_, hz⟩ | ⟨g, cap', cur, hv', _⟩
  · omega
  · rw [hv] at hv'
    injection hv' with ha _ _
    subst ha
    have := h3 _ rfl
    refine ⟨g, 0, rfl, this.2.2.2.1, fun j u hu => ?_⟩
    have := this.2.2.2.2 j u hu
    rwa [Addr.add_lit] at this
theorem SRd.keep (h : SRd w v size n xs) (hs : w.heap.size ≤ w'.heap.size) (hk : ∀ b o, b < w.heap.size → w'.cell? ⟨b, o, none⟩ = w.cell? ⟨b, o, none⟩) : SRd w' v size n xs := by
  obtain ⟨h1, A, cap, hv, h2, h3, h4⟩ := h
  refine ⟨h1, A, cap, hv, h2, h3, fun hn => ?_⟩
  obtain ⟨b, o, hA, hb, hc⟩ := h4 hn
  exact ⟨b, o, hA, by omega, fun j u hu => (hk _ _ hb).trans (hc j u hu)⟩
theorem SRd.below {B : Nat} (h : SRd w v size n xs) (hb : Below B w w') (hB : w.heap.size ≤ B) : SRd w' v size n xs :=
  h.keep hb.size fun b o hlt => hb.cell (p := ⟨b, o, none⟩) (Nat.lt_of_lt_of_le hlt hB)
theorem SRd.on (h : SRd w v size n xs) (hb : Below w.heap.size w w') : SRd w' v size n xs := h.below hb (Nat.le_refl _)
theorem SRd.two {k : Nat} (h : SRd w v 2 n xs) (hk : k < n) : ∃ b o cap u0 u1, v = .slice (some ⟨b, o, none⟩) n cap ∧ b < w.heap.size ∧ xs[2 * k]? = some u0 ∧ xs[2 * k + 1]? = some u1 ∧
    w.cell? ⟨b, o + k * 2, none⟩ = some u0 ∧ w.cell? ⟨b, o + k * 2 + 1, none⟩ = some u1 := by
  obtain ⟨h1, A, cap, hv, h2, h3, h4⟩ := h
  obtain ⟨b, o, rfl, hb, hc⟩ := h4 (by omega)
  have e0 := List.getElem?_eq_getElem (l := xs) (i := 2 * k) (by omega)
  have e1 := List.getElem?_eq_getElem (l := xs) (i := 2 * k + 1) (by omega)
  refine ⟨b, o, cap, _, _, hv, hb, e0, e1, ?_, ?_⟩
  · rw [Nat.mul_comm]; exact hc _ _ e0
  · rw [Nat.mul_comm, Nat.add_assoc]; exact hc _ _ e1
end
end Go.Proofs.YtamlepacljjpiaaGreatDoor

/- Contracts of package field: Pad, Padded, Unpad, Get: what they return, of whatever arguments. -/
namespace Go.Proofs.YtamlepacljjpiaaGreatDoor
open Go.ChangeShapes Go.WideShapes Go.ChangeAt Go.RowKit
set_option linter.unusedVariables false

def padI (n : Int) : Int := if n < 0 then 0 else (-n) % 4
theorem padI_rng (n : Int) : 0 ≤ padI n ∧ padI n ≤ 3 := by unfold padI; split <;> omega
def padded (l : List UInt8) : List UInt8 := l ++ List.replicate (padI l.length).toNat 0
theorem pad_any (n : Int) (w : World) : Calls Tryz.prog 89 #[.int .i64 n] w fun e w' => e = .returned (.int .i64 (padI n)) ∧ w = w' := by
  go_enter Tryz.func89, Tryz.ntmps89
  go_wp2
  · go_ret
    rename_i h
    exact ⟨ret_int (by simp [padI, h]), rfl⟩
  · go_ret
    rename_i h
    exact ⟨ret_int (by show bits .and .i64 (wrap64 (-n)) 3 = _; rw [and3_i64, padI, if_neg (by omega)]; unfold wrap64; omega), rfl⟩
def unpadE (l : List UInt8) (n : Int) : Nat :=
  if n < 0 then 2 else if l.length < n + padI n then 7 else if padded (l.take n.toNat) = l.take (n + padI n).toNat then 0 else 3
def unpadS (l : List UInt8) (n : Int) : List UInt8 := if unpadE l n = 0 then l.take n.toNat else []
def unpadN (l : List UInt8) (n : Int) : Int := if unpadE l n = 0 then n + padI n else 0
end Go.Proofs.YtamlepacljjpiaaGreatDoor

/- The contract of field.Get: the number that at most eight bytes are. -/
namespace Go.Proofs.YtamlepacljjpiaaGreatDoor
open Go.ChangeShapes Go.WideShapes Go.ChangeAt Go.RowKit
set_option linter.unusedVariables false

def getN (l : List UInt8) : Nat := l.foldl (fun n c => n * 256 + c.toNat) 0
theorem getN_lt (l : List UInt8) : getN l < 256 ^ l.length := by
  have h : ∀ (l : List UInt8) (a : Nat) (k : Nat), a < 256 ^ k → l.foldl (fun n c => n * 256 + c.toNat) a < 256 ^ (k + l.length) := by
    intro l
    induction l with
    | nil => intro a k h; simpa using h
    | cons c l ih =>
      intro a k h
      simp only [List.foldl_cons, List.length_cons]
      have := ih (a * 256 + c.toNat) (k + 1) (by have := c.toNat_lt; rw [Nat.pow_succ]; omega)
      rwa [Nat.add_right_comm, Nat.add_assoc] at this
  have := h l 0 0 (by simp)
  rwa [Nat.zero_add] at this
theorem getN_snoc (l : List UInt8) (c : UInt8) : getN (l ++ [c]) = getN l * 256 + c.toNat := by simp [getN, List.foldl_append]
end Go.Proofs.YtamlepacljjpiaaGreatDoor

/- The contract of field.Put: a number in so many bytes, the highest first. -/
namespace Go.Proofs.YtamlepacljjpiaaGreatDoor
open Go.ChangeShapes Go.WideShapes Go.ChangeAt Go.RowKit
set_option linter.unusedVariables false

def putB (n : Nat) : Nat → List UInt8
  | 0 => []
  | i + 1 => UInt8.ofNat (n / 2 ^ (8 * i)) :: putB n i
theorem putB_len (n i : Nat) : (putB n i).length = i := by
  induction i with
  | zero => rfl
  | succ i ih => simp [putB, ih]
def putRow (n k j : Nat) : List Value := List.replicate (k - j) (byteV 0) ++ (putB n j).map byteV
theorem putRow_len (n k j : Nat) (h : j ≤ k) : (putRow n k j).length = k := by simp [putRow, putB_len]; omega
theorem putRow_set (n k j : Nat) (h : j < k) : (putRow n k j).set (k - 1 - j) (byteV (UInt8.ofNat (n / 2 ^ (8 * j)))) = putRow n k (j + 1) := by
  unfold putRow
  obtain ⟨d, rfl⟩ : ∃ d, k = j + 1 + d := ⟨k - j - 1, by omega⟩
  have e1 : j + 1 + d - j = d + 1 := by omega
  have e2 : j + 1 + d - 1 - j = d := by omega
  have e3 : j + 1 + d - (j + 1) = d := by omega
  rw [e1, e2, e3, List.set_append, if_pos (by simp)]
  have : (List.replicate (d + 1) (byteV 0)).set d (byteV (UInt8.ofNat (n / 2 ^ (8 * j)))) = List.replicate d (byteV 0) ++ [byteV (UInt8.ofNat (n / 2 ^ (8 * j)))] := by
    rw [List.replicate_succ', List.set_append, if_neg (by simp)]
    simp
  rw [this]
  simp [putB]
theorem put_loop (n k : Nat) (w : World) (hk : k ≤ 8) (hn : n < 2 ^ (8 * k)) (hn2 : n < 18446744073709551616) : Calls Tryz.prog 104 #[.int .u64 n, .int .i64 k] w fun e w' =>
    e = .returned (.tuple #[.string ⟨(putB n k).toArray⟩, .nilIface]) ∧ Below w.heap.size w w' := by
  have hmk := fun w => make_bytes k w (by omega)
  have f0 : ((n : Int) / 2 ^ (8 * k) != 0) = false := by
    have : n / 2 ^ (8 * k) = 0 := Nat.div_eq_of_lt hn
    rw [bne_eq_false_iff_eq]
    exact_mod_cast this
  clear hn
  by_cases h8 : k < 8
  all_goals
    go_enter Tryz.func104, Tryz.ntmps104
    go_wp2
    go_loopw [29] (fun i wr => ∃ j : Nat, j ≤ k ∧ i = .int .i64 j ∧ Below w.heap.size w wr ∧ wr.ownsRow w.heap.size 5 1 (.slice (some ⟨w.heap.size, 0, none⟩) k k) k (putRow n k j)) (fun i _ => k - (intOf i).toNat)
    case atStart =>
      refine ⟨0, Nat.zero_le _, rfl, (Below.refl _ _).alloc (Nat.le_refl _) _, ?_⟩
      have := World.ownsRow_lit (base := w.heap.size) (e := 5) (size := 1) w (zeros k) k (Nat.le_refl _) (by unfold maxLen; omega) (by rw [zeros_size]; omega)
      rw [zeros_list] at this
      have e0 : putRow n k 0 = List.replicate k (byteV 0) := by simp [putRow, putB]
      rw [e0]; exact this
    case round =>
      obtain ⟨j, hj, rfl, hb, hown⟩ := hrel
      by_cases hlt : j < k
      · have hc := hown.cellAt (k - 1 - j) (by omega)
        have hf := hown.frozenAt (k - 1 - j)
        rw [List.getElem?_eq_getElem (by rw [putRow_len n k j hj]; omega)] at hc
        have hs := hown.stored (k - 1 - j) (byteV (UInt8.ofNat (n / 2 ^ (8 * j))))
        rw [putRow_set n k j hlt, byteV_ofNat] at hs
        have HS := Lib.hid hs.1
        clear hs
        go_wp2
        go_roundw
        case rel => exact ⟨j + 1, by omega, by go_num, hb.setCell (Nat.le_refl _) _, by simpa using HS.out⟩
        case measure => simp [intOf]; omega
      · obtain rfl : j = k := by omega
        have e1 : putRow n j j = (putB n j).map byteV := by simp [putRow]
        rw [e1] at hown
        have hcv := own_string hown
        go_wp2
        go_ret2
        exact ⟨rfl, hb⟩
theorem put_ok (n k : Int) (w : World) (hk : 0 ≤ k) (hk8 : k ≤ 8) (hn0 : 0 ≤ n) (hn : n < 2 ^ (8 * k.toNat)) (hn2 : n < 18446744073709551616) : Calls Tryz.prog 104 #[.int .u64 n, .int .i64 k] w fun e w' =>
    e = .returned (.tuple #[.string ⟨(putB n.toNat k.toNat).toArray⟩, .nilIface]) ∧ Below w.heap.size w w' := by
  obtain ⟨m, rfl⟩ := Int.eq_ofNat_of_zero_le hn0
  obtain ⟨j, rfl⟩ := Int.eq_ofNat_of_zero_le hk
  simp only [Int.toNat_natCast] at hn ⊢
  exact put_loop m j w (by omega) (by exact_mod_cast hn) (by omega)
theorem put_range (n k : Int) (w : World) (hk : k < 0 ∨ 8 < k) : Calls Tryz.prog 104 #[.int .u64 n, .int .i64 k] w fun e w' =>
    e = .returned (.tuple #[.string ⟨#[]⟩, errv 2]) ∧ w = w' := by
  by_cases h : k < 0
  · go_enter Tryz.func104, Tryz.ntmps104
    go_wp2
    go_ret2
    exact ⟨rfl, rfl⟩
  · have h8 : 8 < k := by omega
    clear hk
    go_enter Tryz.func104, Tryz.ntmps104
    go_wp2
    go_ret2
    exact ⟨rfl, rfl⟩
theorem put_limit (n k : Int) (w : World) (hk : 0 ≤ k) (hk8 : k < 8) (hn0 : 0 ≤ n) (hn : 2 ^ (8 * k.toNat) ≤ n) (hn2 : n < 18446744073709551616) : Calls Tryz.prog 104 #[.int .u64 n, .int .i64 k] w fun e w' =>
    e = .returned (.tuple #[.string ⟨#[]⟩, errv 4]) ∧ w = w' := by
  obtain ⟨m, rfl⟩ := Int.eq_ofNat_of_zero_le hn0
  obtain ⟨j, rfl⟩ := Int.eq_ofNat_of_zero_le hk
  simp only [Int.toNat_natCast] at hn
  have f0 : ((m : Int) / 2 ^ (8 * j) != 0) = true := by
    have h1 : 2 ^ (8 * j) ≤ m := by exact_mod_cast hn
    have h2 : 0 < m / 2 ^ (8 * j) := Nat.div_pos h1 (Nat.two_pow_pos _)
    rw [bne_iff_ne]
    have : m / 2 ^ (8 * j) ≠ 0 := by omega
    exact_mod_cast this
  clear hn hn2
  go_enter Tryz.func104, Tryz.ntmps104
  go_wp2
  go_ret2
  exact ⟨rfl, rfl⟩
end Go.Proofs.YtamlepacljjpiaaGreatDoor

/- Plain laws of numbers as bytes: which is less, which are one; the number that bytes are is written so. -/
namespace Go.Proofs.YtamlepacljjpiaaGreatDoor
set_option linter.unusedVariables false

theorem mod_split (n i : Nat) : n % 2 ^ (8 * (i + 1)) = (n / 2 ^ (8 * i)) % 256 * 2 ^ (8 * i) + n % 2 ^ (8 * i) := by
  have e : 2 ^ (8 * (i + 1)) = 2 ^ (8 * i) * 256 := by rw [show 8 * (i + 1) = 8 * i + 8 from by omega, Nat.pow_add]
  rw [e, Nat.mod_mul, Nat.add_comm, Nat.mul_comm (2 ^ (8 * i))]
theorem two_digits (x y p a b : Nat) (ha : a < p) (hb : b < p) : (x * p + a < y * p + b) ↔ (x < y ∨ x = y ∧ a < b) := by
  rcases Nat.lt_trichotomy x y with h | h | h
  · have : (x + 1) * p ≤ y * p := Nat.mul_le_mul_right _ h
    rw [Nat.add_mul] at this
    omega
  · subst h; omega
  · have : (y + 1) * p ≤ x * p := Nat.mul_le_mul_right _ h
    rw [Nat.add_mul] at this
    omega
theorem ofNat_eq (x y : Nat) : UInt8.ofNat x = UInt8.ofNat y ↔ x % 256 = y % 256 := by
  rw [← UInt8.toNat_inj]; simp
theorem putB_less (a b k : Nat) : Op.bytesLess (putB a k) (putB b k) = decide (a % 2 ^ (8 * k) < b % 2 ^ (8 * k)) := by
  induction k with
  | zero => simp [putB, Op.bytesLess, Nat.mod_one]
  | succ i ih =>
    simp only [putB, Op.bytesLess, ih]
    rw [mod_split a i, mod_split b i]
    have h := two_digits ((a / 2 ^ (8 * i)) % 256) ((b / 2 ^ (8 * i)) % 256) (2 ^ (8 * i)) (a % 2 ^ (8 * i)) (b % 2 ^ (8 * i)) (Nat.mod_lt _ (Nat.two_pow_pos _)) (Nat.mod_lt _ (Nat.two_pow_pos _))
    rw [Bool.eq_iff_iff]
    simp [UInt8.lt_iff_toNat_lt, h, ofNat_eq]
theorem putB_get (n k : Nat) : getN (putB n k) = n % 2 ^ (8 * k) := by
  have h : ∀ k a, (putB n k).foldl (fun n c => n * 256 + c.toNat) a = a * 2 ^ (8 * k) + n % 2 ^ (8 * k) := by
    intro k
    induction k with
    | zero => intro a; simp [putB, Nat.mod_one]
    | succ i ih =>
      intro a
      simp only [putB, List.foldl_cons, ih]
      rw [mod_split n i, show 8 * (i + 1) = 8 * i + 8 from by omega, Nat.pow_add, Nat.add_mul]
      simp only [UInt8.toNat_ofNat', Nat.reducePow]
      rw [Nat.mul_comm (2 ^ (8 * i)) 256, ← Nat.mul_assoc]
      omega
  have := h k 0
  rw [Nat.zero_mul, Nat.zero_add] at this
  exact this
theorem putB_inj (a b k : Nat) : (putB a k == putB b k) = decide (a % 2 ^ (8 * k) = b % 2 ^ (8 * k)) := by
  rw [Bool.eq_iff_iff, beq_iff_eq, decide_eq_true_eq]
  constructor
  · intro h
    rw [← putB_get a k, ← putB_get b k, h]
  · intro h
    have : ∀ k, a % 2 ^ (8 * k) = b % 2 ^ (8 * k) → putB a k = putB b k := by
      intro k
      induction k with
      | zero => intro _; rfl
      | succ i ih =>
        intro h
        rw [mod_split a i, mod_split b i] at h
        have ha := Nat.mod_lt a (Nat.two_pow_pos (8 * i))
        have hb := Nat.mod_lt b (Nat.two_pow_pos (8 * i))
        have h1 := two_digits ((a / 2 ^ (8 * i)) % 256) ((b / 2 ^ (8 * i)) % 256) (2 ^ (8 * i)) _ _ ha hb
        have h2 := two_digits ((b / 2 ^ (8 * i)) % 256) ((a / 2 ^ (8 * i)) % 256) (2 ^ (8 * i)) _ _ hb ha
        have e1 : a / 2 ^ (8 * i) % 256 = b / 2 ^ (8 * i) % 256 := by omega
        have e2 : a % 2 ^ (8 * i) = b % 2 ^ (8 * i) := by rw [e1] at h; omega
        simp only [putB, ih e2]
        congr 1
        apply UInt8.toNat_inj.1
        simpa using e1
    exact this k h
theorem putB_snoc (n : Nat) (c : UInt8) (k : Nat) : putB (n * 256 + c.toNat) (k + 1) = putB n k ++ [c] := by
  induction k with
  | zero =>
    simp only [putB, Nat.mul_zero, Nat.pow_zero, Nat.div_one, List.nil_append, List.cons.injEq, and_true]
    apply UInt8.toNat_inj.1
    have := c.toNat_lt
    simp
  | succ k ih =>
    rw [putB, ih]
    simp only [putB, List.cons_append, List.cons.injEq, and_true]
    congr 1
    rw [show 8 * (k + 1) = 8 + 8 * k from by omega, Nat.pow_add, ← Nat.div_div_eq_div_mul]
    congr 1
    have := c.toNat_lt
    omega
theorem get_put (l : List UInt8) : putB (getN l) l.length = l := by
  have h : ∀ k (l : List UInt8), l.length = k → putB (getN l) k = l := by
    intro k
    induction k with
    | zero => intro l h; rw [List.length_eq_zero_iff.1 h]; rfl
    | succ k ih =>
      intro l h
      obtain ⟨m, c, rfl⟩ : ∃ m c, l = m ++ [c] := ⟨l.dropLast, l.getLast (by intro e; simp [e] at h), (List.dropLast_concat_getLast _).symm⟩
      rw [getN_snoc, putB_snoc, ih m (by simpa using h)]
  exact h _ l rfl
theorem unpad_padded (l m : List UInt8) : unpadE (padded l ++ m) l.length = 0 ∧ unpadS (padded l ++ m) l.length = l ∧ unpadN (padded l ++ m) l.length = (padded l).length := by
  have hp := padI_rng l.length
  have g1 : (padded l).length = l.length + (padI l.length).toNat := by simp [padded]
  have e : unpadE (padded l ++ m) l.length = 0 := by
    unfold unpadE
    rw [if_neg (by omega), if_neg (by rw [List.length_append, g1]; omega), if_pos]
    have h1 : ((l.length : Int) + padI l.length).toNat = (padded l).length := by omega
    have h2 : (padded l ++ m).take l.length = l := by
      unfold padded
      rw [List.append_assoc, List.take_append_of_le_length (Nat.le_refl _), List.take_length]
    rw [Int.toNat_natCast, h2, h1, List.take_append_of_le_length (Nat.le_refl _), List.take_length]
  refine ⟨e, ?_, ?_⟩
  · rw [unpadS, if_pos e, Int.toNat_natCast]
    unfold padded
    rw [List.append_assoc, List.take_append_of_le_length (Nat.le_refl _), List.take_length]
  · rw [unpadN, if_pos e, g1]; omega
end Go.Proofs.YtamlepacljjpiaaGreatDoor

/- api.Tell (and errors.As at the target *api.Errno): what it tells of nil, and of an Errno. -/
namespace Go.Proofs.YtamlepacljjpiaaGreatDoor
open Go.RowKit Go.Extern.Stop Go.Stop Go.Extern
set_option linter.unusedVariables false
/- What a listed variable holds at the call: errors.errorType is the handle of type error. -/
def LaidE (w : World) : Prop := w.cell? ⟨0, 0, none⟩ = some (.iface 189 (.agg #[.pointer (some ⟨12, 45, none⟩)]))
theorem LaidE.lt {w : World} (h : LaidE w) : 0 < w.heap.size := by
  rcases Nat.lt_or_ge 0 w.heap.size with h0 | h0
  · exact h0
  · unfold LaidE at h
    simp [World.cell?, Array.getElem?_eq_none h0] at h
theorem LaidE.below {B : Nat} {w w' : World} (h : LaidE w) (hb : Below B w w') (hB : 0 < B) : LaidE w' := (hb.cell (p := ⟨0, 0, none⟩) hB).trans h
theorem LaidE.on {w w' : World} (h : LaidE w) (hb : Below w.heap.size w w') : LaidE w' := h.below hb h.lt
theorem LaidE.drewN {w : World} (h : LaidE w) (k : Nat) : LaidE (w.drewN k) := h
theorem LaidE.alloc {w : World} (h : LaidE w) (o : Obj) : LaidE (w.alloc o) := h.on ((Below.refl _ _).alloc (Nat.le_refl _) o)
theorem as_nil (t : Value) (w : World) : Calls Tryz.prog 59 #[.nilIface, t] w fun e w' => e = .returned (.bool false) ∧ w = w' := by
  go_enter Tryz.func59, Tryz.ntmps59
  go_wp2
  go_ret
  exact ⟨rfl, rfl⟩
theorem valueOfPE (t : Addr) (w : World) : (ReflectliteValue.unpack (.iface 111 (.pointer (some t)))).run Tryz.prog w
    = .ok (.agg #[.pointer (some ⟨12, 111, none⟩), .pointer (some ⟨w.heap.size, 0, none⟩), .int .u64 150]) (w.alloc (.cells #[.pointer (some t)] 111)) := by kernel_rfl
theorem typePE (a : Addr) (w : World) : (ReflectliteValue.methodAny (ReflectliteValue.valueError "reflectlite.Value.Type" 0) (fun t _ _ _ => ReflectliteType.toType t) #[.agg #[.pointer (some ⟨12, 111, none⟩), .pointer (some a), .int .u64 150]]).run Tryz.prog w
    = .ok (.iface 189 (.agg #[.pointer (some ⟨12, 111, none⟩)])) w := by kernel_rfl
theorem methodKind (h : Value) (w : World) : (Go.method 407 189 (.agg #[h]) "Kind").run Tryz.prog w = .ok (186, h) w := by kernel_rfl
theorem kindPE (w : World) : ((ReflectliteType.abiMethod fun t => (fun a : Nat => Value.int IntKind.u8 (a : Int)) <$> Rtype.kind t) #[.pointer (some ⟨12, 111, none⟩)]).run Tryz.prog w = .ok (.int .u8 22) w := by kernel_rfl
theorem kindE (w : World) : ((ReflectliteType.abiMethod fun t => (fun a : Nat => Value.int IntKind.u8 (a : Int)) <$> Rtype.kind t) #[.pointer (some ⟨12, 56, none⟩)]).run Tryz.prog w = .ok (.int .u8 2) w := by kernel_rfl
theorem rlm (z : Sem Value) (f : TypeId → Addr → Nat → Nat → Sem Value) (v : Value) :
    ReflectliteValue.method z f #[v] = (do match ← ReflectliteValue.parts v with | none => z | some (t, a, fl) => f t a fl (fl % 32)) := rfl
theorem partsPE (a : Addr) (w : World) : (ReflectliteValue.parts (.agg #[.pointer (some ⟨12, 111, none⟩), .pointer (some a), .int .u64 150])).run Tryz.prog w = .ok (some (111, a, 150)) w := by kernel_rfl
theorem isNilPE (a p : Addr) (W : World) (ha : W.cell? a = some (.pointer (some p))) :
    (ReflectliteValue.method (ReflectliteValue.valueError "reflectlite.Value.IsNil" 0) ReflectliteValue.isNil #[.agg #[.pointer (some ⟨12, 111, none⟩), .pointer (some a), .int .u64 150]]).run Tryz.prog W = .ok (.bool false) W := by
  rw [rlm]
  simp only [Sem.run_bind, partsPE, Result.andThen]
  simp [ReflectliteValue.isNil, loadVar, isAgg, underlying, Tryz.underlying111, ha, Result.andThen]
theorem methodElem (h : Value) (w : World) : (Go.method 407 189 (.agg #[h]) "Elem").run Tryz.prog w = .ok (199, .agg #[h]) w := by kernel_rfl
theorem methodImplements (h : Value) (w : World) : (Go.method 407 189 (.agg #[h]) "Implements").run Tryz.prog w = .ok (200, .agg #[h]) w := by kernel_rfl
theorem methodAssignableTo (h : Value) (w : World) : (Go.method 407 189 (.agg #[h]) "AssignableTo").run Tryz.prog w = .ok (197, .agg #[h]) w := by kernel_rfl
theorem elemPE (w : World) : (ReflectliteType.method ReflectliteType.elem #[.agg #[.pointer (some ⟨12, 111, none⟩)]]).run Tryz.prog w = .ok (.iface 189 (.agg #[.pointer (some ⟨12, 56, none⟩)])) w := by kernel_rfl
theorem implementsE (w : World) : (ReflectliteType.relation "Implements" ReflectliteType.implements_ #[.agg #[.pointer (some ⟨12, 56, none⟩)], .iface 189 (.agg #[.pointer (some ⟨12, 45, none⟩)])]).run Tryz.prog w = .ok (.bool true) w := by kernel_rfl
theorem typeOfE (v : Value) (w : World) : (ReflectliteType.typeOf #[.iface 56 v]).run Tryz.prog w = .ok (.iface 189 (.agg #[.pointer (some ⟨12, 56, none⟩)])) w := by kernel_rfl
theorem assignableE (w : World) : (ReflectliteType.relation "AssignableTo" ReflectliteType.assignableTo #[.agg #[.pointer (some ⟨12, 56, none⟩)], .iface 189 (.agg #[.pointer (some ⟨12, 56, none⟩)])]).run Tryz.prog w = .ok (.bool true) w := by kernel_rfl
theorem valueOfE (k : Int) (w : World) : (ReflectliteValue.unpack (.iface 56 (.int .i64 k))).run Tryz.prog w
    = .ok (.agg #[.pointer (some ⟨12, 56, none⟩), .pointer (some ⟨w.heap.size, 0, none⟩), .int .u64 130]) (w.alloc (.cells #[.int .i64 k] 56)) := by kernel_rfl
theorem elemOfPE (w : World) : (Rtype.elem? 111).run Tryz.prog w = .ok (some 56) w := by kernel_rfl
theorem mkE (p : Addr) (w : World) : (ReflectliteValue.mk 56 p ReflectliteValue.flagAddr).run Tryz.prog w = .ok (.agg #[.pointer (some ⟨12, 56, none⟩), .pointer (some p), .int .u64 386]) w := by kernel_rfl
theorem elemVPE (a p : Addr) (W : World) (ha : W.cell? a = some (.pointer (some p))) :
    (ReflectliteValue.method (ReflectliteValue.valueError "reflectlite.Value.Elem" 0) ReflectliteValue.elem #[.agg #[.pointer (some ⟨12, 111, none⟩), .pointer (some a), .int .u64 150]]).run Tryz.prog W
      = .ok (.agg #[.pointer (some ⟨12, 56, none⟩), .pointer (some p), .int .u64 386]) W := by
  rw [rlm]
  simp only [Sem.run_bind, partsPE, Result.andThen]
  simp [ReflectliteValue.elem, loadVar, isAgg, underlying, Tryz.underlying111, ha, Result.andThen, elemOfPE, mkE]
theorem rls (v x : Value) : ReflectliteValue.set #[v, x] = (do
    let (some (dst, a, fl), some (src, b, _)) := (← ReflectliteValue.parts v, ← ReflectliteValue.parts x)
      | unsupported (.noEntry "extern/(internal/reflectlite.Value).Set.zeroValue")
    if fl / ReflectliteValue.flagAddr % 2 == 0 then unsupported (.noEntry "extern/(internal/reflectlite.Value).Set.unaddressable")
    let val ← loadVar src b
    if ← Rtype.directlyAssignable dst src then storeVar dst a val
    else if ← Rtype.implements dst src then
      if (← Rtype.kind src) == 20 then
        match val with
        | .nilIface => unsupported (.noEntry "extern/reflectlite: a nil value of one interface type handed on as a value of another")
        | _ => storeVar dst a val
      else storeVar dst a (.iface src val)
    else panicString ("reflectlite.Set: value of type " ++ (← Rtype.spelt src) ++ " is not assignable to type " ++ (← Rtype.spelt dst))
    pure (.tuple #[])) := rfl
theorem partsEa (a : Addr) (w : World) : (ReflectliteValue.parts (.agg #[.pointer (some ⟨12, 56, none⟩), .pointer (some a), .int .u64 386])).run Tryz.prog w = .ok (some (56, a, 386)) w := by kernel_rfl
theorem partsE (a : Addr) (w : World) : (ReflectliteValue.parts (.agg #[.pointer (some ⟨12, 56, none⟩), .pointer (some a), .int .u64 130])).run Tryz.prog w = .ok (some (56, a, 130)) w := by kernel_rfl
theorem directE (w : World) : (Rtype.directlyAssignable 56 56).run Tryz.prog w = .ok true w := by kernel_rfl
theorem setE (ta b : Addr) (k : Int) (old : Value) (W : World) (hb : W.cell? b = some (.int .i64 k)) (ht : W.cell? ta = some old) (hf : W.frozen? ta = false) :
    (ReflectliteValue.set #[.agg #[.pointer (some ⟨12, 56, none⟩), .pointer (some ta), .int .u64 386], .agg #[.pointer (some ⟨12, 56, none⟩), .pointer (some b), .int .u64 130]]).run Tryz.prog W
      = .ok (.tuple #[]) (W.setCell ta (.int .i64 k)) := by
  rw [rls]
  simp only [Sem.run_bind, partsEa, partsE, Result.andThen]
  simp [ReflectliteValue.flagAddr, loadVar, isAgg, underlying, Tryz.underlying56, hb, Result.andThen, directE, storeVar, Value.cells, storeCells, Addr.add]
  rw [run_store Tryz.prog W ta _ _ (by rfl)]
  simp [ht, hf]
/- the boxes that errors.As lays -/
def boxP (t : Addr) : Obj := .cells #[.pointer (some t)] 111
def boxV (a : Addr) : Obj := .cells #[.pointer (some ⟨12, 111, none⟩), .pointer (some a), .int .u64 150] 162
set_option maxHeartbeats 1000000 in
theorem as_hit (k : Int) (t : Addr) (old : Value) (w : World) (hg : LaidE w) (ht0 : w.cell? t = some old) (hf0 : w.frozen? t = false) :
    Calls Tryz.prog 59 #[.iface 56 (.int .i64 k), .iface 111 (.pointer (some t))] w fun ev w' => ev = .returned (.bool true) ∧
      w' = ((((w.alloc (boxP t)).alloc (boxV ⟨w.heap.size, 0, none⟩)).alloc (boxV ⟨w.heap.size, 0, none⟩)).alloc (.cells #[.int .i64 k] 56)).setCell t (.int .i64 k) := by
  have hlt := hg.lt
  have htl : t.block < w.heap.size := by
    rcases Nat.lt_or_ge t.block w.heap.size with h | h
    · exact h
    · simp [World.cell?, Array.getElem?_eq_none h] at ht0
  have x1 := @run_callFunc_extern Tryz.prog 90 _ (fun args => ReflectliteValue.unpack (args.getD 0 (.tuple #[]))) Tryz.func90 (by kernel_rfl) (by kernel_rfl) (by kernel_rfl) (by kernel_rfl)
  have x2 := @run_callFunc_extern Tryz.prog 91 _ (ReflectliteValue.methodAny (ReflectliteValue.valueError "reflectlite.Value.Type" 0) (fun t _ _ _ => ReflectliteType.toType t)) Tryz.func91 (by kernel_rfl) (by kernel_rfl) (by kernel_rfl) (by kernel_rfl)
  have x3 := @run_callFunc_extern Tryz.prog 92 _ (ReflectliteValue.method (ReflectliteValue.valueError "reflectlite.Value.IsNil" 0) ReflectliteValue.isNil) Tryz.func92 (by kernel_rfl) (by kernel_rfl) (by kernel_rfl) (by kernel_rfl)
  have x4 := @run_callFunc_extern Tryz.prog 186 _ (ReflectliteType.abiMethod fun t => do pure (.int .u8 (← Rtype.kind t))) Tryz.func186 (by kernel_rfl) (by kernel_rfl) (by kernel_rfl) (by kernel_rfl)
  have x5 := @run_callFunc_extern Tryz.prog 199 _ (ReflectliteType.method ReflectliteType.elem) Tryz.func199 (by kernel_rfl) (by kernel_rfl) (by kernel_rfl) (by kernel_rfl)
  have x6 := @run_callFunc_extern Tryz.prog 200 _ (ReflectliteType.relation "Implements" ReflectliteType.implements_) Tryz.func200 (by kernel_rfl) (by kernel_rfl) (by kernel_rfl) (by kernel_rfl)
  have x7 := @run_callFunc_extern Tryz.prog 108 _ ReflectliteType.typeOf Tryz.func108 (by kernel_rfl) (by kernel_rfl) (by kernel_rfl) (by kernel_rfl)
  have x8 := @run_callFunc_extern Tryz.prog 197 _ (ReflectliteType.relation "AssignableTo" ReflectliteType.assignableTo) Tryz.func197 (by kernel_rfl) (by kernel_rfl) (by kernel_rfl) (by kernel_rfl)
  have x9 := @run_callFunc_extern Tryz.prog 109 _ (ReflectliteValue.method (ReflectliteValue.valueError "reflectlite.Value.Elem" 0) ReflectliteValue.elem) Tryz.func109 (by kernel_rfl) (by kernel_rfl) (by kernel_rfl) (by kernel_rfl)
  have x10 := @run_callFunc_extern Tryz.prog 110 _ ReflectliteValue.set Tryz.func110 (by kernel_rfl) (by kernel_rfl) (by kernel_rfl) (by kernel_rfl)
  have y1 := typeOfE
  have y2 := methodAssignableTo
  have y3 := assignableE
  have y4 := valueOfE
  have y5 := valueOfPE
  have y6 := typePE
  have y7 := methodKind
  have y8 := methodElem
  have y9 := methodImplements
  have y10 := kindPE
  have y11 := kindE
  have y12 := elemPE
  have y13 := implementsE
  have n8 := isNilPE ⟨w.heap.size, 0, none⟩ t ((w.alloc (.cells #[.pointer (some t)] 111)).alloc (.cells #[.pointer (some ⟨12, 111, none⟩), .pointer (some ⟨w.heap.size, 0, none⟩), .int .u64 150] 162)) (by simp)
  have hg2 : ((w.alloc (.cells #[.pointer (some t)] 111)).alloc (.cells #[.pointer (some ⟨12, 111, none⟩), .pointer (some ⟨w.heap.size, 0, none⟩), .int .u64 150] 162)).cell? ⟨0, 0, none⟩ = some (.iface 189 (.agg #[.pointer (some ⟨12, 45, none⟩)])) := by
    rw [World.cell?_alloc_lt _ _ ⟨0, 0, none⟩ (by simp <;> omega), World.cell?_alloc_lt _ _ ⟨0, 0, none⟩ hlt]; exact hg
  have el := elemVPE ⟨w.heap.size, 0, none⟩ t (((w.alloc (.cells #[.pointer (some t)] 111)).alloc (.cells #[.pointer (some ⟨12, 111, none⟩), .pointer (some ⟨w.heap.size, 0, none⟩), .int .u64 150] 162)).alloc (.cells #[.pointer (some ⟨12, 111, none⟩), .pointer (some ⟨w.heap.size, 0, none⟩), .int .u64 150] 162)) (by rw [World.cell?_alloc_lt _ _ ⟨w.heap.size, 0, none⟩ (by simp; omega)]; simp)
  have st := setE t ⟨w.heap.size + 1 + 1 + 1, 0, none⟩ k old ((((w.alloc (.cells #[.pointer (some t)] 111)).alloc (.cells #[.pointer (some ⟨12, 111, none⟩), .pointer (some ⟨w.heap.size, 0, none⟩), .int .u64 150] 162)).alloc (.cells #[.pointer (some ⟨12, 111, none⟩), .pointer (some ⟨w.heap.size, 0, none⟩), .int .u64 150] 162)).alloc (.cells #[.int .i64 k] 56))
    (by rw [World.cell?_alloc_at _ _ _ _ (by simp)]; rfl)
    (by rw [World.cell?_alloc_lt _ _ t (by simp; omega), World.cell?_alloc_lt _ _ t (by simp; omega), World.cell?_alloc_lt _ _ t (by simp; omega), World.cell?_alloc_lt _ _ t htl]; exact ht0)
    (by rw [World.frozen?_alloc_old _ _ t (by simp; omega), World.frozen?_alloc_old _ _ t (by simp; omega), World.frozen?_alloc_old _ _ t (by simp; omega), World.frozen?_alloc_old _ _ t (Nat.ne_of_lt htl)]; exact hf0)
  go_enter Tryz.func59, Tryz.ntmps59
  go_wp2
  refine wp_loop_rounds 1 ?_
  rw [rounds_succ]
  go_wp2
  go_ret
  exact ⟨rfl, rfl⟩
end Go.Proofs.YtamlepacljjpiaaGreatDoor

/- What api.Tell tells of nil, and of an Errno. -/
namespace Go.Proofs.YtamlepacljjpiaaGreatDoor
open Go.RowKit Go.Extern.Stop Go.Stop Go.Extern
set_option linter.unusedVariables false
theorem tell_nil (w : World) : Calls Tryz.prog 22 #[.nilIface] w fun e w' => e = .returned (.int .i64 0) ∧ w = w' := by
  go_enter Tryz.func22, Tryz.ntmps22
  go_wp2
  go_ret
  exact ⟨rfl, rfl⟩
theorem tell_errno (k : Int) (w : World) (hg : LaidE w) : Calls Tryz.prog 22 #[.iface 56 (.int .i64 k)] w fun e w' => e = .returned (.int .i64 k) ∧ Below w.heap.size w w' := by
  have hga := hg.alloc (.cells #[.int .i64 0] 56)
  go_enter Tryz.func22, Tryz.ntmps22
  go_wp2_with fail
  refine (as_hit k _ (.int .i64 0) _ hga (by simp) (by simp)).mono ?_
  rintro e w' ⟨rfl, rfl⟩
  go_wp2_with fail
  go_ret
  refine ⟨rfl, ?_⟩
  repeat (first | exact Below.refl _ _ | refine Below.alloc ?_ (by first | exact Nat.le_refl _ | (simp; done) | (simp; omega)) _ | refine Below.setCell ?_ (by first | exact Nat.le_refl _ | (simp; done) | (simp; omega)) _)
theorem tell_errv (k : Nat) (w : World) (hg : LaidE w) : Calls Tryz.prog 22 #[errv k] w fun e w' => e = .returned (.int .i64 k) ∧ Below w.heap.size w w' := by
  unfold errv
  split
  · rename_i h
    subst h
    exact (tell_nil w).mono fun e w' ⟨h1, h2⟩ => ⟨h1, by rw [← h2]; exact Below.refl _ _⟩
  · exact tell_errno k w hg
end Go.Proofs.YtamlepacljjpiaaGreatDoor

/- What api.Tell tells of an error at a place. -/
namespace Go.Proofs.YtamlepacljjpiaaGreatDoor
open Go.RowKit Go.Extern.Stop Go.Stop Go.Extern
set_option linter.unusedVariables false
theorem typeOfA (v : Value) (w : World) : (ReflectliteType.typeOf #[.iface 121 v]).run Tryz.prog w = .ok (.iface 189 (.agg #[.pointer (some ⟨12, 121, none⟩)])) w := by kernel_rfl
theorem assignableA (w : World) : (ReflectliteType.relation "AssignableTo" ReflectliteType.assignableTo #[.agg #[.pointer (some ⟨12, 121, none⟩)], .iface 189 (.agg #[.pointer (some ⟨12, 56, none⟩)])]).run Tryz.prog w = .ok (.bool false) w := by kernel_rfl
theorem methodUnwrapA (v : Value) (w : World) : (Go.method 407 121 v "Unwrap").run Tryz.prog w = .ok (191, v) w := by kernel_rfl
theorem assertAsA (v : Value) (xT : TypeId) (w : World) : (Instr.typeAssert (.iface 121 v) xT 194 true).run Tryz.prog w = .ok (.tuple #[.nilIface, .bool false]) w := run_typeAssert_lacksB Tryz.underlying194 (by kernel_rfl) (by kernel_rfl) v xT w
theorem assertUnwrapA (v : Value) (xT : TypeId) (w : World) : (Instr.typeAssert (.iface 121 v) xT 197 true).run Tryz.prog w = .ok (.tuple #[.iface 121 v, .bool true]) w := by kernel_rfl
theorem unwrap_any (g : Nat) (c p : Int) (w : World) (h : w.cell? ⟨g, 0, none⟩ = some (.int .i64 c)) : Calls Tryz.prog 191 #[.pointer (some ⟨g, 0, none⟩)] w fun e w' => e = .returned (.iface 56 (.int .i64 c)) ∧ w = w' := by
  go_enter Tryz.func191, Tryz.ntmps191
  go_wp2
  go_ret
  exact ⟨rfl, rfl⟩
set_option maxHeartbeats 1000000 in
theorem as_at (k p : Int) (g : Nat) (t : Addr) (old : Value) (w : World) (hg : LaidE w) (hB : w.cell? ⟨g, 0, none⟩ = some (.int .i64 k)) (ht0 : w.cell? t = some old) (hf0 : w.frozen? t = false) :
    Calls Tryz.prog 59 #[.iface 121 (.pointer (some ⟨g, 0, none⟩)), .iface 111 (.pointer (some t))] w fun ev w' => ev = .returned (.bool true) ∧
      w' = ((((w.alloc (boxP t)).alloc (boxV ⟨w.heap.size, 0, none⟩)).alloc (boxV ⟨w.heap.size, 0, none⟩)).alloc (.cells #[.int .i64 k] 56)).setCell t (.int .i64 k) := by
  have hlt := hg.lt
  have htl : t.block < w.heap.size := by
    rcases Nat.lt_or_ge t.block w.heap.size with h | h
    · exact h
    · simp [World.cell?, Array.getElem?_eq_none h] at ht0
  have hgl : g < w.heap.size := by
    rcases Nat.lt_or_ge g w.heap.size with h | h
    · exact h
    · simp [World.cell?, Array.getElem?_eq_none h] at hB
  have x1 := @run_callFunc_extern Tryz.prog 90 _ (fun args => ReflectliteValue.unpack (args.getD 0 (.tuple #[]))) Tryz.func90 (by kernel_rfl) (by kernel_rfl) (by kernel_rfl) (by kernel_rfl)
  have x2 := @run_callFunc_extern Tryz.prog 91 _ (ReflectliteValue.methodAny (ReflectliteValue.valueError "reflectlite.Value.Type" 0) (fun t _ _ _ => ReflectliteType.toType t)) Tryz.func91 (by kernel_rfl) (by kernel_rfl) (by kernel_rfl) (by kernel_rfl)
  have x3 := @run_callFunc_extern Tryz.prog 92 _ (ReflectliteValue.method (ReflectliteValue.valueError "reflectlite.Value.IsNil" 0) ReflectliteValue.isNil) Tryz.func92 (by kernel_rfl) (by kernel_rfl) (by kernel_rfl) (by kernel_rfl)
  have x4 := @run_callFunc_extern Tryz.prog 186 _ (ReflectliteType.abiMethod fun t => do pure (.int .u8 (← Rtype.kind t))) Tryz.func186 (by kernel_rfl) (by kernel_rfl) (by kernel_rfl) (by kernel_rfl)
  have x5 := @run_callFunc_extern Tryz.prog 199 _ (ReflectliteType.method ReflectliteType.elem) Tryz.func199 (by kernel_rfl) (by kernel_rfl) (by kernel_rfl) (by kernel_rfl)
  have x6 := @run_callFunc_extern Tryz.prog 200 _ (ReflectliteType.relation "Implements" ReflectliteType.implements_) Tryz.func200 (by kernel_rfl) (by kernel_rfl) (by kernel_rfl) (by kernel_rfl)
  have x7 := @run_callFunc_extern Tryz.prog 108 _ ReflectliteType.typeOf Tryz.func108 (by kernel_rfl) (by kernel_rfl) (by kernel_rfl) (by kernel_rfl)
  have x8 := @run_callFunc_extern Tryz.prog 197 _ (ReflectliteType.relation "AssignableTo" ReflectliteType.assignableTo) Tryz.func197 (by kernel_rfl) (by kernel_rfl) (by kernel_rfl) (by kernel_rfl)
  have x9 := @run_callFunc_extern Tryz.prog 109 _ (ReflectliteValue.method (ReflectliteValue.valueError "reflectlite.Value.Elem" 0) ReflectliteValue.elem) Tryz.func109 (by kernel_rfl) (by kernel_rfl) (by kernel_rfl) (by kernel_rfl)
  have x10 := @run_callFunc_extern Tryz.prog 110 _ ReflectliteValue.set Tryz.func110 (by kernel_rfl) (by kernel_rfl) (by kernel_rfl) (by kernel_rfl)
  have y1 := typeOfE
  have y2 := methodAssignableTo
  have y3 := assignableE
  have y4 := valueOfE
  have y5 := valueOfPE
  have y6 := typePE
  have y7 := methodKind
  have y8 := methodElem
  have y9 := methodImplements
  have y10 := kindPE
  have y11 := kindE
  have y12 := elemPE
  have y13 := implementsE
  have z1 := typeOfA
  have z2 := assignableA
  have z3 := methodUnwrapA
  have z4 := assertAsA
  have z5 := assertUnwrapA
  have n8 := isNilPE ⟨w.heap.size, 0, none⟩ t ((w.alloc (.cells #[.pointer (some t)] 111)).alloc (.cells #[.pointer (some ⟨12, 111, none⟩), .pointer (some ⟨w.heap.size, 0, none⟩), .int .u64 150] 162)) (by simp)
  have hg2 : ((w.alloc (.cells #[.pointer (some t)] 111)).alloc (.cells #[.pointer (some ⟨12, 111, none⟩), .pointer (some ⟨w.heap.size, 0, none⟩), .int .u64 150] 162)).cell? ⟨0, 0, none⟩ = some (.iface 189 (.agg #[.pointer (some ⟨12, 45, none⟩)])) := by
    rw [World.cell?_alloc_lt _ _ ⟨0, 0, none⟩ (by simp <;> omega), World.cell?_alloc_lt _ _ ⟨0, 0, none⟩ hlt]; exact hg
  have hB2 : (((w.alloc (.cells #[.pointer (some t)] 111)).alloc (.cells #[.pointer (some ⟨12, 111, none⟩), .pointer (some ⟨w.heap.size, 0, none⟩), .int .u64 150] 162)).alloc (.cells #[.pointer (some ⟨12, 111, none⟩), .pointer (some ⟨w.heap.size, 0, none⟩), .int .u64 150] 162)).cell? ⟨g, 0, none⟩ = some (.int .i64 k) := by
    rw [World.cell?_alloc_lt _ _ ⟨g, 0, none⟩ (by simp; omega), World.cell?_alloc_lt _ _ ⟨g, 0, none⟩ (by simp; omega), World.cell?_alloc_lt _ _ ⟨g, 0, none⟩ hgl]; exact hB
  have el := elemVPE ⟨w.heap.size, 0, none⟩ t (((w.alloc (.cells #[.pointer (some t)] 111)).alloc (.cells #[.pointer (some ⟨12, 111, none⟩), .pointer (some ⟨w.heap.size, 0, none⟩), .int .u64 150] 162)).alloc (.cells #[.pointer (some ⟨12, 111, none⟩), .pointer (some ⟨w.heap.size, 0, none⟩), .int .u64 150] 162)) (by rw [World.cell?_alloc_lt _ _ ⟨w.heap.size, 0, none⟩ (by simp; omega)]; simp)
  have st := setE t ⟨w.heap.size + 1 + 1 + 1, 0, none⟩ k old ((((w.alloc (.cells #[.pointer (some t)] 111)).alloc (.cells #[.pointer (some ⟨12, 111, none⟩), .pointer (some ⟨w.heap.size, 0, none⟩), .int .u64 150] 162)).alloc (.cells #[.pointer (some ⟨12, 111, none⟩), .pointer (some ⟨w.heap.size, 0, none⟩), .int .u64 150] 162)).alloc (.cells #[.int .i64 k] 56))
    (by rw [World.cell?_alloc_at _ _ _ _ (by simp)]; rfl)
    (by rw [World.cell?_alloc_lt _ _ t (by simp; omega), World.cell?_alloc_lt _ _ t (by simp; omega), World.cell?_alloc_lt _ _ t (by simp; omega), World.cell?_alloc_lt _ _ t htl]; exact ht0)
    (by rw [World.frozen?_alloc_old _ _ t (by simp; omega), World.frozen?_alloc_old _ _ t (by simp; omega), World.frozen?_alloc_old _ _ t (by simp; omega), World.frozen?_alloc_old _ _ t (Nat.ne_of_lt htl)]; exact hf0)
  go_enter Tryz.func59, Tryz.ntmps59
  go_wp2
  refine wp_loop_rounds 2 ?_
  rw [rounds_succ]
  go_wp2
  rw [rounds_succ]
  go_wp2
  go_ret
  exact ⟨rfl, rfl⟩
theorem tell_at (g : Nat) (c p : Int) (w : World) (hg : LaidE w) (hB : Blk w g 123 #[.int .i64 c, .int .i64 p]) : Calls Tryz.prog 22 #[.iface 121 (.pointer (some ⟨g, 0, none⟩))] w fun e w' => e = .returned (.int .i64 c) ∧ Below w.heap.size w w' := by
  have hga := hg.alloc (.cells #[.int .i64 0] 56)
  have hBa := (hB.alloc (.cells #[.int .i64 0] 56)).cell 0
  clear hB hg
  go_enter Tryz.func22, Tryz.ntmps22
  go_wp2_with fail
  refine (as_at c p g _ (.int .i64 0) _ hga hBa (by simp) (by simp)).mono ?_
  rintro e w' ⟨rfl, rfl⟩
  go_wp2_with fail
  go_ret
  refine ⟨rfl, ?_⟩
  repeat (first | exact Below.refl _ _ | refine Below.alloc ?_ (by first | exact Nat.le_refl _ | (simp; done) | (simp; omega)) _ | refine Below.setCell ?_ (by first | exact Nat.le_refl _ | (simp; done) | (simp; omega)) _)
end Go.Proofs.YtamlepacljjpiaaGreatDoor

/- A law that answers true and writes to nothing that was there meets its row's post: for every law of this seat. -/
namespace Go.Proofs.YtamlepacljjpiaaGreatDoor
open Go.ChangeShapes Go.WideShapes Go.ChangeAt Go.RowKit
set_option linter.unusedVariables false
theorem Tryz.own : ownKnob Tryz.prog.godebug = none := by kernel_rfl
theorem Tryz.laidOut : laidOutB Tryz.prog = true := by kernel_rfl
theorem trodAll_stays {H : Type} {enc : TypeId × Value → H} {P : Program} (hl : laidOutB P = true) {W W' : World} {base : Nat} {sp' : Nat → Bool} :
    ∀ {ts : List TypeId} {vs : List Value} {ds : List (DataW H)} {p : List MemPlace}, (ts.all fun t => P.readableRec t && decide (t < P.types.size)) = true →
      DataW.TrodAll enc P W base (fun _ => true) true ts vs ds p → (∀ x ∈ p, W.sameAt W' x) → (∀ x ∈ p, sp' x.block = true) → DataW.TrodAll enc P W' base sp' true ts vs ds p
  | [], [], [], _, _, h, _, _ => h
  | [], [], _ :: _, _, _, h, _, _ => h.elim
  | [], _ :: _, _, _, _, h, _, _ => h.elim
  | _ :: _, [], _, _, _, h, _, _ => h.elim
  | _ :: _, _ :: _, [], _, _, h, _, _ => h.elim
  | t :: ts, v :: vs, d :: ds, p, hr, h, hs, hb => by
    obtain ⟨p1, q1, h1, h2, rfl⟩ := h
    simp only [List.all_cons, Bool.and_eq_true, decide_eq_true_eq] at hr
    exact ⟨p1, q1, WideElems.Trod_stays hl hr.1.1 hr.1.2 h1 (fun x hx => hs x (by simp [hx])) (fun x hx => hb x (by simp [hx])),
      trodAll_stays hl hr.2 h2 (fun x hx => hs x (by simp [hx])) (fun x hx => hb x (by simp [hx])), rfl⟩
theorem law_post {H : Type} {enc : TypeId × Value → H} {P : Program} {f : Func} {s : ChangeSpec} {W W' : World} {args : Array Value} {ds gs : List (DataW H)} {before : List MemPlace} {b : TypeId}
    (hl : laidOutB P = true) (hr : (f.params.toList.all fun t => P.readableRec t && decide (t < P.types.size)) = true) (hvars : s.vars = [])
    (hres : f.resultTypes = #[b]) (hbool : P.underlying b = some .bool)
    (hW : DataW.Whole enc P f.params.toList s.vars false W args.toList ds gs before) (hb : Below W.heap.size W W')
    (hfn : s.fn H (ds ++ gs) = { results := [.lit (.bool true)], args := ds }) : s.post enc P f false true false false W args (.bool true) W' := by
  have hW' := hW
  obtain ⟨p, q, hA, hV, rfl, hfz, hnd⟩ := hW
  have hlt := hW'.lt
  rw [hvars] at hV
  obtain ⟨rfl, rfl⟩ := trodVars_none hV
  refine ⟨ds, [], p ++ [], [], p, [], hW', ?_, ?_, ?_, ?_, fun h => by cases h⟩
  · rw [hfn, hres]
    exact trodAll_cons_mk (shut_bool hbool _) trodAll_mk0
  · rw [hfn]
    exact trodAll_stays hl hr hA (fun x hx => hb.same (hlt x (by simp [hx]))) (fun x hx => by simpa using hlt x (by simp [hx]))
  · rw [hfn, hvars]
    exact rfl
  · exact hb.frame _
theorem str_size {l : List UInt8} {s : ByteArray} (e : l = s.data.toList) (h : l.length ≤ reachBytes) : s.size ≤ 140737488351232 := by
  subst e
  rw [len_of] at h
  exact h
end Go.Proofs.YtamlepacljjpiaaGreatDoor

/- A law that answers true and writes to nothing that was there meets its row's post; what the listed variable gives: for every law of a seat whose rows list errors.errorType. -/
namespace Go.Proofs.YtamlepacljjpiaaGreatDoor
open Go.ChangeShapes Go.WideShapes Go.ChangeAt Go.RowKit
set_option linter.unusedVariables false
theorem Tryz.et : Tryz.prog.globalNamed "errors.errorType" = some 0 := by kernel_rfl
theorem Tryz.rt : (Tryz.prog.cutTypes.find? (·.1 == "internal/reflectlite.rtype")).map (·.2) = some 189 := by kernel_rfl
theorem Tryz.oneRow : ((List.range 307).filter fun t => Tryz.prog.rowNamed t [101, 114, 114, 111, 114]) = [45] := by kernel_rfl
theorem Tryz.size : Tryz.prog.types.size = 307 := by kernel_rfl
theorem handle_of_laid {W : World} (h : laidMetH Tryz.prog [("errors.errorType", Rows.laid_errors_errorType)] W) : LaidE W := by
  have h' : laidMet Tryz.prog [] W ∧ handlesMet Tryz.prog [("errors.errorType", Rows.laid_errors_errorType)] W := h
  obtain ⟨name, u, ty, e1, e2, e3, e4, e5⟩ := h'.2 _ (List.mem_singleton.2 rfl)
  have en : name = [101, 114, 114, 111, 114] := (Option.some.inj e1).symm
  subst en
  obtain rfl := Option.some.inj (Tryz.rt.symm.trans e2)
  have hm : ty ∈ (List.range 307).filter fun t => Tryz.prog.rowNamed t [101, 114, 114, 111, 114] := List.mem_filter.2 ⟨List.mem_range.2 (by rw [← Tryz.size]; exact e3), e4⟩
  rw [Tryz.oneRow] at hm
  obtain rfl := List.mem_singleton.1 hm
  have hh : typeHandle Tryz.prog 45 = .pointer (some ⟨12, 45, none⟩) := by kernel_rfl
  rw [hh] at e5
  have := World.var?_cell Tryz.et e5 0
  unfold LaidE; simpa using this
noncomputable def laidWorld (os : Os) : World :=
  { World.holding Tryz.prog os ⟨#[], #[], []⟩ with heap := (World.holding Tryz.prog os ⟨#[], #[], []⟩).heap.modify 0 fun
      | .cells _ t frozen => .cells #[.iface 189 (.agg #[.pointer (some ⟨12, 45, none⟩)])] t frozen
      | o => o }
theorem laid_met (os : Os) (args : Array Value) : laidMetH Tryz.prog [("errors.errorType", Rows.laid_errors_errorType)] ((laidWorld os).forCall (fun _ _ => 0) ⟨#[], args, []⟩).memory :=
  laidMetH_of_parts (laidMet_nil _ _) (by kernel_rfl)
end Go.Proofs.YtamlepacljjpiaaGreatDoor

/- Rows that list tables beside errors.errorType: what the listed variable gives, and a world in which they lie. -/
namespace Go.Proofs.YtamlepacljjpiaaGreatDoor
open Go.ChangeShapes Go.WideShapes Go.ChangeAt Go.RowKit
set_option linter.unusedVariables false
theorem handle_of_row {L : List (String × DataW Unit)} {W : World} (hf : (L.filter fun x => x.2.handleName?.isSome) = [("errors.errorType", Rows.laid_errors_errorType)]) (h : laidMetH Tryz.prog L W) : LaidE W := by
  unfold laidMetH at h
  rw [hf] at h
  exact handle_of_laid (show laidMet Tryz.prog [] W ∧ handlesMet Tryz.prog [("errors.errorType", Rows.laid_errors_errorType)] W from ⟨laidMet_nil _ _, h.2⟩)
theorem met_lay {P : Program} {w0 : World} {l : List (String × DataW Unit)} (args : Array Value) (hf : w0.layFits P l [] = true) (hi : w0.layIfaces P l (w0.layVars P l) = true) :
    laidMet P l ((w0.layVars P l).forCall (fun _ _ => 0) ⟨#[], args, []⟩).memory := by
  have e0 : ∀ x ∈ l, (l.map (·.1)).contains x.1 = true := fun x hx => List.contains_iff_mem.2 (List.mem_map_of_mem hx)
  have e1 : (l.filter fun x => (l.map (·.1)).contains x.1) = l := List.filter_eq_self.2 e0
  have e2 : (l.filter fun x => !(l.map (·.1)).contains x.1) = [] := List.filter_eq_nil_iff.2 fun x hx => by rw [e0 x hx]; decide
  have h : laidMet P l (w0.layVars P l) := laidMet_layVars (w0 := w0) (l.map (·.1)) [] (by rw [e1]) (by rw [e1]; exact hf) (by rw [e1]; exact hi) (by rw [e2]; exact LaidIn.none)
  exact h.of_heap (by simp [World.memory, World.forCall, Input.heap])
end Go.Proofs.YtamlepacljjpiaaGreatDoor
