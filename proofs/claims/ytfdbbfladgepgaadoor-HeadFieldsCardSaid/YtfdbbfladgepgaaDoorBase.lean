/- Small words that all walks of this seat use: endings, strings as lists of bytes, errors, numbers in range. -/
import Derived.Test.YtfdbbfladgepgaaDoorRows
import Derived.WalkKit
import Derived.ProofKit
import Derived.OpenShut
import Derived.Lib.Hide
import Derived.Laws.Bits64
import Derived.WalkLawsBesides
import Derived.WalkSpells
import Derived.Outline
import Derived.Deep.QuietTactic
import Derived.BigQuiet
import Derived.Deep.DeepFit
namespace Go.Proofs.YtfdbbfladgepgaaDoor
open Go.ChangeShapes Go.WideShapes Go.ChangeAt Go.RowKit
set_option linter.unusedVariables false

theorem ret_bool {a b : Bool} (h : a = b) : Ending.returned (.bool a) = .returned (.bool b) := by rw [h]
theorem ret_int {k : IntKind} {a b : Int} (h : a = b) : Ending.returned (.int k a) = .returned (.int k b) := by rw [h]
theorem ret_str {a b : ByteArray} (h : a = b) : Ending.returned (.string a) = .returned (.string b) := by rw [h]
theorem ret_eq {a b : Value} (h : a = b) : Ending.returned a = .returned b := by rw [h]
theorem str_of (s : ByteArray) : s = ⟨s.data.toList.toArray⟩ := by cases s; simp
theorem len_of (s : ByteArray) : s.data.toList.length = s.size := by simp
@[simp] theorem size_mkl (l : List UInt8) : (ByteArray.mk l.toArray).size = l.length := rfl
theorem cat_of (s t : ByteArray) : s ++ t = ⟨(s.data.toList ++ t.data.toList).toArray⟩ := by
  rw [str_of s, str_of t, ByteArray.mk_append_mk]
theorem ext_of (s : ByteArray) (a b : Nat) : s.extract a b = ⟨((s.data.toList.drop a).take (b - a)).toArray⟩ := by
  rw [str_of s, ByteArray.extract_mk]
theorem toList_of (s : ByteArray) : s.toList = s.data.toList := ByteArray.toList_eq s
def errv (k : Nat) : Value := if k = 0 then .nilIface else .iface 45 (.int .i64 k)
theorem errv0 : errv 0 = .nilIface := rfl
theorem quiet_same {P : Program} {f : FuncId} {args : Array Value} {w : World} {n : Nat} {v : Value}
    (h : Calls P f args (w.drewN n) fun e w' => e = .returned v ∧ w.drewN n = w') : Calls P f args (w.drewN n) fun e w'' => e = .returned v ∧ ∃ m, w'' = w.drewN m :=
  h.mono fun _ _ ⟨he, hm⟩ => ⟨he, n, hm.symm⟩
theorem quiet_at {P : Program} {f : FuncId} {args : Array Value} {W : World} {v : Value} {C : World → Prop}
    (h : Calls P f args W fun e w' => e = .returned v ∧ W = w') (hC : C W) : Calls P f args W fun e w'' => e = .returned v ∧ C w'' :=
  h.mono fun _ _ ⟨he, hm⟩ => ⟨he, by rw [← hm]; exact hC⟩
theorem size_ext (s : ByteArray) (a b : Nat) : (s.extract a b).size ≤ s.size := by rw [ByteArray.size_extract]; omega
def pickI (a n : Int) : Int := (a % 18446744073709551616) % n
theorem pick_eq (a n : Int) (hn : 1 ≤ n) (hn2 : n < 9223372036854775808) : wrap64 ((IntKind.u64.wrap a).tmod n) = pickI a n := by
  have h0 : IntKind.u64.wrap a = a % 18446744073709551616 := by exact IntKind.wrap_u64 a
  have h1 : (0 : Int) ≤ a % 18446744073709551616 := Int.emod_nonneg _ (by decide)
  rw [h0, Int.tmod_eq_emod_of_nonneg h1]
  have h2 := Int.emod_nonneg (a % 18446744073709551616) (show n ≠ 0 by omega)
  have h3 := Int.emod_lt_of_pos (a % 18446744073709551616) (show 0 < n by omega)
  unfold wrap64 pickI
  omega
theorem pick_rng (a n : Int) (hn : 1 ≤ n) : 0 ≤ pickI a n ∧ pickI a n < n :=
  ⟨Int.emod_nonneg _ (by omega), Int.emod_lt_of_pos _ (by omega)⟩
theorem and3_i64 (x : Int) : bits .and .i64 x 3 = x % 4 := by
  show IntKind.i64.wrap ((BitVec.ofInt 64 x &&& BitVec.ofInt 64 3).toNat : Int) = _
  have h3 : (BitVec.ofInt 64 3).toNat = 2 ^ 2 - 1 := by decide
  rw [BitVec.toNat_and, h3, Nat.and_two_pow_sub_one_eq_mod, BitVec.toNat_ofInt]
  show IntKind.i64.wrap (((x % ((2 ^ 64 : Nat) : Int)).toNat % 2 ^ 2 : Nat) : Int) = _
  have e : (((x % ((2 ^ 64 : Nat) : Int)).toNat % 2 ^ 2 : Nat) : Int) = x % 4 := by
    have : ((2 ^ 64 : Nat) : Int) = 18446744073709551616 := by decide
    rw [this]; omega
  rw [e]
  rw [IntKind.wrap_i64]; omega
theorem or256_u64 (g c : Nat) (hc : c < 256) (h : g * 256 + c < 18446744073709551616) :
    bits .or .u64 ((g : Int) * 256) (c : Int) = ((g * 256 + c : Nat) : Int) := by
  have a1 : g * 256 < 18446744073709551616 := Nat.lt_of_le_of_lt (Nat.le_add_right _ _) h
  have a2 : c < 18446744073709551616 := Nat.lt_trans hc (by decide)
  have e1 : ((g : Int) * 256) = ((g * 256 : Nat) : Int) := by omega
  rw [e1, u64_or_nat (g * 256) c a1 a2]
  have := Nat.two_pow_add_eq_or_of_lt (i := 8) (b := c) (by omega) g
  simp only [Nat.reducePow] at this
  rw [Nat.mul_comm g 256, ← this]
theorem take_snoc (l : List UInt8) (k : Nat) (h : k < l.length) : l.take (k + 1) = l.take k ++ [l[k]] := List.take_succ_eq_append_getElem h
theorem take_snoc_s (s : ByteArray) (k : Nat) (h : k < s.size) : s.data.toList.take (k + 1) = s.data.toList.take k ++ [s[k]] := by
  rw [take_snoc _ _ (by rw [len_of]; exact h)]; rfl
theorem take_all (s : ByteArray) (k : Nat) (h : s.size ≤ k) : s.data.toList.take k = s.data.toList := List.take_of_length_le (by rw [len_of]; exact h)
/- Rows of bytes that the call itself made. -/
theorem infoU8 : (Tryd.prog.info? 5).map (fun i => (i.zero, i.size, i.bytes)) = some (some (.int .u8 0), 1, 1) := by kernel_rfl
def byteV (c : UInt8) : Value := .int .u8 c.toNat
def zeros (n : Nat) : Array Value := madeCells #[.int .u8 0] (n * 1)
theorem zeros_size (n : Nat) : (zeros n).size = n := by simp [zeros, size_madeCells]
theorem zeros_list (n : Nat) : (zeros n).toList = List.replicate n (byteV 0) := by
  apply List.ext_getElem
  · simp [zeros_size]
  · intro i h1 h2
    simp [zeros, madeCells, byteV]
    rw [Nat.mod_one]
    rfl
theorem make_bytes (n : Nat) (w : World) (h : n ≤ 140737488355328) : (Instr.makeSlice 50 (.int .i64 n) (.int .i64 n)).run Tryd.prog w =
    .ok (.slice (some ⟨w.heap.size, 0, none⟩) n n) (w.alloc (.cells (zeros n) 5)) := by
  obtain ⟨i0, hi, hz0, hz1, hz2⟩ := info_parts infoU8
  have := run_make (P := Tryd.prog) w 50 5 i0 (.int .u8 0) Tryd.underlying50 hi hz0 .i64 .i64 n n (by omega) (by omega) (by rw [hz2]; omega) (by omega)
  rw [this, hz1]
  simp [zeros, Value.cells]
theorem byteV_ofNat (m : Nat) : byteV (UInt8.ofNat m) = .int .u8 ((m : Int) % 256) := by simp [byteV]
theorem own_string {w : World} {base g n cap : Nat} {l : List UInt8} (h : w.ownsRow base 5 1 (.slice (some ⟨g, 0, none⟩) n cap) n (l.map byteV)) :
    (convert 50 9 (.slice (some ⟨g, 0, none⟩) n cap)).run Tryd.prog w = .ok (.string ⟨l.toArray⟩) w := by
  have hn : l.length = n := by have := h.1; simpa using this
  subst hn
  refine run_convert_bytes_back w _ _ _ _ _ l Tryd.underlying50 Tryd.underlying5 Tryd.underlying9 ?_
  intro j hj
  exact h.cells (g := g) rfl j _ (by simp [List.getElem?_eq_getElem hj, byteV])
/- A block that is known whole: just these cells of one element type, none frozen. -/
def Blk (w : World) (g : Nat) (t : TypeId) (cs : Array Value) : Prop := w.heap[g]? = some (.cells cs t (0, 0))
section
variable {w w' : World} {g : Nat} {t : TypeId} {cs : Array Value}
theorem Blk.lt (h : Blk w g t cs) : g < w.heap.size := by
  rcases Nat.lt_or_ge g w.heap.size with hlt | hge
  · exact hlt
  · unfold Blk at h; rw [Array.getElem?_eq_none hge] at h; cases h
theorem Blk.cell (h : Blk w g t cs) (i : Nat) : w.cell? ⟨g, i, none⟩ = cs[i]? := cell_of_row w g i cs t (0, 0) h
theorem Blk.frozen (h : Blk w g t cs) (i : Nat) : w.frozen? ⟨g, i, none⟩ = false := frozen_of_row w g i cs t h
theorem Blk.new (w : World) (t : TypeId) (cs : Array Value) : Blk (w.alloc (.cells cs t)) w.heap.size t cs := heap_alloc_new w _
theorem Blk.drew (h : Blk w g t cs) : Blk w.drew g t cs := h
theorem Blk.drewN (h : Blk w g t cs) (n : Nat) : Blk (w.drewN n) g t cs := h
theorem Blk.alloc (h : Blk w g t cs) (o : Obj) : Blk (w.alloc o) g t cs := (Below.heap_alloc w o g h.lt).trans h
theorem Blk.put (h : Blk w g t cs) (i : Nat) (u : Value) : Blk (w.setCell ⟨g, i, none⟩ u) g t (cs.setIfInBounds i u) := heap_setCell_same w g i cs t u h
theorem Blk.far (h : Blk w g t cs) {p : Addr} (hp : g ≠ p.block) (u : Value) : Blk (w.setCell p u) g t cs := (Below.heap_setCell w p u g hp).trans h
theorem Blk.below {B : Nat} (h : Blk w g t cs) (hb : Below B w w') (hg : g < B) : Blk w' g t cs := (hb.block g hg).trans h
theorem Blk.grown {row : Option Nat} (h : Blk w g t cs) (hb : w.grownBy w' row) (hg : some g ≠ row) : Blk w' g t cs := (hb.block g h.lt hg).trans h
end
theorem below_setRow {B g : Nat} {a w : World} (h : Below B a w) (hg : B ≤ g) (cs : Array Value) : Below B a (w.setRow g cs) :=
  h.trans ⟨rfl, rfl, rfl, by simp, fun k hk => setRow_other _ _ _ _ (by omega)⟩
theorem lit_string (w : World) (l : List UInt8) (cs : Array Value) (h : cs.toList = l.map byteV) (hl : l.length ≤ maxLen) :
    (convert 50 9 (.slice (some ⟨w.heap.size, 0, none⟩) l.length l.length)).run Tryd.prog (w.alloc (.cells cs 5)) = .ok (.string ⟨l.toArray⟩) (w.alloc (.cells cs 5)) := by
  have h1 := World.ownsRow_lit (base := 0) (e := 5) (size := 1) w cs l.length (Nat.zero_le _) hl (by rw [← Array.length_toList, h]; simp)
  rw [h] at h1
  exact own_string h1
/- A block that is known whole, none of its cells frozen, whatever its mark. -/
def BlkM (w : World) (g : Nat) (t : TypeId) (cs : Array Value) : Prop := ∃ lo hi, w.heap[g]? = some (.cells cs t (lo, hi)) ∧ ∀ i, i < cs.size → ¬ (lo ≤ i ∧ i < hi)
section
variable {w w' : World} {g : Nat} {t : TypeId} {cs : Array Value}
theorem BlkM.lt (h : BlkM w g t cs) : g < w.heap.size := by
  obtain ⟨lo, hi, h, _⟩ := h
  rcases Nat.lt_or_ge g w.heap.size with hlt | hge
  · exact hlt
  · rw [Array.getElem?_eq_none hge] at h; cases h
theorem BlkM.cell (h : BlkM w g t cs) (i : Nat) : w.cell? ⟨g, i, none⟩ = cs[i]? := by
  obtain ⟨lo, hi, h, _⟩ := h
  exact cell_of_row w g i cs t _ h
theorem BlkM.frozen (h : BlkM w g t cs) (i : Nat) (hi : i < cs.size) : w.frozen? ⟨g, i, none⟩ = false := by
  obtain ⟨lo, hi', h, hn⟩ := h
  have := hn i hi
  simp [World.frozen?, h]
  omega
theorem BlkM.of_blk (h : Blk w g t cs) : BlkM w g t cs := ⟨0, 0, h, fun i _ => by omega⟩
theorem BlkM.new (w : World) (t : TypeId) (cs : Array Value) (lo hi : Nat) (h : cs.size ≤ lo) : BlkM (w.alloc (.cells cs t (lo, hi))) w.heap.size t cs :=
  ⟨lo, hi, heap_alloc_new w _, fun i _ => by omega⟩
theorem BlkM.drew (h : BlkM w g t cs) : BlkM w.drew g t cs := h
theorem BlkM.drewN (h : BlkM w g t cs) (n : Nat) : BlkM (w.drewN n) g t cs := h
theorem BlkM.block (h : BlkM w g t cs) (hb : w'.heap[g]? = w.heap[g]?) : BlkM w' g t cs := by
  obtain ⟨lo, hi, h, hn⟩ := h
  exact ⟨lo, hi, hb.trans h, hn⟩
theorem BlkM.alloc (h : BlkM w g t cs) (o : Obj) : BlkM (w.alloc o) g t cs := h.block (Below.heap_alloc w o g h.lt)
theorem BlkM.put (h : BlkM w g t cs) (i : Nat) (u : Value) : BlkM (w.setCell ⟨g, i, none⟩ u) g t (cs.setIfInBounds i u) := by
  obtain ⟨lo, hi, h, hn⟩ := h
  refine ⟨lo, hi, ?_, fun j hj => hn j (by simpa using hj)⟩
  simp [World.setCell, Array.getElem?_modify, h]
theorem BlkM.far (h : BlkM w g t cs) {p : Addr} (hp : g ≠ p.block) (u : Value) : BlkM (w.setCell p u) g t cs := h.block (Below.heap_setCell w p u g hp)
theorem BlkM.below {B : Nat} (h : BlkM w g t cs) (hb : Below B w w') (hg : g < B) : BlkM w' g t cs := h.block (hb.block g hg)
theorem BlkM.grown {row : Option Nat} (h : BlkM w g t cs) (hb : w.grownBy w' row) (hg : some g ≠ row) : BlkM w' g t cs := h.block (hb.block g h.lt hg)
theorem blkM_string {l : List UInt8} {cap : Nat} {more : List Value} (h : BlkM w g 5 (l.map byteV ++ more).toArray) :
    (convert 50 9 (.slice (some ⟨g, 0, none⟩) l.length cap)).run Tryd.prog w = .ok (.string ⟨l.toArray⟩) w := by
  refine run_convert_bytes_back w _ _ _ _ _ l Tryd.underlying50 Tryd.underlying5 Tryd.underlying9 ?_
  intro j hj
  have hadd : (⟨g, 0, none⟩ : Addr).add j = ⟨g, j, none⟩ := by unfold Addr.add; split <;> simp_all
  rw [hadd, h.cell j]
  simp [List.getElem?_append, hj, byteV]
end
/- '[]byte(s)': a new block, the text's bytes and what is spare behind them. -/
theorem bytes_of (w : World) (s : ByteArray) : ∃ (cap : Nat) (C : Array Value) (fr : Nat × Nat), s.size ≤ cap ∧ C = (s.data.toList.map byteV ++ List.replicate (cap - s.size) (byteV 0)).toArray ∧ C.size ≤ fr.1 ∧
    (convert 9 50 (.string s)).run Tryd.prog w = .ok (.slice (some ⟨w.heap.size, 0, none⟩) s.size cap) (w.drew.alloc (.cells C 5 fr)) := by
  refine ⟨grownCap w s.size 0 5, bytesRow s (grownCap w s.size 0 5), _, ?_, ?_, ?_, run_bytes_of_string w _ _ _ s Tryd.underlying9 Tryd.underlying50 Tryd.underlying5⟩
  · simp [grownCap, Question.cut]
  · apply Array.toList_inj.1
    simp [bytesRow]
    rfl
  · exact Nat.le_refl _
theorem rowGet {m : List UInt8} {more : List Value} {j : Nat} {c : UInt8} (h : m[j]? = some c) : (m.map byteV ++ more).toArray[j]? = some (.int .u8 c.toNat) := by
  have hj : j < m.length := (List.getElem?_eq_some_iff.1 h).1
  rw [List.getElem?_toArray, List.getElem?_append_left (by simpa using hj), List.getElem?_map, h]
  rfl
theorem rowSet {m : List UInt8} {more : List Value} {j : Nat} (c : UInt8) (hj : j < m.length) : (m.map byteV ++ more).toArray.setIfInBounds j (byteV c) = ((m.set j c).map byteV ++ more).toArray := by
  apply Array.toList_inj.1
  rw [Array.toList_setIfInBounds, List.set_append_left _ _ (by simpa using hj), List.map_set]
theorem rowSize {m : List UInt8} {more : List Value} {j : Nat} (hj : j < m.length) : j < (m.map byteV ++ more).toArray.size := by simp; omega
theorem bit_u32 (b k : Nat) (hb : b < 4294967296) : bits .and .u32 ((b : Int) / 2 ^ k) 1 = if b.testBit k = true then 1 else 0 := by
  have e : ((b : Int) / 2 ^ k) = ((b / 2 ^ k : Nat) : Int) := by simp
  have h1 : b / 2 ^ k < 4294967296 := Nat.lt_of_le_of_lt (Nat.div_le_self _ _) hb
  have := u32_and_nat (b / 2 ^ k) 1 h1 (by decide)
  rw [Nat.and_one_is_mod] at this
  rw [e]
  refine this.trans ?_
  rw [Nat.testBit_eq_decide_div_mod_eq]
  have h2 : b / 2 ^ k % 2 = 0 ∨ b / 2 ^ k % 2 = 1 := by omega
  rcases h2 with h2 | h2 <;> simp [h2]
/- A region that draws its order, whose operations read and whose callees make memory of their own: walked once, in the worlds that are as w below its end. -/
structure BW (w : World) where
  v : World
  h : Below w.heap.size w v
instance (w : World) : Nonempty (BW w) := ⟨⟨w, Below.refl _ _⟩⟩
theorem wp_region_quietB {P : Program} {id : Nat} {Q : Exit → Act → World → Prop} {a : Act} {w : World} {l : List Oper} (hm : P.follows .mixedOrders = true) (hB : Region.lexB .any l.toArray = true)
    (h : wpQuiet P l.toArray (fun w' => ∃ i : BW w, w' = i.v) (fun a' => ∀ w', (∃ i : BW w, w' = i.v) → Q .normal a' w') l a) : (Code.region id l.toArray true).wp P Q a w :=
  wp_region_quiet (C := fun w' => ∃ i : BW w, w' = i.v) hm hB ⟨⟨w.drew, (Below.refl _ _).drew⟩, rfl⟩ (by simpa using h)
theorem calls_bw {P : Program} {f : FuncId} {args : Array Value} {w : World} {i : BW w} {v : Value}
    (h : Calls P f args i.v fun e w' => e = .returned v ∧ Below i.v.heap.size i.v w') : Calls P f args i.v fun e w'' => e = .returned v ∧ ∃ j : BW w, w'' = j.v :=
  h.mono fun _ w' ⟨he, hm⟩ => ⟨he, ⟨w', i.h.trans (hm.mono i.h.size)⟩, rfl⟩
theorem calls_bw_same {P : Program} {f : FuncId} {args : Array Value} {w : World} {i : BW w} {v : Value}
    (h : Calls P f args i.v fun e w' => e = .returned v ∧ i.v = w') : Calls P f args i.v fun e w'' => e = .returned v ∧ ∃ j : BW w, w'' = j.v :=
  h.mono fun _ w' ⟨he, hm⟩ => ⟨he, i, hm.symm⟩
theorem calls_bw_drew {P : Program} {f : FuncId} {args : Array Value} {w : World} {i : BW w} {v : Value}
    (h : Calls P f args i.v fun e w' => e = .returned v ∧ ∃ k, w' = i.v.drewN k) : Calls P f args i.v fun e w'' => e = .returned v ∧ ∃ j : BW w, w'' = j.v :=
  h.mono fun _ w' ⟨he, k, hm⟩ => ⟨he, ⟨i.v.drewN k, below_drewN i.h k⟩, hm⟩
theorem below_step {a b c : World} (h : Below a.heap.size a b) (k : Below b.heap.size b c) : Below a.heap.size a c := h.trans (k.mono h.size)
end Go.Proofs.YtfdbbfladgepgaaDoor
