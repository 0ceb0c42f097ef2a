/- Small words that all walks of this seat use: endings, strings as lists of bytes, errors, numbers in range. -/
import Derived.Test.YtacijaejdgpjaaaRows
import Derived.WalkKit
import Derived.ProofKit
import Derived.OpenShut
import Derived.Lib.Hide
import Derived.Laws.Bits64
import Derived.WalkLawsBesides
import Derived.WalkSpells
import Derived.Outline
import Derived.Deep.QuietTactic
import Derived.BigQuiet
import Derived.Deep.DeepFit
namespace Go.Proofs.Ytacijaejdgpjaaa
open Go.ChangeShapes Go.WideShapes Go.ChangeAt Go.RowKit
set_option linter.unusedVariables false

theorem ret_bool {a b : Bool} (h : a = b) : Ending.returned (.bool a) = .returned (.bool b) := by rw [h]
theorem ret_int {k : IntKind} {a b : Int} (h : a = b) : Ending.returned (.int k a) = .returned (.int k b) := by rw [h]
theorem ret_str {a b : ByteArray} (h : a = b) : Ending.returned (.string a) = .returned (.string b) := by rw [h]
theorem ret_eq {a b : Value} (h : a = b) : Ending.returned a = .returned b := by rw [h]
theorem str_of (s : ByteArray) : s = ⟨s.data.toList.toArray⟩ := by cases s; simp
theorem len_of (s : ByteArray) : s.data.toList.length = s.size := by simp
@[simp] theorem size_mkl (l : List UInt8) : (ByteArray.mk l.toArray).size = l.length := rfl
theorem cat_of (s t : ByteArray) : s ++ t = ⟨(s.data.toList ++ t.data.toList).toArray⟩ := by
  rw [str_of s, str_of t, ByteArray.mk_append_mk]
theorem ext_of (s : ByteArray) (a b : Nat) : s.extract a b = ⟨((s.data.toList.drop a).take (b - a)).toArray⟩ := by
  rw [str_of s, ByteArray.extract_mk]
theorem toList_of (s : ByteArray) : s.toList = s.data.toList := ByteArray.toList_eq s
def errv (k : Nat) : Value := if k = 0 then .nilIface else .iface 55 (.int .i64 k)
theorem errv0 : errv 0 = .nilIface := rfl
theorem quiet_same {P : Program} {f : FuncId} {args : Array Value} {w : World} {n : Nat} {v : Value}
    (h : Calls P f args (w.drewN n) fun e w' => e = .returned v ∧ w.drewN n = w') : Calls P f args (w.drewN n) fun e w'' => e = .returned v ∧ ∃ m, w'' = w.drewN m :=
  h.mono fun _ _ ⟨he, hm⟩ => ⟨he, n, hm.symm⟩
theorem size_ext (s : ByteArray) (a b : Nat) : (s.extract a b).size ≤ s.size := by rw [ByteArray.size_extract]; omega
def pickI (a n : Int) : Int := (a % 18446744073709551616) % n
theorem pick_eq (a n : Int) (hn : 1 ≤ n) (hn2 : n < 9223372036854775808) : wrap64 ((IntKind.u64.wrap a).tmod n) = pickI a n := by
  have h0 : IntKind.u64.wrap a = a % 18446744073709551616 := by exact IntKind.wrap_u64 a
  have h1 : (0 : Int) ≤ a % 18446744073709551616 := Int.emod_nonneg _ (by decide)
  rw [h0, Int.tmod_eq_emod_of_nonneg h1]
  have h2 := Int.emod_nonneg (a % 18446744073709551616) (show n ≠ 0 by omega)
  have h3 := Int.emod_lt_of_pos (a % 18446744073709551616) (show 0 < n by omega)
  unfold wrap64 pickI
  omega
theorem pick_rng (a n : Int) (hn : 1 ≤ n) : 0 ≤ pickI a n ∧ pickI a n < n :=
  ⟨Int.emod_nonneg _ (by omega), Int.emod_lt_of_pos _ (by omega)⟩
theorem pick_any (a n : Int) (w : World) (hn : 1 ≤ n) (hn2 : n < 9223372036854775808) : Calls Try.prog 15 #[.int .i64 a, .int .i64 n] w fun e w' => e = .returned (.int .i64 (pickI a n)) ∧ w = w' := by
  go_enter Try.func15, Try.ntmps15
  go_wp2
  go_ret
  exact ⟨ret_int (pick_eq a n hn hn2), rfl⟩
theorem and3_i64 (x : Int) : bits .and .i64 x 3 = x % 4 := by
  show IntKind.i64.wrap ((BitVec.ofInt 64 x &&& BitVec.ofInt 64 3).toNat : Int) = _
  have h3 : (BitVec.ofInt 64 3).toNat = 2 ^ 2 - 1 := by decide
  rw [BitVec.toNat_and, h3, Nat.and_two_pow_sub_one_eq_mod, BitVec.toNat_ofInt]
  show IntKind.i64.wrap (((x % ((2 ^ 64 : Nat) : Int)).toNat % 2 ^ 2 : Nat) : Int) = _
  have e : (((x % ((2 ^ 64 : Nat) : Int)).toNat % 2 ^ 2 : Nat) : Int) = x % 4 := by
    have : ((2 ^ 64 : Nat) : Int) = 18446744073709551616 := by decide
    rw [this]; omega
  rw [e]
  rw [IntKind.wrap_i64]; omega
theorem or256_u64 (g c : Nat) (hc : c < 256) (h : g * 256 + c < 18446744073709551616) :
    bits .or .u64 ((g : Int) * 256) (c : Int) = ((g * 256 + c : Nat) : Int) := by
  have a1 : g * 256 < 18446744073709551616 := Nat.lt_of_le_of_lt (Nat.le_add_right _ _) h
  have a2 : c < 18446744073709551616 := Nat.lt_trans hc (by decide)
  have e1 : ((g : Int) * 256) = ((g * 256 : Nat) : Int) := by omega
  rw [e1, u64_or_nat (g * 256) c a1 a2]
  have := Nat.two_pow_add_eq_or_of_lt (i := 8) (b := c) (by omega) g
  simp only [Nat.reducePow] at this
  rw [Nat.mul_comm g 256, ← this]
theorem take_snoc (l : List UInt8) (k : Nat) (h : k < l.length) : l.take (k + 1) = l.take k ++ [l[k]] := List.take_succ_eq_append_getElem h
theorem take_snoc_s (s : ByteArray) (k : Nat) (h : k < s.size) : s.data.toList.take (k + 1) = s.data.toList.take k ++ [s[k]] := by
  rw [take_snoc _ _ (by rw [len_of]; exact h)]; rfl
theorem take_all (s : ByteArray) (k : Nat) (h : s.size ≤ k) : s.data.toList.take k = s.data.toList := List.take_of_length_le (by rw [len_of]; exact h)
/- Rows of bytes that the call itself made. -/
theorem infoU8 : (Try.prog.info? 5).map (fun i => (i.zero, i.size, i.bytes)) = some (some (.int .u8 0), 1, 1) := by kernel_rfl
def byteV (c : UInt8) : Value := .int .u8 c.toNat
def zeros (n : Nat) : Array Value := madeCells #[.int .u8 0] (n * 1)
theorem zeros_size (n : Nat) : (zeros n).size = n := by simp [zeros, size_madeCells]
theorem zeros_list (n : Nat) : (zeros n).toList = List.replicate n (byteV 0) := by
  apply List.ext_getElem
  · simp [zeros_size]
  · intro i h1 h2
    simp [zeros, madeCells, byteV]
    rw [Nat.mod_one]
    rfl
theorem make_bytes (n : Nat) (w : World) (h : n ≤ 140737488355328) : (Instr.makeSlice 32 (.int .i64 n) (.int .i64 n)).run Try.prog w =
    .ok (.slice (some ⟨w.heap.size, 0, none⟩) n n) (w.alloc (.cells (zeros n) 5)) := by
  obtain ⟨i0, hi, hz0, hz1, hz2⟩ := info_parts infoU8
  have := run_make (P := Try.prog) w 32 5 i0 (.int .u8 0) Try.underlying32 hi hz0 .i64 .i64 n n (by omega) (by omega) (by rw [hz2]; omega) (by omega)
  rw [this, hz1]
  simp [zeros, Value.cells]
theorem byteV_ofNat (m : Nat) : byteV (UInt8.ofNat m) = .int .u8 ((m : Int) % 256) := by simp [byteV]
theorem own_string {w : World} {base g n cap : Nat} {l : List UInt8} (h : w.ownsRow base 5 1 (.slice (some ⟨g, 0, none⟩) n cap) n (l.map byteV)) :
    (convert 32 9 (.slice (some ⟨g, 0, none⟩) n cap)).run Try.prog w = .ok (.string ⟨l.toArray⟩) w := by
  have hn : l.length = n := by have := h.1; simpa using this
  subst hn
  refine run_convert_bytes_back w _ _ _ _ _ l Try.underlying32 Try.underlying5 Try.underlying9 ?_
  intro j hj
  exact h.cells (g := g) rfl j _ (by simp [List.getElem?_eq_getElem hj, byteV])
end Go.Proofs.Ytacijaejdgpjaaa
