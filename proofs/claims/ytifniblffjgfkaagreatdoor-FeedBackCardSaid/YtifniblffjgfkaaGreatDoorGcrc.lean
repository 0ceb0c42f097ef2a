/- CrcPlain TurnPlain Crc. -/
import Derived.Test.YtifniblffjgfkaaGreatDoorGbase
/- Plain laws of CRC-32C on numbers: a step is linear and loses nothing, a sum of bytes is so many steps of one great number. -/
namespace Go.Proofs.YtifniblffjgfkaaGreatDoor
set_option linter.unusedVariables false
def crcP : Nat := 2197175160
def f1 (n : Nat) : Nat := (n / 2) ^^^ (if n % 2 = 1 then crcP else 0)
def fk : Nat → Nat → Nat
  | 0, n => n
  | k + 1, n => fk k (f1 n)
def tabN (i : Nat) : Nat := fk 8 i
def stB (n c : Nat) : Nat := tabN ((n % 256) ^^^ c) ^^^ (n / 256)
def st (n : Nat) (l : List UInt8) : Nat := l.foldl (fun n c => stB n c.toNat) n
def crcN (l : List UInt8) : Nat := 4294967295 - st 4294967295 l
def digB (n : Nat) : List UInt8 := [UInt8.ofNat n, UInt8.ofNat (n / 256), UInt8.ofNat (n / 65536), UInt8.ofNat (n / 16777216)]
def valN : List UInt8 → Nat
  | [] => 0
  | c :: l => c.toNat + 256 * valN l
theorem xor_div2 (a b : Nat) : (a ^^^ b) / 2 = (a / 2) ^^^ (b / 2) := by simpa using @Nat.xor_div_two_pow a b 1
theorem xor_mod2 (a b : Nat) : (a ^^^ b) % 2 = (a % 2 + b % 2) % 2 := by
  have h := @Nat.xor_mod_two_pow a b 1
  simp only [Nat.pow_one] at h
  rw [h]
  have ha : a % 2 = 0 ∨ a % 2 = 1 := by omega
  have hb : b % 2 = 0 ∨ b % 2 = 1 := by omega
  rcases ha with ha | ha <;> rcases hb with hb | hb <;> rw [ha, hb] <;> rfl
theorem xor_self_left (a b : Nat) : a ^^^ (a ^^^ b) = b := by rw [← Nat.xor_assoc, Nat.xor_self, Nat.zero_xor]
theorem xor_zero_iff (a b : Nat) : a ^^^ b = 0 ↔ a = b := by
  constructor
  · intro h
    have := xor_self_left b a
    rw [Nat.xor_comm b a, h, Nat.xor_zero] at this
    exact this.symm
  · rintro rfl; exact Nat.xor_self _
theorem f1_xor (a b : Nat) : f1 (a ^^^ b) = f1 a ^^^ f1 b := by
  unfold f1
  rw [xor_div2, xor_mod2]
  have ha : a % 2 = 0 ∨ a % 2 = 1 := by omega
  have hb : b % 2 = 0 ∨ b % 2 = 1 := by omega
  rcases ha with ha | ha <;> rcases hb with hb | hb <;> rw [ha, hb] <;> simp
  · rw [Nat.xor_assoc]
  · rw [Nat.xor_assoc, Nat.xor_comm (b / 2), Nat.xor_assoc]
  · rw [Nat.xor_assoc, Nat.xor_comm (b / 2), ← Nat.xor_assoc crcP, Nat.xor_self, Nat.zero_xor]
theorem fk_xor (k a b : Nat) : fk k (a ^^^ b) = fk k a ^^^ fk k b := by
  induction k generalizing a b with
  | zero => rfl
  | succ k ih => simp only [fk, f1_xor, ih]
theorem f1_zero : f1 0 = 0 := rfl
theorem fk_zero (k : Nat) : fk k 0 = 0 := by
  induction k with
  | zero => rfl
  | succ k ih => simp only [fk, f1_zero, ih]
theorem fk_add (j k n : Nat) : fk (j + k) n = fk k (fk j n) := by
  induction j generalizing n with
  | zero => rw [Nat.zero_add]; rfl
  | succ j ih => rw [Nat.add_right_comm]; simp only [fk, ih]
theorem f1_even (n : Nat) : f1 (2 * n) = n := by simp [f1]
theorem fk_pow (k n : Nat) : fk k (2 ^ k * n) = n := by
  induction k generalizing n with
  | zero => simp [fk]
  | succ k ih => rw [Nat.pow_succ, Nat.mul_comm (2 ^ k) 2, Nat.mul_assoc, fk, f1_even, ih]
theorem f1_lt (n : Nat) (h : n < 4294967296) : f1 n < 4294967296 := by
  unfold f1
  have h1 : n / 2 < 2 ^ 32 := by omega
  have h2 : (if n % 2 = 1 then crcP else 0) < 2 ^ 32 := by split <;> decide
  exact Nat.xor_lt_two_pow h1 h2
theorem fk_lt (k n : Nat) (h : n < 4294967296) : fk k n < 4294967296 := by
  induction k generalizing n with
  | zero => exact h
  | succ k ih => exact ih _ (f1_lt n h)
theorem f1_eq_zero (n : Nat) (h : n < 4294967296) (h0 : f1 n = 0) : n = 0 := by
  unfold f1 at h0
  rw [xor_zero_iff] at h0
  split at h0
  · have : crcP = 2197175160 := rfl
    omega
  · omega
theorem fk_eq_zero (k n : Nat) (h : n < 4294967296) (h0 : fk k n = 0) : n = 0 := by
  induction k generalizing n with
  | zero => exact h0
  | succ k ih => exact f1_eq_zero n h (ih _ (f1_lt n h) h0)
theorem disj_xor (c m k : Nat) (h : c < 2 ^ k) : c ^^^ (2 ^ k * m) = c + 2 ^ k * m := by
  have h1 := Nat.two_pow_add_eq_or_of_lt h m
  rw [Nat.add_comm, h1]
  apply Nat.eq_of_testBit_eq
  intro i
  rw [Nat.testBit_xor, Nat.testBit_or, Nat.testBit_two_pow_mul]
  by_cases hi : k ≤ i
  · have : c.testBit i = false := Nat.testBit_lt_two_pow (Nat.lt_of_lt_of_le h (Nat.pow_le_pow_right (by omega) hi))
    simp [this]
  · simp [hi]
theorem stB_eq (n c : Nat) (hc : c < 256) : stB n c = fk 8 (n ^^^ c) := by
  unfold stB tabN
  have e : n = (n % 256) ^^^ (256 * (n / 256)) := by
    have := disj_xor (n % 256) (n / 256) 8 (Nat.mod_lt _ (by decide))
    simp only [Nat.reducePow] at this
    rw [this]; omega
  have e2 : n ^^^ c = ((n % 256) ^^^ c) ^^^ (256 * (n / 256)) := by
    conv => lhs; rw [e]
    rw [Nat.xor_assoc, Nat.xor_comm _ c, ← Nat.xor_assoc]
  rw [e2, fk_xor 8 (n % 256 ^^^ c)]
  have := fk_pow 8 (n / 256)
  simp only [Nat.reducePow] at this
  rw [this]
theorem val_cons (c : UInt8) (l : List UInt8) : valN (c :: l) = c.toNat ^^^ (256 * valN l) := by
  have := disj_xor c.toNat (valN l) 8 c.toNat_lt
  simp only [Nat.reducePow] at this
  rw [this]; rfl
theorem st_val (n : Nat) (l : List UInt8) : st n l = fk (8 * l.length) (n ^^^ valN l) := by
  induction l generalizing n with
  | nil => simp [st, valN, fk]
  | cons c l ih =>
    show st (stB n c.toNat) l = _
    rw [ih, stB_eq n _ c.toNat_lt, val_cons, List.length_cons, show 8 * (l.length + 1) = 8 + 8 * l.length from by omega, fk_add]
    congr 1
    rw [← Nat.xor_assoc, fk_xor 8 (n ^^^ c.toNat)]
    have := fk_pow 8 (valN l)
    simp only [Nat.reducePow] at this
    rw [this]
theorem st_append (n : Nat) (a b : List UInt8) : st n (a ++ b) = st (st n a) b := List.foldl_append ..
theorem st_lt (n : Nat) (l : List UInt8) (h : n < 4294967296) : st n l < 4294967296 := by
  induction l generalizing n with
  | nil => exact h
  | cons c l ih =>
    refine ih _ ?_
    show stB n c.toNat < 4294967296
    rw [stB_eq n _ c.toNat_lt]
    exact fk_lt _ _ (Nat.xor_lt_two_pow (n := 32) h (Nat.lt_of_lt_of_le c.toNat_lt (by decide)))
theorem not32 (n : Nat) (h : n < 4294967296) : 4294967295 - n = n ^^^ 4294967295 := by
  apply Nat.eq_of_testBit_eq
  intro i
  have e : (4294967295 : Nat) = 2 ^ 32 - 1 := by decide
  rw [e, Nat.testBit_xor, Nat.testBit_two_pow_sub_one]
  have h' : n < 2 ^ 32 := h
  rw [show 2 ^ 32 - 1 - n = 2 ^ 32 - (n + 1) from by omega, Nat.testBit_two_pow_sub_succ h']
  by_cases hi : i < 32
  · simp [hi]
  · have : n.testBit i = false := Nat.testBit_lt_two_pow (Nat.lt_of_lt_of_le h' (Nat.pow_le_pow_right (by omega) (by omega)))
    simp [hi, this]
theorem crcN_eq (l : List UInt8) : crcN l = st 4294967295 l ^^^ 4294967295 := not32 _ (st_lt _ _ (by decide))
theorem digB_val (n : Nat) (h : n < 4294967296) : valN (digB n) = n := by
  simp only [digB, valN, UInt8.toNat_ofNat', Nat.reducePow]
  omega
/- A text and its digest leave one state, and only such. -/
theorem digest_ok (l d : List UInt8) (hd : d.length = 4) : (digB (crcN l) = d) ↔ st 4294967295 (l ++ d) = fk 32 4294967295 := by
  have hc : crcN l < 4294967296 := by unfold crcN; omega
  have hv : valN d < 4294967296 := by
    match d, hd with
    | [a, b, c, e], _ =>
      have := a.toNat_lt; have := b.toNat_lt; have := c.toNat_lt; have := e.toNat_lt
      simp only [valN]; omega
  rw [st_append, st_val _ d, hd]
  have key : digB (crcN l) = d ↔ crcN l = valN d := by
    constructor
    · intro h; rw [← h, digB_val _ hc]
    · intro h
      match d, hd with
      | [a, b, c, e], _ =>
        have := a.toNat_lt; have := b.toNat_lt; have := c.toNat_lt; have := e.toNat_lt
        simp only [valN] at h
        simp only [digB, List.cons.injEq, and_true]
        refine ⟨?_, ?_, ?_, ?_⟩ <;> (apply UInt8.toNat_inj.1; simp only [UInt8.toNat_ofNat', Nat.reducePow]; omega)
  rw [key, crcN_eq]
  have hs := st_lt 4294967295 l (by decide)
  generalize st 4294967295 l = s at *
  constructor
  · intro h
    rw [← h, xor_self_left]
  · intro h
    have h2 : fk 32 ((s ^^^ valN d) ^^^ 4294967295) = 0 := by rw [fk_xor, xor_zero_iff]; exact h
    have h3 := fk_eq_zero 32 _ (Nat.xor_lt_two_pow (n := 32) (Nat.xor_lt_two_pow (n := 32) hs hv) (by decide)) h2
    rw [xor_zero_iff] at h3
    rw [← h3, xor_self_left]
end Go.Proofs.YtifniblffjgfkaaGreatDoor

/- Plain laws of a text with bits turned: what it is as a number, and that a digest sees bits turned within thirty-two. -/
namespace Go.Proofs.YtifniblffjgfkaaGreatDoor
set_option linter.unusedVariables false
def bitB (r : Nat) : UInt8 := UInt8.ofNat (2 ^ r)
def turnedL (l : List UInt8) (first bits : Nat) : Nat → List UInt8
  | 0 => l
  | i + 1 => if bits.testBit i = true ∧ (first + i) / 8 < l.length then (turnedL l first bits i).modify ((first + i) / 8) (· ^^^ bitB ((first + i) % 8)) else turnedL l first bits i
theorem turnedL_len (l : List UInt8) (first bits i : Nat) : (turnedL l first bits i).length = l.length := by
  induction i with
  | zero => rfl
  | succ i ih => rw [turnedL]; split <;> simp [ih]
theorem val_modify (l : List UInt8) (j r : Nat) (hj : j < l.length) (hr : r < 8) : valN (l.modify j (· ^^^ bitB r)) = valN l ^^^ 2 ^ (8 * j + r) := by
  induction l generalizing j with
  | nil => simp at hj
  | cons c l ih =>
    cases j with
    | zero =>
      rw [List.modify_zero_cons, val_cons, val_cons, UInt8.toNat_xor]
      have : (bitB r).toNat = 2 ^ r := by
        unfold bitB
        rw [UInt8.toNat_ofNat', Nat.mod_eq_of_lt (Nat.pow_lt_pow_right (by omega) hr)]
      rw [this, Nat.mul_zero, Nat.zero_add, Nat.xor_assoc, Nat.xor_comm (2 ^ r), ← Nat.xor_assoc]
    | succ j =>
      rw [List.modify_succ_cons, val_cons, val_cons, ih j (by simpa using hj)]
      have e : 256 * (valN l ^^^ 2 ^ (8 * j + r)) = (256 * valN l) ^^^ 2 ^ (8 * (j + 1) + r) := by
        have := @Nat.shiftLeft_xor_distrib 8 (valN l) (2 ^ (8 * j + r))
        simp only [Nat.shiftLeft_eq, Nat.reducePow] at this
        rw [Nat.mul_comm, this, Nat.mul_comm (valN l), show 8 * (j + 1) + r = (8 * j + r) + 8 from by omega, Nat.pow_add 2 (8 * j + r) 8]
      rw [e, Nat.xor_assoc]
theorem turn_val (l : List UInt8) (first bits i : Nat) : ∃ w, w < 2 ^ i ∧ valN (turnedL l first bits i) = valN l ^^^ (2 ^ first * w) := by
  induction i with
  | zero => exact ⟨0, by simp, by simp [turnedL]⟩
  | succ i ih =>
    obtain ⟨w, hw, h⟩ := ih
    rw [turnedL]
    split
    · rename_i hc
      refine ⟨w ^^^ 2 ^ i, Nat.xor_lt_two_pow (Nat.lt_trans hw (Nat.pow_lt_pow_right (by omega) (by omega))) (Nat.pow_lt_pow_right (by omega) (by omega)), ?_⟩
      rw [val_modify _ _ _ (by rw [turnedL_len]; exact hc.2) (Nat.mod_lt _ (by omega)), h, Nat.div_add_mod, Nat.xor_assoc]
      congr 1
      have := @Nat.shiftLeft_xor_distrib first w (2 ^ i)
      simp only [Nat.shiftLeft_eq] at this
      rw [Nat.mul_comm (2 ^ first) (w ^^^ 2 ^ i), this, Nat.mul_comm w, Nat.pow_add, Nat.mul_comm (2 ^ i)]
    · exact ⟨w, Nat.lt_trans hw (Nat.pow_lt_pow_right (by omega) (by omega)), h⟩
theorem val_inj : ∀ (a b : List UInt8), a.length = b.length → valN a = valN b → a = b
  | [], [], _, _ => rfl
  | [], _ :: _, h, _ => by simp at h
  | _ :: _, [], h, _ => by simp at h
  | c :: a, d :: b, h, e => by
    have h1 := c.toNat_lt
    have h2 := d.toNat_lt
    simp only [valN] at e
    have e1 : c.toNat = d.toNat := by omega
    have e2 : valN a = valN b := by omega
    rw [UInt8.toNat_inj.1 e1, val_inj a b (by simpa using h) e2]
/- Any text whose state is that of t, and which is t with bits turned within thirty-two, is t. -/
theorem burst_st (t : List UInt8) (first bits n : Nat) (hf : first ≤ 8 * t.length) (h : st n (turnedL t first bits 32) = st n t) : turnedL t first bits 32 = t := by
  obtain ⟨w, hw, hv⟩ := turn_val t first bits 32
  rw [st_val, st_val, turnedL_len, hv, ← Nat.xor_assoc, fk_xor] at h
  have h2 : fk (8 * t.length) (2 ^ first * w) = 0 := by
    have := congrArg (fk (8 * t.length) (n ^^^ valN t) ^^^ ·) h
    simpa [xor_self_left, Nat.xor_self] using this
  rw [show 8 * t.length = first + (8 * t.length - first) from by omega, fk_add, fk_pow] at h2
  have hz := fk_eq_zero _ w hw h2
  apply val_inj _ _ (turnedL_len ..)
  rw [hv, hz]
  simp
theorem burst_text (s : List UInt8) (first bits : Nat) (hf : first ≤ 8 * (s.length + 4)) :
    (digB (crcN ((turnedL (s ++ digB (crcN s)) first bits 32).take s.length)) = (turnedL (s ++ digB (crcN s)) first bits 32).drop s.length) ↔ turnedL (s ++ digB (crcN s)) first bits 32 = s ++ digB (crcN s) := by
  have hl : (turnedL (s ++ digB (crcN s)) first bits 32).length = s.length + 4 := by rw [turnedL_len]; simp [digB]
  rw [digest_ok _ _ (by rw [List.length_drop, hl]; omega), List.take_append_drop]
  have ht : st 4294967295 (s ++ digB (crcN s)) = fk 32 4294967295 := (digest_ok s _ rfl).1 rfl
  rw [← ht]
  constructor
  · exact burst_st _ _ _ _ (by simpa [digB] using hf)
  · intro h; rw [h]
theorem turn_step (l : List UInt8) (f b k : Nat) (hb : b.testBit k = true) (hin : (f + k) / 8 < l.length) :
    ∃ c, (turnedL l f b k)[(f + k) / 8]? = some c ∧ turnedL l f b (k + 1) = (turnedL l f b k).set ((f + k) / 8) (c ^^^ bitB ((f + k) % 8)) := by
  have hl : (f + k) / 8 < (turnedL l f b k).length := by rw [turnedL_len]; exact hin
  refine ⟨(turnedL l f b k)[(f + k) / 8], List.getElem?_eq_getElem hl, ?_⟩
  rw [turnedL, if_pos ⟨hb, hin⟩]
  apply List.ext_getElem
  · simp
  · intro i h1 h2
    rw [List.getElem_modify, List.getElem_set]
    split
    · rename_i e; subst e; rfl
    · rfl
theorem turn_skip (l : List UInt8) (f b k : Nat) (h : ¬ (b.testBit k = true ∧ (f + k) / 8 < l.length)) : turnedL l f b (k + 1) = turnedL l f b k := by rw [turnedL, if_neg h]
end Go.Proofs.YtifniblffjgfkaaGreatDoor

/- Contracts of package crc: table, Sum, Digest: what they return, of whatever text. -/
namespace Go.Proofs.YtifniblffjgfkaaGreatDoor
open Go.ChangeShapes Go.WideShapes Go.ChangeAt Go.RowKit
set_option linter.unusedVariables false
def u32V (n : Nat) : Value := .int .u32 n
def tabRow (k : Nat) : List Value := (List.range k).map (fun i => u32V (tabN i)) ++ List.replicate (256 - k) (u32V 0)
def tabA (k : Nat) : Array Value := (tabRow k).toArray
theorem tabRow_len (k : Nat) (h : k ≤ 256) : (tabRow k).length = 256 := by simp [tabRow]; omega
theorem tabA_size (k : Nat) (h : k ≤ 256) : (tabA k).size = 256 := by simp [tabA, tabRow_len k h]
theorem tabA_zero : tabA 0 = Array.replicate 256 (.int .u32 0) := by rfl
theorem zero_tab0 (w : World) : (zeroValue 204).run Tryz.prog w = .ok (.agg (Array.replicate 256 (.int .u32 0))) w := by kernel_rfl
theorem zero_tab (w : World) : (zeroValue 204).run Tryz.prog w = .ok (.agg (tabA 0)) w := by
  rw [tabA_zero]; exact zero_tab0 w
theorem step_u32 (n : Nat) (h : n < 4294967296) :
    bits .xor .u32 ((n : Int) / 2) (bits .and .u32 (-bits .and .u32 (n : Int) 1 % 4294967296) 2197175160) = (f1 n : Nat) := by
  have e1 : bits .and .u32 (n : Int) 1 = ((n % 2 : Nat) : Int) := by
    have := u32_and_nat n 1 h (by decide)
    rw [Nat.and_one_is_mod] at this
    exact this
  have e2 : ((n : Int) / 2) = ((n / 2 : Nat) : Int) := by omega
  rw [e1, e2]
  have h2 : n % 2 = 0 ∨ n % 2 = 1 := by omega
  rcases h2 with h2 | h2
  · rw [h2]
    have e3 : bits .and .u32 (-((0 : Nat) : Int) % 4294967296) 2197175160 = ((0 : Nat) : Int) := by decide +kernel
    rw [e3, u32_xor_nat _ _ (by omega) (by decide)]
    simp [f1, h2]
  · rw [h2]
    have e3 : bits .and .u32 (-((1 : Nat) : Int) % 4294967296) 2197175160 = ((2197175160 : Nat) : Int) := by decide +kernel
    rw [e3, u32_xor_nat _ _ (by omega) (by decide)]
    simp [f1, h2, crcP]
theorem fk_out (j n : Nat) : fk (j + 1) n = f1 (fk j n) := fk_add j 1 n
theorem tabRow_set (k : Nat) (h : k < 256) : (tabA k).setIfInBounds k (.int .u32 (tabN k)) = tabA (k + 1) := by
  apply Array.toList_inj.1
  rw [Array.toList_setIfInBounds]
  show (tabRow k).set k (u32V (tabN k)) = tabRow (k + 1)
  unfold tabRow
  rw [List.set_append_right _ _ (by simp), List.range_succ, List.map_append, List.append_assoc]
  congr 1
  rw [show 256 - k = (256 - (k + 1)) + 1 from by omega, List.replicate_succ]
  simp
theorem tabA_all (k : Nat) : (tabA k).all (·.oneCell') = true := by
  rw [tabA, List.all_toArray, List.all_eq_true]
  intro v hv
  unfold tabRow at hv
  rcases List.mem_append.1 hv with hv | hv
  · obtain ⟨i, _, rfl⟩ := List.mem_map.1 hv; rfl
  · rw [List.eq_of_mem_replicate hv]; rfl
theorem tab_info : (Tryz.prog.info? 204).map (·.size) = some 256 := by kernel_rfl
set_option maxRecDepth 100000 in
theorem table_any (w : World) : Calls Tryz.prog 110 #[] w fun e w' => e = .returned (.agg (tabA 256)) ∧ Below w.heap.size w w' := by
  have hal := zero_tab
  go_enter Tryz.func110, Tryz.ntmps110
  go_wp2
  go_loopw [4] (fun i wr => ∃ k : Nat, k ≤ 256 ∧ i = .int .i64 k ∧ Below w.heap.size w wr ∧ Blk wr (w.heap.size + 1) 204 (tabA k) ∧ Blk wr w.heap.size 204 (tabA 0)) (fun i _ => 256 - (intOf i).toNat)
  case atStart =>
    refine ⟨0, by omega, rfl, ((Below.refl _ _).alloc (Nat.le_refl _) _).alloc (by simp) _, ?_, (Blk.new _ _ _).alloc _⟩
    have := Blk.new (w.alloc (.cells (tabA 0) 204)) 204 (tabA 0)
    simpa using this
  case round =>
    obtain ⟨k, hk, rfl, hb, hB, hA⟩ := hrel
    by_cases hlt : k < 256
    · go_wp2
      obtain ⟨wo, rfl⟩ : ∃ wo : World, wo = wr := ⟨_, rfl⟩
      go_loop [3, 9] (fun n i => ∃ j : Nat, j ≤ 8 ∧ i = .int .i64 j ∧ n = .int .u32 (fk j k)) (fun _ i => 8 - (intOf i).toNat)
      case atStart => exact ⟨0, by omega, rfl, by simp [fk]⟩
      case round =>
        obtain ⟨j, hj, rfl, rfl⟩ := hrel
        by_cases hl8 : j < 8
        · have hx := fk_lt j k (by omega)
          go_wp2
          go_round
          case rel => exact ⟨j + 1, by omega, by go_num, by rw [step_u32 _ hx, fk_out]⟩
          case measure => simp [intOf]; omega
        · obtain rfl : j = 8 := by omega
          have hc := hB.cell k
          have hf := hB.frozen k
          rw [Array.getElem?_eq_getElem (by rw [tabA_size k hk]; exact hlt)] at hc
          have hn := hB.put k (.int .u32 (tabN k))
          rw [tabRow_set k hlt] at hn
          have HN := Lib.hid hn
          clear hn
          go_wp2
          go_roundw
          case rel => exact ⟨k + 1, by omega, by go_num, hb.setCell (by simp) _, HN.out, hA.far (by simp) _⟩
          case measure => simp [intOf]; omega
    · obtain rfl : k = 256 := by omega
      have hi : (Tryz.prog.info? 204).map (·.size) = some (tabA 256).size := by rw [tabA_size 256 (by omega)]; exact tab_info
      have ho : (tabA 0).size = (tabA 256).size := by rw [tabA_size 256 (by omega), tabA_size 0 (by omega)]
      have hall := tabA_all 256
      generalize hT : tabA 256 = T at *
      have HT := Lib.hid hT
      clear hT
      go_wp2_with (first | (refine wpList_load_row rfl 204 _ rfl (w.heap.size + 1) rfl _ _ _ _ hB Tryz.underlying204 rfl hi ?_) | (refine wpList_store_row rfl 204 _ _ rfl w.heap.size _ rfl rfl _ _ hA hi ho hall ?_))
      refine bodyPost_ret (v := .agg T) (results_cell_row rfl _ _ w.heap.size _ T _ _ rfl (setRow_heap _ _ _ _ _ _ hA) Tryz.underlying204 rfl hi) rfl ⟨by rw [HT.out], below_setRow hb (Nat.le_refl _) _⟩
theorem tabA_get (i : Nat) (h : i < 256) : (tabA 256)[i]? = some (.int .u32 (tabN i)) := by
  show (tabRow 256).toArray[i]? = _
  rw [List.getElem?_toArray]
  unfold tabRow
  rw [List.getElem?_append_left (by simpa using h)]
  simp [h, u32V]
set_option maxRecDepth 100000 in
theorem sum_any (s : ByteArray) (w : World) (hs : s.size ≤ 4611686018427387904) : Calls Tryz.prog 92 #[.string s] w fun e w' => e = .returned (.int .u32 (crcN s.data.toList)) ∧ Below w.heap.size w w' := by
  have hal := zero_tab
  have hi : (Tryz.prog.info? 204).map (·.size) = some (tabA 256).size := by rw [tabA_size 256 (by omega)]; exact tab_info
  have ho : (tabA 0).size = (tabA 256).size := by rw [tabA_size 256 (by omega), tabA_size 0 (by omega)]
  have hall := tabA_all 256
  go_enter Tryz.func92, Tryz.ntmps92
  go_wp2_with (first | (go_at_call 110; refine (table_any _).mono ?_; rintro e w1 ⟨rfl, hb1⟩) | (refine wpList_store_row rfl 204 _ _ rfl _ _ rfl rfl _ _ (Blk.new _ _ _) hi ho hall ?_) | fail)
  have hB0 : Blk ((w1.alloc (.cells (tabA 0) 204)).setRow w1.heap.size (tabA 256)) w1.heap.size 204 (tabA 256) := setRow_heap _ _ _ _ _ _ (Blk.new _ _ _)
  have hb0 : Below w.heap.size w ((w1.alloc (.cells (tabA 0) 204)).setRow w1.heap.size (tabA 256)) := below_setRow (hb1.alloc hb1.size _) hb1.size _
  generalize (w1.alloc (.cells (tabA 0) 204)).setRow w1.heap.size (tabA 256) = W0 at *
  clear hal hi ho hall
  go_loop [4, 9] (fun n i => ∃ k : Nat, k ≤ s.size ∧ i = .int .i64 k ∧ n = .int .u32 (st 4294967295 (s.data.toList.take k))) (fun _ i => s.size - (intOf i).toNat)
  case atStart => exact ⟨0, Nat.zero_le _, rfl, rfl⟩
  case round =>
    obtain ⟨k, hk, rfl, rfl⟩ := hrel
    by_cases hlt : k < s.size
    · have hl := st_lt 4294967295 (s.data.toList.take k) (by decide)
      have hc := s[k].toNat_lt
      have hx : (st 4294967295 (s.data.toList.take k) % 256) ^^^ s[k].toNat < 256 := Nat.xor_lt_two_pow (n := 8) (Nat.mod_lt _ (by decide)) hc
      have hn : st 4294967295 (s.data.toList.take (k + 1)) = stB (st 4294967295 (s.data.toList.take k)) s[k].toNat := by
        rw [take_snoc_s s k hlt, st_append]; rfl
      have HN := Lib.hid hn
      clear hn
      generalize st 4294967295 (s.data.toList.take k) = n at *
      have hcell := (hB0.cell (n % 256 ^^^ s[k].toNat)).trans (tabA_get _ hx)
      have hbx : bits .xor .u8 ((n : Int) % 256) (s[k].toNat : Int) = ((n % 256 ^^^ s[k].toNat : Nat) : Int) := by
        have := u8_xor_nat (n % 256) s[k].toNat (Nat.mod_lt _ (by decide)) hc
        simpa using this
      go_wp2
      go_round
      case rel =>
        refine ⟨k + 1, by omega, by go_num, ?_⟩
        have e2 : ((n : Int) / 256) = ((n / 256 : Nat) : Int) := by omega
        rw [e2, u32_xor_nat (tabN _) _ (fk_lt 8 _ (by omega)) (by omega), HN.out]
        rfl
      case measure => simp [intOf]; omega
    · have hl := st_lt 4294967295 s.data.toList (by decide)
      go_wp2
      go_ret
      refine ⟨ret_int ?_, hb0⟩
      rw [take_all s k (by omega)]
      have := u32_xor_nat 4294967295 (st 4294967295 s.data.toList) (by decide) hl
      rw [Nat.xor_comm, ← crcN_eq] at this
      exact this
theorem crcN_lt (l : List UInt8) : crcN l < 4294967296 := by unfold crcN; omega
theorem digest_any (s : ByteArray) (w : World) (hs : s.size ≤ 4611686018427387904) : Calls Tryz.prog 61 #[.string s] w fun e w' => e = .returned (.string ⟨(digB (crcN s.data.toList)).toArray⟩) ∧ Below w.heap.size w w' := by
  have hn := crcN_lt s.data.toList
  go_enter Tryz.func61, Tryz.ntmps61
  go_wp2_with fail
  refine (sum_any _ _ hs).mono ?_
  rintro e w1 ⟨rfl, hb1⟩
  have hcv := lit_string w1 (digB (crcN s.data.toList)) #[.int .u8 ((crcN s.data.toList : Int) % 256), .int .u8 ((crcN s.data.toList : Int) / 256 % 256), .int .u8 ((crcN s.data.toList : Int) / 65536 % 256), .int .u8 ((crcN s.data.toList : Int) / 16777216)]
    (by simp [digB, byteV]; omega) (by simp [digB, maxLen])
  simp only [digB, List.length_cons, List.length_nil, Nat.zero_add, Nat.reduceAdd] at hcv
  go_wp2
  go_ret
  exact ⟨rfl, hb1.alloc hb1.size _⟩
end Go.Proofs.YtifniblffjgfkaaGreatDoor
