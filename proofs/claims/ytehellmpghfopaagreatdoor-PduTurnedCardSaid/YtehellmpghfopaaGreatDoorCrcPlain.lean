/- Plain laws of CRC-32C on numbers: a step is linear and loses nothing, a sum of bytes is so many steps of one great number. -/
import Derived.Test.YtehellmpghfopaaGreatDoorBase
namespace Go.Proofs.YtehellmpghfopaaGreatDoor
set_option linter.unusedVariables false
def crcP : Nat := 2197175160
def f1 (n : Nat) : Nat := (n / 2) ^^^ (if n % 2 = 1 then crcP else 0)
def fk : Nat → Nat → Nat
  | 0, n => n
  | k + 1, n => fk k (f1 n)
def tabN (i : Nat) : Nat := fk 8 i
def stB (n c : Nat) : Nat := tabN ((n % 256) ^^^ c) ^^^ (n / 256)
def st (n : Nat) (l : List UInt8) : Nat := l.foldl (fun n c => stB n c.toNat) n
def crcN (l : List UInt8) : Nat := 4294967295 - st 4294967295 l
def digB (n : Nat) : List UInt8 := [UInt8.ofNat n, UInt8.ofNat (n / 256), UInt8.ofNat (n / 65536), UInt8.ofNat (n / 16777216)]
def valN : List UInt8 → Nat
  | [] => 0
  | c :: l => c.toNat + 256 * valN l
theorem xor_div2 (a b : Nat) : (a ^^^ b) / 2 = (a / 2) ^^^ (b / 2) := by simpa using @Nat.xor_div_two_pow a b 1
theorem xor_mod2 (a b : Nat) : (a ^^^ b) % 2 = (a % 2 + b % 2) % 2 := by
  have h := @Nat.xor_mod_two_pow a b 1
  simp only [Nat.pow_one] at h
  rw [h]
  have ha : a % 2 = 0 ∨ a % 2 = 1 := by omega
  have hb : b % 2 = 0 ∨ b % 2 = 1 := by omega
  rcases ha with ha | ha <;> rcases hb with hb | hb <;> rw [ha, hb] <;> rfl
theorem xor_self_left (a b : Nat) : a ^^^ (a ^^^ b) = b := by rw [← Nat.xor_assoc, Nat.xor_self, Nat.zero_xor]
theorem xor_zero_iff (a b : Nat) : a ^^^ b = 0 ↔ a = b := by
  constructor
  · intro h
    have := xor_self_left b a
    rw [Nat.xor_comm b a, h, Nat.xor_zero] at this
    exact this.symm
  · rintro rfl; exact Nat.xor_self _
theorem f1_xor (a b : Nat) : f1 (a ^^^ b) = f1 a ^^^ f1 b := by
  unfold f1
  rw [xor_div2, xor_mod2]
  have ha : a % 2 = 0 ∨ a % 2 = 1 := by omega
  have hb : b % 2 = 0 ∨ b % 2 = 1 := by omega
  rcases ha with ha | ha <;> rcases hb with hb | hb <;> rw [ha, hb] <;> simp
  · rw [Nat.xor_assoc]
  · rw [Nat.xor_assoc, Nat.xor_comm (b / 2), Nat.xor_assoc]
  · rw [Nat.xor_assoc, Nat.xor_comm (b / 2), ← Nat.xor_assoc crcP, Nat.xor_self, Nat.zero_xor]
theorem fk_xor (k a b : Nat) : fk k (a ^^^ b) = fk k a ^^^ fk k b := by
  induction k generalizing a b with
  | zero => rfl
  | succ k ih => simp only [fk, f1_xor, ih]
theorem f1_zero : f1 0 = 0 := rfl
theorem fk_zero (k : Nat) : fk k 0 = 0 := by
  induction k with
  | zero => rfl
  | succ k ih => simp only [fk, f1_zero, ih]
theorem fk_add (j k n : Nat) : fk (j + k) n = fk k (fk j n) := by
  induction j generalizing n with
  | zero => rw [Nat.zero_add]; rfl
  | succ j ih => rw [Nat.add_right_comm]; simp only [fk, ih]
theorem f1_even (n : Nat) : f1 (2 * n) = n := by simp [f1]
theorem fk_pow (k n : Nat) : fk k (2 ^ k * n) = n := by
  induction k generalizing n with
  | zero => simp [fk]
  | succ k ih => rw [Nat.pow_succ, Nat.mul_comm (2 ^ k) 2, Nat.mul_assoc, fk, f1_even, ih]
theorem f1_lt (n : Nat) (h : n < 4294967296) : f1 n < 4294967296 := by
  unfold f1
  have h1 : n / 2 < 2 ^ 32 := by omega
  have h2 : (if n % 2 = 1 then crcP else 0) < 2 ^ 32 := by split <;> decide
  exact Nat.xor_lt_two_pow h1 h2
theorem fk_lt (k n : Nat) (h : n < 4294967296) : fk k n < 4294967296 := by
  induction k generalizing n with
  | zero => exact h
  | succ k ih => exact ih _ (f1_lt n h)
theorem f1_eq_zero (n : Nat) (h : n < 4294967296) (h0 : f1 n = 0) : n = 0 := by
  unfold f1 at h0
  rw [xor_zero_iff] at h0
  split at h0
  · have : crcP = 2197175160 := rfl
    omega
  · omega
theorem fk_eq_zero (k n : Nat) (h : n < 4294967296) (h0 : fk k n = 0) : n = 0 := by
  induction k generalizing n with
  | zero => exact h0
  | succ k ih => exact f1_eq_zero n h (ih _ (f1_lt n h) h0)
theorem disj_xor (c m k : Nat) (h : c < 2 ^ k) : c ^^^ (2 ^ k * m) = c + 2 ^ k * m := by
  have h1 := Nat.two_pow_add_eq_or_of_lt h m
  rw [Nat.add_comm, h1]
  apply Nat.eq_of_testBit_eq
  intro i
  rw [Nat.testBit_xor, Nat.testBit_or, Nat.testBit_two_pow_mul]
  by_cases hi : k ≤ i
  · have : c.testBit i = false := Nat.testBit_lt_two_pow (Nat.lt_of_lt_of_le h (Nat.pow_le_pow_right (by omega) hi))
    simp [this]
  · simp [hi]
theorem stB_eq (n c : Nat) (hc : c < 256) : stB n c = fk 8 (n ^^^ c) := by
  unfold stB tabN
  have e : n = (n % 256) ^^^ (256 * (n / 256)) := by
    have := disj_xor (n % 256) (n / 256) 8 (Nat.mod_lt _ (by decide))
    simp only [Nat.reducePow] at this
    rw [this]; omega
  have e2 : n ^^^ c = ((n % 256) ^^^ c) ^^^ (256 * (n / 256)) := by
    conv => lhs; rw [e]
    rw [Nat.xor_assoc, Nat.xor_comm _ c, ← Nat.xor_assoc]
  rw [e2, fk_xor 8 (n % 256 ^^^ c)]
  have := fk_pow 8 (n / 256)
  simp only [Nat.reducePow] at this
  rw [this]
theorem val_cons (c : UInt8) (l : List UInt8) : valN (c :: l) = c.toNat ^^^ (256 * valN l) := by
  have := disj_xor c.toNat (valN l) 8 c.toNat_lt
  simp only [Nat.reducePow] at this
  rw [this]; rfl
theorem st_val (n : Nat) (l : List UInt8) : st n l = fk (8 * l.length) (n ^^^ valN l) := by
  induction l generalizing n with
  | nil => simp [st, valN, fk]
  | cons c l ih =>
    show st (stB n c.toNat) l = _
    rw [ih, stB_eq n _ c.toNat_lt, val_cons, List.length_cons, show 8 * (l.length + 1) = 8 + 8 * l.length from by omega, fk_add]
    congr 1
    rw [← Nat.xor_assoc, fk_xor 8 (n ^^^ c.toNat)]
    have := fk_pow 8 (valN l)
    simp only [Nat.reducePow] at this
    rw [this]
theorem st_append (n : Nat) (a b : List UInt8) : st n (a ++ b) = st (st n a) b := List.foldl_append ..
theorem st_lt (n : Nat) (l : List UInt8) (h : n < 4294967296) : st n l < 4294967296 := by
  induction l generalizing n with
  | nil => exact h
  | cons c l ih =>
    refine ih _ ?_
    show stB n c.toNat < 4294967296
    rw [stB_eq n _ c.toNat_lt]
    exact fk_lt _ _ (Nat.xor_lt_two_pow (n := 32) h (Nat.lt_of_lt_of_le c.toNat_lt (by decide)))
theorem not32 (n : Nat) (h : n < 4294967296) : 4294967295 - n = n ^^^ 4294967295 := by
  apply Nat.eq_of_testBit_eq
  intro i
  have e : (4294967295 : Nat) = 2 ^ 32 - 1 := by decide
  rw [e, Nat.testBit_xor, Nat.testBit_two_pow_sub_one]
  have h' : n < 2 ^ 32 := h
  rw [show 2 ^ 32 - 1 - n = 2 ^ 32 - (n + 1) from by omega, Nat.testBit_two_pow_sub_succ h']
  by_cases hi : i < 32
  · simp [hi]
  · have : n.testBit i = false := Nat.testBit_lt_two_pow (Nat.lt_of_lt_of_le h' (Nat.pow_le_pow_right (by omega) (by omega)))
    simp [hi, this]
theorem crcN_eq (l : List UInt8) : crcN l = st 4294967295 l ^^^ 4294967295 := not32 _ (st_lt _ _ (by decide))
theorem digB_val (n : Nat) (h : n < 4294967296) : valN (digB n) = n := by
  simp only [digB, valN, UInt8.toNat_ofNat', Nat.reducePow]
  omega
/- A text and its digest leave one state, and only such. -/
theorem digest_ok (l d : List UInt8) (hd : d.length = 4) : (digB (crcN l) = d) ↔ st 4294967295 (l ++ d) = fk 32 4294967295 := by
  have hc : crcN l < 4294967296 := by unfold crcN; omega
  have hv : valN d < 4294967296 := by
    match d, hd with
    | [a, b, c, e], _ =>
      have := a.toNat_lt; have := b.toNat_lt; have := c.toNat_lt; have := e.toNat_lt
      simp only [valN]; omega
  rw [st_append, st_val _ d, hd]
  have key : digB (crcN l) = d ↔ crcN l = valN d := by
    constructor
    · intro h; rw [← h, digB_val _ hc]
    · intro h
      match d, hd with
      | [a, b, c, e], _ =>
        have := a.toNat_lt; have := b.toNat_lt; have := c.toNat_lt; have := e.toNat_lt
        simp only [valN] at h
        simp only [digB, List.cons.injEq, and_true]
        refine ⟨?_, ?_, ?_, ?_⟩ <;> (apply UInt8.toNat_inj.1; simp only [UInt8.toNat_ofNat', Nat.reducePow]; omega)
  rw [key, crcN_eq]
  have hs := st_lt 4294967295 l (by decide)
  generalize st 4294967295 l = s at *
  constructor
  · intro h
    rw [← h, xor_self_left]
  · intro h
    have h2 : fk 32 ((s ^^^ valN d) ^^^ 4294967295) = 0 := by rw [fk_xor, xor_zero_iff]; exact h
    have h3 := fk_eq_zero 32 _ (Nat.xor_lt_two_pow (n := 32) (Nat.xor_lt_two_pow (n := 32) hs hv) (by decide)) h2
    rw [xor_zero_iff] at h3
    rw [← h3, xor_self_left]
end Go.Proofs.YtehellmpghfopaaGreatDoor
