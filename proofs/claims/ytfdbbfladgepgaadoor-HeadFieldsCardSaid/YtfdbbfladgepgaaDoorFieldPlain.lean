/- Plain laws of numbers as bytes: which is less, which are one; the number that bytes are is written so. -/
import Derived.Test.YtfdbbfladgepgaaDoorField
import Derived.Test.YtfdbbfladgepgaaDoorFieldGet
import Derived.Test.YtfdbbfladgepgaaDoorFieldPut
namespace Go.Proofs.YtfdbbfladgepgaaDoor
set_option linter.unusedVariables false

theorem mod_split (n i : Nat) : n % 2 ^ (8 * (i + 1)) = (n / 2 ^ (8 * i)) % 256 * 2 ^ (8 * i) + n % 2 ^ (8 * i) := by
  have e : 2 ^ (8 * (i + 1)) = 2 ^ (8 * i) * 256 := by rw [show 8 * (i + 1) = 8 * i + 8 from by omega, Nat.pow_add]
  rw [e, Nat.mod_mul, Nat.add_comm, Nat.mul_comm (2 ^ (8 * i))]
theorem two_digits (x y p a b : Nat) (ha : a < p) (hb : b < p) : (x * p + a < y * p + b) ↔ (x < y ∨ x = y ∧ a < b) := by
  rcases Nat.lt_trichotomy x y with h | h | h
  · have : (x + 1) * p ≤ y * p := Nat.mul_le_mul_right _ h
    rw [Nat.add_mul] at this
    omega
  · subst h; omega
  · have : (y + 1) * p ≤ x * p := Nat.mul_le_mul_right _ h
    rw [Nat.add_mul] at this
    omega
theorem ofNat_eq (x y : Nat) : UInt8.ofNat x = UInt8.ofNat y ↔ x % 256 = y % 256 := by
  rw [← UInt8.toNat_inj]; simp
theorem putB_less (a b k : Nat) : Op.bytesLess (putB a k) (putB b k) = decide (a % 2 ^ (8 * k) < b % 2 ^ (8 * k)) := by
  induction k with
  | zero => simp [putB, Op.bytesLess, Nat.mod_one]
  | succ i ih =>
    simp only [putB, Op.bytesLess, ih]
    rw [mod_split a i, mod_split b i]
    have h := two_digits ((a / 2 ^ (8 * i)) % 256) ((b / 2 ^ (8 * i)) % 256) (2 ^ (8 * i)) (a % 2 ^ (8 * i)) (b % 2 ^ (8 * i)) (Nat.mod_lt _ (Nat.two_pow_pos _)) (Nat.mod_lt _ (Nat.two_pow_pos _))
    rw [Bool.eq_iff_iff]
    simp [UInt8.lt_iff_toNat_lt, h, ofNat_eq]
theorem putB_get (n k : Nat) : getN (putB n k) = n % 2 ^ (8 * k) := by
  have h : ∀ k a, (putB n k).foldl (fun n c => n * 256 + c.toNat) a = a * 2 ^ (8 * k) + n % 2 ^ (8 * k) := by
    intro k
    induction k with
    | zero => intro a; simp [putB, Nat.mod_one]
    | succ i ih =>
      intro a
      simp only [putB, List.foldl_cons, ih]
      rw [mod_split n i, show 8 * (i + 1) = 8 * i + 8 from by omega, Nat.pow_add, Nat.add_mul]
      simp only [UInt8.toNat_ofNat', Nat.reducePow]
      rw [Nat.mul_comm (2 ^ (8 * i)) 256, ← Nat.mul_assoc]
      omega
  have := h k 0
  rw [Nat.zero_mul, Nat.zero_add] at this
  exact this
theorem putB_inj (a b k : Nat) : (putB a k == putB b k) = decide (a % 2 ^ (8 * k) = b % 2 ^ (8 * k)) := by
  rw [Bool.eq_iff_iff, beq_iff_eq, decide_eq_true_eq]
  constructor
  · intro h
    rw [← putB_get a k, ← putB_get b k, h]
  · intro h
    have : ∀ k, a % 2 ^ (8 * k) = b % 2 ^ (8 * k) → putB a k = putB b k := by
      intro k
      induction k with
      | zero => intro _; rfl
      | succ i ih =>
        intro h
        rw [mod_split a i, mod_split b i] at h
        have ha := Nat.mod_lt a (Nat.two_pow_pos (8 * i))
        have hb := Nat.mod_lt b (Nat.two_pow_pos (8 * i))
        have h1 := two_digits ((a / 2 ^ (8 * i)) % 256) ((b / 2 ^ (8 * i)) % 256) (2 ^ (8 * i)) _ _ ha hb
        have h2 := two_digits ((b / 2 ^ (8 * i)) % 256) ((a / 2 ^ (8 * i)) % 256) (2 ^ (8 * i)) _ _ hb ha
        have e1 : a / 2 ^ (8 * i) % 256 = b / 2 ^ (8 * i) % 256 := by omega
        have e2 : a % 2 ^ (8 * i) = b % 2 ^ (8 * i) := by rw [e1] at h; omega
        simp only [putB, ih e2]
        congr 1
        apply UInt8.toNat_inj.1
        simpa using e1
    exact this k h
theorem putB_snoc (n : Nat) (c : UInt8) (k : Nat) : putB (n * 256 + c.toNat) (k + 1) = putB n k ++ [c] := by
  induction k with
  | zero =>
    simp only [putB, Nat.mul_zero, Nat.pow_zero, Nat.div_one, List.nil_append, List.cons.injEq, and_true]
    apply UInt8.toNat_inj.1
    have := c.toNat_lt
    simp
  | succ k ih =>
    rw [putB, ih]
    simp only [putB, List.cons_append, List.cons.injEq, and_true]
    congr 1
    rw [show 8 * (k + 1) = 8 + 8 * k from by omega, Nat.pow_add, ← Nat.div_div_eq_div_mul]
    congr 1
    have := c.toNat_lt
    omega
theorem get_put (l : List UInt8) : putB (getN l) l.length = l := by
  have h : ∀ k (l : List UInt8), l.length = k → putB (getN l) k = l := by
    intro k
    induction k with
    | zero => intro l h; rw [List.length_eq_zero_iff.1 h]; rfl
    | succ k ih =>
      intro l h
      obtain ⟨m, c, rfl⟩ : ∃ m c, l = m ++ [c] := ⟨l.dropLast, l.getLast (by intro e; simp [e] at h), (List.dropLast_concat_getLast _).symm⟩
      rw [getN_snoc, putB_snoc, ih m (by simpa using h)]
  exact h _ l rfl
theorem unpad_padded (l m : List UInt8) : unpadE (padded l ++ m) l.length = 0 ∧ unpadS (padded l ++ m) l.length = l ∧ unpadN (padded l ++ m) l.length = (padded l).length := by
  have hp := padI_rng l.length
  have g1 : (padded l).length = l.length + (padI l.length).toNat := by simp [padded]
  have e : unpadE (padded l ++ m) l.length = 0 := by
    unfold unpadE
    rw [if_neg (by omega), if_neg (by rw [List.length_append, g1]; omega), if_pos]
    have h1 : ((l.length : Int) + padI l.length).toNat = (padded l).length := by omega
    have h2 : (padded l ++ m).take l.length = l := by
      unfold padded
      rw [List.append_assoc, List.take_append_of_le_length (Nat.le_refl _), List.take_length]
    rw [Int.toNat_natCast, h2, h1, List.take_append_of_le_length (Nat.le_refl _), List.take_length]
  refine ⟨e, ?_, ?_⟩
  · rw [unpadS, if_pos e, Int.toNat_natCast]
    unfold padded
    rw [List.append_assoc, List.take_append_of_le_length (Nat.le_refl _), List.take_length]
  · rw [unpadN, if_pos e, g1]; omega
end Go.Proofs.YtfdbbfladgepgaaDoor
