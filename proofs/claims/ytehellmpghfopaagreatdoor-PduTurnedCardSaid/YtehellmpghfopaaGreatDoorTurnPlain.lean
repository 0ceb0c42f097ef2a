/- Plain laws of a text with bits turned: what it is as a number, and that a digest sees bits turned within thirty-two. -/
import Derived.Test.YtehellmpghfopaaGreatDoorCrcPlain
namespace Go.Proofs.YtehellmpghfopaaGreatDoor
set_option linter.unusedVariables false
def bitB (r : Nat) : UInt8 := UInt8.ofNat (2 ^ r)
def turnedL (l : List UInt8) (first bits : Nat) : Nat → List UInt8
  | 0 => l
  | i + 1 => if bits.testBit i = true ∧ (first + i) / 8 < l.length then (turnedL l first bits i).modify ((first + i) / 8) (· ^^^ bitB ((first + i) % 8)) else turnedL l first bits i
theorem turnedL_len (l : List UInt8) (first bits i : Nat) : (turnedL l first bits i).length = l.length := by
  induction i with
  | zero => rfl
  | succ i ih => rw [turnedL]; split <;> simp [ih]
theorem val_modify (l : List UInt8) (j r : Nat) (hj : j < l.length) (hr : r < 8) : valN (l.modify j (· ^^^ bitB r)) = valN l ^^^ 2 ^ (8 * j + r) := by
  induction l generalizing j with
  | nil => simp at hj
  | cons c l ih =>
    cases j with
    | zero =>
      rw [List.modify_zero_cons, val_cons, val_cons, UInt8.toNat_xor]
      have : (bitB r).toNat = 2 ^ r := by
        unfold bitB
        rw [UInt8.toNat_ofNat', Nat.mod_eq_of_lt (Nat.pow_lt_pow_right (by omega) hr)]
      rw [this, Nat.mul_zero, Nat.zero_add, Nat.xor_assoc, Nat.xor_comm (2 ^ r), ← Nat.xor_assoc]
    | succ j =>
      rw [List.modify_succ_cons, val_cons, val_cons, ih j (by simpa using hj)]
      have e : 256 * (valN l ^^^ 2 ^ (8 * j + r)) = (256 * valN l) ^^^ 2 ^ (8 * (j + 1) + r) := by
        have := @Nat.shiftLeft_xor_distrib 8 (valN l) (2 ^ (8 * j + r))
        simp only [Nat.shiftLeft_eq, Nat.reducePow] at this
        rw [Nat.mul_comm, this, Nat.mul_comm (valN l), show 8 * (j + 1) + r = (8 * j + r) + 8 from by omega, Nat.pow_add 2 (8 * j + r) 8]
      rw [e, Nat.xor_assoc]
theorem turn_val (l : List UInt8) (first bits i : Nat) : ∃ w, w < 2 ^ i ∧ valN (turnedL l first bits i) = valN l ^^^ (2 ^ first * w) := by
  induction i with
  | zero => exact ⟨0, by simp, by simp [turnedL]⟩
  | succ i ih =>
    obtain ⟨w, hw, h⟩ := ih
    rw [turnedL]
    split
    · rename_i hc
      refine ⟨w ^^^ 2 ^ i, Nat.xor_lt_two_pow (Nat.lt_trans hw (Nat.pow_lt_pow_right (by omega) (by omega))) (Nat.pow_lt_pow_right (by omega) (by omega)), ?_⟩
      rw [val_modify _ _ _ (by rw [turnedL_len]; exact hc.2) (Nat.mod_lt _ (by omega)), h, Nat.div_add_mod, Nat.xor_assoc]
      congr 1
      have := @Nat.shiftLeft_xor_distrib first w (2 ^ i)
      simp only [Nat.shiftLeft_eq] at this
      rw [Nat.mul_comm (2 ^ first) (w ^^^ 2 ^ i), this, Nat.mul_comm w, Nat.pow_add, Nat.mul_comm (2 ^ i)]
    · exact ⟨w, Nat.lt_trans hw (Nat.pow_lt_pow_right (by omega) (by omega)), h⟩
theorem val_inj : ∀ (a b : List UInt8), a.length = b.length → valN a = valN b → a = b
  | [], [], _, _ => rfl
  | [], _ :: _, h, _ => by simp at h
  | _ :: _, [], h, _ => by simp at h
  | c :: a, d :: b, h, e => by
    have h1 := c.toNat_lt
    have h2 := d.toNat_lt
    simp only [valN] at e
    have e1 : c.toNat = d.toNat := by omega
    have e2 : valN a = valN b := by omega
    rw [UInt8.toNat_inj.1 e1, val_inj a b (by simpa using h) e2]
/- Any text whose state is that of t, and which is t with bits turned within thirty-two, is t. -/
theorem burst_st (t : List UInt8) (first bits n : Nat) (hf : first ≤ 8 * t.length) (h : st n (turnedL t first bits 32) = st n t) : turnedL t first bits 32 = t := by
  obtain ⟨w, hw, hv⟩ := turn_val t first bits 32
  rw [st_val, st_val, turnedL_len, hv, ← Nat.xor_assoc, fk_xor] at h
  have h2 : fk (8 * t.length) (2 ^ first * w) = 0 := by
    have := congrArg (fk (8 * t.length) (n ^^^ valN t) ^^^ ·) h
    simpa [xor_self_left, Nat.xor_self] using this
  rw [show 8 * t.length = first + (8 * t.length - first) from by omega, fk_add, fk_pow] at h2
  have hz := fk_eq_zero _ w hw h2
  apply val_inj _ _ (turnedL_len ..)
  rw [hv, hz]
  simp
theorem burst_text (s : List UInt8) (first bits : Nat) (hf : first ≤ 8 * (s.length + 4)) :
    (digB (crcN ((turnedL (s ++ digB (crcN s)) first bits 32).take s.length)) = (turnedL (s ++ digB (crcN s)) first bits 32).drop s.length) ↔ turnedL (s ++ digB (crcN s)) first bits 32 = s ++ digB (crcN s) := by
  have hl : (turnedL (s ++ digB (crcN s)) first bits 32).length = s.length + 4 := by rw [turnedL_len]; simp [digB]
  rw [digest_ok _ _ (by rw [List.length_drop, hl]; omega), List.take_append_drop]
  have ht : st 4294967295 (s ++ digB (crcN s)) = fk 32 4294967295 := (digest_ok s _ rfl).1 rfl
  rw [← ht]
  constructor
  · exact burst_st _ _ _ _ (by simpa [digB] using hf)
  · intro h; rw [h]
theorem turn_step (l : List UInt8) (f b k : Nat) (hb : b.testBit k = true) (hin : (f + k) / 8 < l.length) :
    ∃ c, (turnedL l f b k)[(f + k) / 8]? = some c ∧ turnedL l f b (k + 1) = (turnedL l f b k).set ((f + k) / 8) (c ^^^ bitB ((f + k) % 8)) := by
  have hl : (f + k) / 8 < (turnedL l f b k).length := by rw [turnedL_len]; exact hin
  refine ⟨(turnedL l f b k)[(f + k) / 8], List.getElem?_eq_getElem hl, ?_⟩
  rw [turnedL, if_pos ⟨hb, hin⟩]
  apply List.ext_getElem
  · simp
  · intro i h1 h2
    rw [List.getElem_modify, List.getElem_set]
    split
    · rename_i e; subst e; rfl
    · rfl
theorem turn_skip (l : List UInt8) (f b k : Nat) (h : ¬ (b.testBit k = true ∧ (f + k) / 8 < l.length)) : turnedL l f b (k + 1) = turnedL l f b k := by rw [turnedL, if_neg h]
end Go.Proofs.YtehellmpghfopaaGreatDoor
