/- What is written of a right head is read as that head: the plain law. -/
import Derived.Test.YtamlepacljjpiaaGreatDoorGheadb
namespace Go.Proofs.YtamlepacljjpiaaGreatDoor
open Go.ChangeShapes Go.WideShapes Go.ChangeAt Go.RowKit
set_option linter.unusedVariables false
theorem off_small (fl m : Nat) (hf : fl < 9223372036854775808) (hm : m < 256) (h : offM (fl : Int) m = false) : fl < 256 := by
  unfold offM at h
  rw [bne_eq_false_iff_eq] at h
  have h1 : IntKind.i64.wrap ((BitVec.ofInt 64 (fl : Int) &&& ~~~ BitVec.ofInt 64 (m : Int)).toNat : Int) = 0 := h
  have e1 : BitVec.ofInt 64 (fl : Int) = BitVec.ofNat 64 fl := by simp
  have e2 : BitVec.ofInt 64 (m : Int) = BitVec.ofNat 64 m := by simp
  rw [e1, e2] at h1
  have h2 : (BitVec.ofNat 64 fl &&& ~~~ BitVec.ofNat 64 m) = 0#64 := by
    apply BitVec.eq_of_toNat_eq
    have hlt := (BitVec.ofNat 64 fl &&& ~~~ BitVec.ofNat 64 m).isLt
    rw [IntKind.wrap_i64] at h1
    simp only [BitVec.toNat_ofNat, Nat.zero_mod]
    have e3 : (2 ^ 64 : Nat) = 18446744073709551616 := by decide
    rw [e3] at hlt
    omega
  have h3 : ∀ i, 8 ≤ i → fl.testBit i = false := by
    intro i hi
    by_cases h64 : i < 64
    · have hb := congrArg (fun b => b.getLsbD i) h2
      simp only [BitVec.getLsbD_and, BitVec.getLsbD_not, BitVec.getLsbD_ofNat, h64, decide_true, Bool.true_and] at hb
      have h256 : 2 ^ 8 ≤ 2 ^ i := Nat.pow_le_pow_right (by omega) hi
      have hm8 : m.testBit i = false := Nat.testBit_lt_two_pow (by omega)
      rw [hm8] at hb
      simpa using hb
    · exact Nat.testBit_lt_two_pow (Nat.lt_of_lt_of_le hf (Nat.le_trans (by decide) (Nat.pow_le_pow_right (by omega) (show 63 ≤ i by omega))))
  have := Nat.lt_pow_two_of_testBit fl (fun i hi => h3 i hi)
  omega
theorem right_flags {op : Int} {now : Bool} {fl : Int} {vals : List Nat} {r : HeadR} (hrow : headRow op = some r) (h : rightR op now fl vals = none) (hf : fl ≤ 9223372036854775807) : ∃ n : Nat, fl = n ∧ n < 256 := by
  obtain ⟨hb, _, _⟩ := right_parts hrow h
  simp only [badR, Bool.or_eq_false_iff, decide_eq_false_iff_not] at hb
  obtain ⟨n, rfl⟩ := Int.eq_ofNat_of_zero_le (show 0 ≤ fl by have := hb.1.2; omega)
  exact ⟨n, rfl, off_small n r.2.2.1 (by omega) (headT_mask r (headRow_mem hrow)).2 hb.2⟩
theorem right_row {op : Int} {now : Bool} {fl : Int} {vals : List Nat} (h : rightR op now fl vals = none) : ∃ r, headRow op = some r := by
  rcases hr : headRow op with _ | r
  · rw [rightR, hr] at h; cases h
  · exact ⟨r, rfl⟩
theorem out_head {fs : FieldL} (hok : okAll fs = true) (j : Nat) (hj : j < 2 ∨ (4 ≤ j ∧ j < 8)) : ∀ f ∈ fs, inF f j = false := by
  intro f hf
  have h := okAll_mem fs hok f hf
  simp only [okF, Bool.and_eq_true, Bool.or_eq_true, decide_eq_true_eq] at h
  simp only [inF, Bool.and_eq_false_iff, decide_eq_false_iff_not]
  omega
theorem rB_out {fs : FieldL} {vs : List Nat} {b : List UInt8} (hok : okAll fs = true) (hb : b.length = 48) (j : Nat) (hj : j < 2 ∨ (4 ≤ j ∧ j < 8)) : rB (layAll b fs vs) j = rB b j := by
  unfold rB
  rw [List.getD_eq_getElem?_getD, List.getD_eq_getElem?_getD, layAll_out fs vs b j hok hb (out_head hok j hj)]
theorem write_read (r : HeadR) (now : Bool) (fl words data : Nat) (vals : List Nat) (hrow : headRow (r.1 : Int) = some r) (hf : fl < 256) (hw : words < 256) (hd : data < 16777216) (hl : ∀ x ∈ vals, x < 18446744073709551616) (hr : rightR (r.1 : Int) now fl vals = none) :
    readE (layAll (headB r.1 now fl words data) r.2.2.2 vals) = none ∧ readV r.2.2.2 (layAll (headB r.1 now fl words data) r.2.2.2 vals) = vals ∧
    rB (layAll (headB r.1 now fl words data) r.2.2.2 vals) 0 % 64 = r.1 ∧ decide (64 ≤ rB (layAll (headB r.1 now fl words data) r.2.2.2 vals) 0) = now ∧ rB (layAll (headB r.1 now fl words data) r.2.2.2 vals) 1 = fl ∧
    rB (layAll (headB r.1 now fl words data) r.2.2.2 vals) 4 = words ∧ rB (layAll (headB r.1 now fl words data) r.2.2.2 vals) 5 * 65536 + rB (layAll (headB r.1 now fl words data) r.2.2.2 vals) 6 * 256 + rB (layAll (headB r.1 now fl words data) r.2.2.2 vals) 7 = data := by
  have hrm := headRow_mem hrow
  have hok := headT_ok r hrm
  have h64 := headT_small r hrm
  obtain ⟨_, hlen, hrg⟩ := right_parts hrow hr
  have hb : (headB r.1 now fl words data).length = 48 := rfl
  have hfit := fits_of hrg hok hl
  have hV := readV_back r.2.2.2 vals (headB r.1 now fl words data) hok hb hlen.symm hfit
  have hL := layAll_len r.2.2.2 vals (headB r.1 now fl words data) hok hb
  have e0 : rB (layAll (headB r.1 now fl words data) r.2.2.2 vals) 0 = r.1 + if now then 64 else 0 := by
    rw [rB_out hok hb 0 (by omega)]
    show (UInt8.ofNat (r.1 + if now then 64 else 0)).toNat = _
    rw [UInt8.toNat_ofNat']
    exact Nat.mod_eq_of_lt (by split <;> omega)
  have e1 : rB (layAll (headB r.1 now fl words data) r.2.2.2 vals) 1 = fl := by
    rw [rB_out hok hb 1 (by omega)]
    show (UInt8.ofNat fl).toNat = _
    rw [UInt8.toNat_ofNat']
    exact Nat.mod_eq_of_lt (by omega)
  have e4 : rB (layAll (headB r.1 now fl words data) r.2.2.2 vals) 4 = words := by
    rw [rB_out hok hb 4 (by omega)]
    show (UInt8.ofNat words).toNat = _
    rw [UInt8.toNat_ofNat']
    exact Nat.mod_eq_of_lt (by omega)
  have e5 : rB (layAll (headB r.1 now fl words data) r.2.2.2 vals) 5 = data / 65536 % 256 := by
    rw [rB_out hok hb 5 (by omega)]
    show (UInt8.ofNat (data / 65536)).toNat = _
    rw [UInt8.toNat_ofNat']
  have e6 : rB (layAll (headB r.1 now fl words data) r.2.2.2 vals) 6 = data / 256 % 256 := by
    rw [rB_out hok hb 6 (by omega)]
    show (UInt8.ofNat (data / 256)).toNat = _
    rw [UInt8.toNat_ofNat']
  have e7 : rB (layAll (headB r.1 now fl words data) r.2.2.2 vals) 7 = data % 256 := by
    rw [rB_out hok hb 7 (by omega)]
    show (UInt8.ofNat data).toNat = _
    rw [UInt8.toNat_ofNat']
  have hD : rB (layAll (headB r.1 now fl words data) r.2.2.2 vals) 5 * 65536 + rB (layAll (headB r.1 now fl words data) r.2.2.2 vals) 6 * 256 + rB (layAll (headB r.1 now fl words data) r.2.2.2 vals) 7 = data := by rw [e5, e6, e7]; omega
  have q0 : rB (layAll (headB r.1 now fl words data) r.2.2.2 vals) 0 % 64 = r.1 := by rw [e0]; split <;> omega
  have qn : decide (64 ≤ rB (layAll (headB r.1 now fl words data) r.2.2.2 vals) 0) = now := by
    rw [e0]
    cases now
    · simp; omega
    · simp
  refine ⟨?_, hV, q0, qn, e1, e4, hD⟩
  rw [readE, if_neg (fun h => h hL), if_neg (by rw [e0]; split <;> omega), q0, hrow]
  simp only
  rw [qn, e1, hV, hr]
  simp only
  rw [e4, hD, if_pos rfl]
end Go.Proofs.YtamlepacljjpiaaGreatDoor
