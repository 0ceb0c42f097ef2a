/- PduPlain Pdu PduWrite PduRead OpenPdu. -/
import Derived.Test.YtifniblffjgfkaaGreatDoorGheadb
import Derived.Test.YtifniblffjgfkaaGreatDoorGahs
import Derived.Test.YtifniblffjgfkaaGreatDoorGcrc
import Derived.Test.YtifniblffjgfkaaGreatDoorGbase
import Derived.LoopN
import Derived.Test.YtifniblffjgfkaaGreatDoorGhead
/- Plain laws of PDUs: what one is as bytes, and what is wrong with bytes. -/
namespace Go.Proofs.YtifniblffjgfkaaGreatDoor
open Go.ChangeShapes Go.WideShapes Go.ChangeAt Go.RowKit
set_option linter.unusedVariables false
def dg4 (b : Bool) (l : List UInt8) : List UInt8 := if b then digB (crcN l) else []
theorem dg4_len (b : Bool) (l : List UInt8) : (dg4 b l).length = if b then 4 else 0 := by cases b <;> rfl
def pduB (hb more data : List UInt8) (hd dd : Bool) : List UInt8 :=
  hb ++ (more ++ (dg4 hd (hb ++ more) ++ (padded data ++ dg4 (dd && decide (0 < data.length)) (padded data))))
def dataN (l : List UInt8) : Nat := rB l 5 * 65536 + rB l 6 * 256 + rB l 7
def padN (n : Nat) : Nat := (padI n).toNat
def hdN (b : Bool) : Nat := if b then 4 else 0
def ddN (b : Bool) (n : Nat) : Nat := if b && decide (0 < n) then 4 else 0
def allN (l : List UInt8) (hd dd : Bool) : Nat := 48 + 4 * rB l 4 + dataN l + padN (dataN l) + hdN hd + ddN dd (dataN l)
def atN (l : List UInt8) (hd : Bool) : Nat := 48 + 4 * rB l 4 + hdN hd
def bodyE (A M G B H : List UInt8) (n : Nat) (hd dd : Bool) : Option Nat :=
  if hd = true ∧ digB (crcN (A ++ M)) ≠ G then some 15 else
  match readE A with
  | some c => some c.1
  | none => match readGo 1021 M 0 with
    | .inl c => some c.1
    | .inr _ => if unpadE (B ++ H) n ≠ 0 then some (unpadE (B ++ H) n) else
      if dd = true ∧ 0 < n ∧ digB (crcN B) ≠ H then some 13 else if 100000 < n then some 4 else none
def prE (l : List UInt8) (hd dd : Bool) : Option Nat :=
  if l.length < 48 then some 7 else if l.length < allN l hd dd then some 7 else
  bodyE (l.take 48) ((l.take (48 + 4 * rB l 4)).drop 48) ((l.drop (48 + 4 * rB l 4)).take (hdN hd)) ((l.drop (atN l hd)).take (dataN l + padN (dataN l))) ((l.take (allN l hd dd)).drop (atN l hd + (dataN l + padN (dataN l)))) (dataN l) hd dd
theorem rB_append (a b : List UInt8) (j : Nat) (h : j < a.length) : rB (a ++ b) j = rB a j := by
  unfold rB
  rw [List.getD_eq_getElem?_getD, List.getD_eq_getElem?_getD, List.getElem?_append_left h]
theorem rB_take (l : List UInt8) (k j : Nat) (h : j < k) : rB (l.take k) j = rB l j := by
  unfold rB
  rw [List.getD_eq_getElem?_getD, List.getD_eq_getElem?_getD, List.getElem?_take_of_lt h]
theorem padded_len (l : List UInt8) : (padded l).length = l.length + padN l.length := by simp [padded, padN]
theorem take_at {a b : List UInt8} {n : Nat} (h : a.length = n) : (a ++ b).take n = a := List.take_left' h
theorem drop_at {a b : List UInt8} {n : Nat} (h : a.length = n) : (a ++ b).drop n = b := List.drop_left' h
theorem take_2 {a b c : List UInt8} {n m : Nat} (h : a.length = n) (k : n + b.length = m) : (a ++ (b ++ c)).take m = a ++ b := by
  rw [← List.append_assoc]; exact take_at (by rw [List.length_append]; omega)
theorem drop_2 {a b c : List UInt8} {n m : Nat} (h : a.length = n) (k : n + b.length = m) : (a ++ (b ++ c)).drop m = c := by
  rw [← List.append_assoc]; exact drop_at (by rw [List.length_append]; omega)
/- bytes in their five parts, and what is behind -/
theorem prE_parts (A M G B H R : List UInt8) (hd dd : Bool) (hA : A.length = 48) (hM : M.length = 4 * rB A 4) (hG : G.length = hdN hd) (hB : B.length = dataN A + padN (dataN A)) (hH : H.length = ddN dd (dataN A)) :
    prE (A ++ (M ++ (G ++ (B ++ (H ++ R))))) hd dd = bodyE A M G B H (dataN A) hd dd ∧ allN (A ++ (M ++ (G ++ (B ++ (H ++ R))))) hd dd = (A ++ (M ++ (G ++ (B ++ H)))).length := by
  have r4 := rB_append A (M ++ (G ++ (B ++ (H ++ R)))) 4 (by omega)
  have r5 := rB_append A (M ++ (G ++ (B ++ (H ++ R)))) 5 (by omega)
  have r6 := rB_append A (M ++ (G ++ (B ++ (H ++ R)))) 6 (by omega)
  have r7 := rB_append A (M ++ (G ++ (B ++ (H ++ R)))) 7 (by omega)
  have hd' : dataN (A ++ (M ++ (G ++ (B ++ (H ++ R))))) = dataN A := by unfold dataN; rw [r5, r6, r7]
  have hall : allN (A ++ (M ++ (G ++ (B ++ (H ++ R))))) hd dd = 48 + 4 * rB A 4 + dataN A + padN (dataN A) + hdN hd + ddN dd (dataN A) := by unfold allN; rw [hd', r4]
  refine ⟨?_, ?_⟩
  · have hl : (A ++ (M ++ (G ++ (B ++ (H ++ R))))).length = 48 + 4 * rB A 4 + dataN A + padN (dataN A) + hdN hd + ddN dd (dataN A) + R.length := by
      simp only [List.length_append]; omega
    have e1 : (A ++ (M ++ (G ++ (B ++ (H ++ R))))).take 48 = A := take_at hA
    have e2 : ((A ++ (M ++ (G ++ (B ++ (H ++ R))))).take (48 + 4 * rB A 4)).drop 48 = M := by
      rw [take_2 hA (by omega)]; exact drop_at hA
    have e3 : (A ++ (M ++ (G ++ (B ++ (H ++ R))))).drop (48 + 4 * rB A 4) = G ++ (B ++ (H ++ R)) := drop_2 hA (by omega)
    have e5 : (A ++ (M ++ (G ++ (B ++ (H ++ R))))).drop (48 + 4 * rB A 4 + hdN hd) = B ++ (H ++ R) := by
      rw [← List.drop_drop, e3]; exact drop_at hG
    have e6 : ((A ++ (M ++ (G ++ (B ++ (H ++ R))))).take (48 + 4 * rB A 4 + dataN A + padN (dataN A) + hdN hd + ddN dd (dataN A))).drop (48 + 4 * rB A 4 + hdN hd + (dataN A + padN (dataN A))) = H := by
      have : A ++ (M ++ (G ++ (B ++ (H ++ R)))) = (A ++ (M ++ (G ++ B))) ++ (H ++ R) := by simp
      rw [this, take_2 (n := 48 + 4 * rB A 4 + hdN hd + (dataN A + padN (dataN A))) (by simp only [List.length_append]; omega) (by omega)]
      exact drop_at (by simp only [List.length_append]; omega)
    unfold prE
    rw [if_neg (by omega), if_neg (by omega)]
    unfold atN
    rw [hall, r4, hd', e1, e2, e3, take_at hG, e5, take_at hB, e6]
  · rw [hall]; simp only [List.length_append]; omega
theorem parts_of (l : List UInt8) (hd dd : Bool) (h0 : 48 ≤ l.length) (h : allN l hd dd ≤ l.length) : ∃ A M G B H R, l = A ++ (M ++ (G ++ (B ++ (H ++ R)))) ∧ A.length = 48 ∧ M.length = 4 * rB A 4 ∧ G.length = hdN hd ∧ B.length = dataN A + padN (dataN A) ∧ H.length = ddN dd (dataN A) := by
  have r4 := rB_take l 48 4 (by omega)
  have r5 := rB_take l 48 5 (by omega)
  have r6 := rB_take l 48 6 (by omega)
  have r7 := rB_take l 48 7 (by omega)
  have hd' : dataN (l.take 48) = dataN l := by unfold dataN; rw [r5, r6, r7]
  unfold allN at h
  refine ⟨l.take 48, (l.drop 48).take (4 * rB l 4), ((l.drop 48).drop (4 * rB l 4)).take (hdN hd), (((l.drop 48).drop (4 * rB l 4)).drop (hdN hd)).take (dataN l + padN (dataN l)), ((((l.drop 48).drop (4 * rB l 4)).drop (hdN hd)).drop (dataN l + padN (dataN l))).take (ddN dd (dataN l)),
    ((((l.drop 48).drop (4 * rB l 4)).drop (hdN hd)).drop (dataN l + padN (dataN l))).drop (ddN dd (dataN l)), ?_, ?_, ?_, ?_, ?_, ?_⟩
  · simp only [List.take_append_drop]
  · rw [List.length_take]; omega
  · rw [r4, List.length_take, List.length_drop]; omega
  · rw [List.length_take, List.length_drop, List.length_drop]; omega
  · rw [hd', List.length_take, List.length_drop, List.length_drop, List.length_drop]; omega
  · rw [hd', List.length_take, List.length_drop, List.length_drop, List.length_drop, List.length_drop]; omega
theorem readE_len {l : List UInt8} (h : readE l = none) : l.length = 48 := by
  unfold readE at h
  split at h
  · cases h
  · omega
theorem unpad_dg (data x : List UInt8) : unpadE (padded data ++ x) (data.length : Nat) = 0 := (unpad_padded data x).1
/- what is written is read -/
theorem pdu_back (hb more data R : List UInt8) (al : AhsL) (hd dd : Bool) (h1 : readE hb = none) (h2 : more.length = 4 * rB hb 4) (h3 : dataN hb = data.length) (h4 : readGo 1021 more 0 = .inr al) (h5 : data.length ≤ 100000) :
    prE (pduB hb more data hd dd ++ R) hd dd = none ∧ allN (pduB hb more data hd dd ++ R) hd dd = (pduB hb more data hd dd).length ∧
    ((pduB hb more data hd dd ++ R).drop (atN (pduB hb more data hd dd ++ R) hd)).take (dataN (pduB hb more data hd dd ++ R) + padN (dataN (pduB hb more data hd dd ++ R))) = padded data := by
  have hA := readE_len h1
  have hpl : (padded data).length = dataN hb + padN (dataN hb) := by rw [padded_len, h3]
  have hgl : (dg4 hd (hb ++ more)).length = hdN hd := by rw [dg4_len]; rfl
  have hhl : (dg4 (dd && decide (0 < data.length)) (padded data)).length = ddN dd (dataN hb) := by rw [dg4_len, h3]; rfl
  have he : pduB hb more data hd dd ++ R = hb ++ (more ++ (dg4 hd (hb ++ more) ++ (padded data ++ (dg4 (dd && decide (0 < data.length)) (padded data) ++ R)))) := by unfold pduB; simp
  obtain ⟨p1, p2⟩ := prE_parts hb more (dg4 hd (hb ++ more)) (padded data) (dg4 (dd && decide (0 < data.length)) (padded data)) R hd dd hA h2 hgl hpl hhl
  rw [he]
  refine ⟨?_, ?_, ?_⟩
  · rw [p1]
    unfold bodyE
    rw [if_neg (by
      rintro ⟨rfl, hn⟩
      exact hn rfl), h1]
    simp only
    rw [h4]
    simp only
    rw [h3, if_neg (by rw [unpad_dg]; simp), if_neg (by
      rintro ⟨rfl, hn, hx⟩
      rw [decide_eq_true hn] at hx
      exact hx rfl), if_neg (by omega)]
  · rw [p2]; unfold pduB; rfl
  · have r4 := rB_append hb (more ++ (dg4 hd (hb ++ more) ++ (padded data ++ (dg4 (dd && decide (0 < data.length)) (padded data) ++ R)))) 4 (by omega)
    have r5 := rB_append hb (more ++ (dg4 hd (hb ++ more) ++ (padded data ++ (dg4 (dd && decide (0 < data.length)) (padded data) ++ R)))) 5 (by omega)
    have r6 := rB_append hb (more ++ (dg4 hd (hb ++ more) ++ (padded data ++ (dg4 (dd && decide (0 < data.length)) (padded data) ++ R)))) 6 (by omega)
    have r7 := rB_append hb (more ++ (dg4 hd (hb ++ more) ++ (padded data ++ (dg4 (dd && decide (0 < data.length)) (padded data) ++ R)))) 7 (by omega)
    have hd' : dataN (hb ++ (more ++ (dg4 hd (hb ++ more) ++ (padded data ++ (dg4 (dd && decide (0 < data.length)) (padded data) ++ R))))) = dataN hb := by unfold dataN; rw [r5, r6, r7]
    unfold atN
    rw [hd', r4, ← List.drop_drop, drop_2 hA (by omega), drop_at hgl, take_at hpl]
/- what is read is written so -/
theorem body_ok {A M G B H : List UInt8} {n : Nat} {hd dd : Bool} (h : bodyE A M G B H n hd dd = none) : (hd = true → digB (crcN (A ++ M)) = G) ∧ readE A = none ∧ (∃ al, readGo 1021 M 0 = .inr al) ∧ unpadE (B ++ H) n = 0 ∧ (dd = true → 0 < n → digB (crcN B) = H) ∧ n ≤ 100000 := by
  unfold bodyE at h
  split at h
  · cases h
  rename_i h1
  split at h
  · cases h
  rename_i h2
  split at h
  · cases h
  rename_i al h3
  split at h
  · cases h
  rename_i h4
  split at h
  · cases h
  rename_i h5
  split at h
  · cases h
  rename_i h6
  refine ⟨fun e => ?_, h2, ⟨al, h3⟩, by omega, fun e e2 => ?_, by omega⟩
  · exact Decidable.byContradiction fun hn => h1 ⟨e, hn⟩
  · exact Decidable.byContradiction fun hn => h5 ⟨e, e2, hn⟩
theorem unpad_body {B H : List UInt8} {n : Nat} (hB : B.length = n + padN n) (h : unpadE (B ++ H) n = 0) : padded (B.take n) = B := by
  have hp := padI_rng n
  unfold unpadE at h
  rw [if_neg (by omega)] at h
  split at h
  · cases h
  split at h
  · rename_i h2
    have e : ((n : Int) + padI n).toNat = B.length := by rw [hB]; unfold padN; omega
    rw [e, Int.toNat_natCast, List.take_append_of_le_length (by omega), List.take_append_of_le_length (Nat.le_refl _), List.take_length] at h2
    exact h2
  · cases h
theorem pdu_only (l : List UInt8) (hd dd : Bool) (h : prE l hd dd = none) : 48 ≤ l.length ∧ allN l hd dd ≤ l.length ∧ 48 ≤ allN l hd dd ∧ ∃ A M B R al, l.take 48 = A ∧ (l.take (48 + 4 * rB l 4)).drop 48 = M ∧ (l.drop (atN l hd)).take (dataN l + padN (dataN l)) = B ∧ l = pduB A M (B.take (dataN l)) hd dd ++ R ∧ readE A = none ∧ readGo 1021 M 0 = .inr al ∧ M.length = 4 * rB A 4 ∧ dataN A = dataN l ∧ (B.take (dataN l)).length = dataN l ∧ dataN l ≤ 100000 ∧
    l.take (allN l hd dd) = pduB A M (B.take (dataN l)) hd dd := by
  have h0 : 48 ≤ l.length := by
    unfold prE at h
    split at h
    · cases h
    · omega
  have h1 : allN l hd dd ≤ l.length := by
    unfold prE at h
    rw [if_neg (by omega)] at h
    split at h
    · cases h
    · omega
  refine ⟨h0, h1, by unfold allN; omega, ?_⟩
  obtain ⟨A, M, G, B, H, R, he, hA, hM, hG, hB, hH⟩ := parts_of l hd dd h0 h1
  obtain ⟨p1, p2⟩ := prE_parts A M G B H R hd dd hA hM hG hB hH
  rw [← he] at p1 p2
  rw [h] at p1
  obtain ⟨b1, b2, ⟨al, b3⟩, b4, b5, b6⟩ := body_ok p1.symm
  have r4 : rB l 4 = rB A 4 := by rw [he]; exact rB_append A _ 4 (by omega)
  have hd' : dataN l = dataN A := by
    unfold dataN
    rw [he, rB_append A _ 5 (by omega), rB_append A _ 6 (by omega), rB_append A _ 7 (by omega)]
  have hpb : padded (B.take (dataN A)) = B := unpad_body hB b4
  have hbl : (B.take (dataN A)).length = dataN A := by rw [List.length_take]; omega
  have hG' : dg4 hd (A ++ M) = G := by
    cases hd
    · exact (List.length_eq_zero_iff.1 hG).symm
    · exact b1 rfl
  have hH' : dg4 (dd && decide (0 < dataN A)) B = H := by
    unfold ddN at hH
    cases hc : (dd && decide (0 < dataN A))
    · rw [hc] at hH
      exact (List.length_eq_zero_iff.1 hH).symm
    · rw [Bool.and_eq_true, decide_eq_true_eq] at hc
      exact b5 hc.1 hc.2
  have hw : pduB A M (B.take (dataN A)) hd dd = A ++ (M ++ (G ++ (B ++ H))) := by
    unfold pduB
    rw [hpb, hbl, hG', hH']
  refine ⟨A, M, B, R, al, ?_, ?_, ?_, ?_, b2, b3, hM, hd'.symm, by rw [hd']; exact hbl, by omega, ?_⟩
  · rw [he]; exact take_at hA
  · rw [r4, he, take_2 hA (by omega)]; exact drop_at hA
  · unfold atN
    rw [hd', r4, he, ← List.drop_drop, drop_2 hA (by omega), drop_at hG, take_at hB]
  · rw [hd', hw, he]; simp
  · rw [p2, hd', hw, he]
    have : A ++ (M ++ (G ++ (B ++ (H ++ R)))) = (A ++ (M ++ (G ++ (B ++ H)))) ++ R := by simp
    rw [this, List.take_left]
/- cut anywhere, bytes are missing -/
theorem pdu_cut (l : List UInt8) (hd dd : Bool) (k : Nat) (hk : k < l.length) (h : allN l hd dd = l.length) : prE (l.take k) hd dd = some 7 := by
  unfold prE
  by_cases h0 : k < 48
  · rw [if_pos (by rw [List.length_take]; omega)]
  · have e : allN (l.take k) hd dd = allN l hd dd := by
      unfold allN dataN
      rw [rB_take l k 4 (by omega), rB_take l k 5 (by omega), rB_take l k 6 (by omega), rB_take l k 7 (by omega)]
    rw [if_neg (by rw [List.length_take]; omega), if_pos (by rw [e, List.length_take]; omega)]
/- bytes that differ within thirty-two bits -/
def Close (a b : List UInt8) : Prop := b.length = a.length ∧ ∃ f w, w < 4294967296 ∧ f ≤ 8 * a.length ∧ valN b = valN a ^^^ (2 ^ f * w)
theorem close_turn (l : List UInt8) (first bits : Nat) (h : first ≤ 8 * l.length) : Close l (turnedL l first bits 32) := by
  obtain ⟨w, hw, hv⟩ := turn_val l first bits 32
  exact ⟨turnedL_len .., first, w, by simpa using hw, h, hv⟩
theorem valN_lt : ∀ l : List UInt8, valN l < 2 ^ (8 * l.length)
  | [] => by simp [valN]
  | c :: l => by
    have := valN_lt l
    have hc := c.toNat_lt
    rw [List.length_cons, show 8 * (l.length + 1) = 8 * l.length + 8 by omega, Nat.pow_add]
    simp only [valN]
    omega
theorem valN_append (a b : List UInt8) : valN (a ++ b) = valN a + 2 ^ (8 * a.length) * valN b := by
  induction a with
  | nil => simp [valN]
  | cons c a ih =>
    rw [List.cons_append, List.length_cons, show 8 * (a.length + 1) = 8 * a.length + 8 by omega, Nat.pow_add]
    simp only [valN]
    rw [ih, Nat.mul_add, ← Nat.mul_assoc, Nat.add_assoc, show (2 : Nat) ^ 8 = 256 from rfl, Nat.mul_comm (2 ^ (8 * a.length)) 256]
theorem valN_mod (a b : List UInt8) : valN (a ++ b) % 2 ^ (8 * a.length) = valN a := by
  rw [valN_append, Nat.add_mul_mod_self_left, Nat.mod_eq_of_lt (valN_lt a)]
theorem valN_div (a b : List UInt8) : valN (a ++ b) / 2 ^ (8 * a.length) = valN b := by
  rw [valN_append, Nat.add_mul_div_left _ _ (Nat.two_pow_pos _), Nat.div_eq_of_lt (valN_lt a), Nat.zero_add]
theorem close_left {a b a' b' : List UInt8} (hl : a'.length = a.length) (h : Close (a ++ b) (a' ++ b')) : Close a a' := by
  obtain ⟨_, f, w, hw, hf, hv⟩ := h
  refine ⟨hl, ?_⟩
  have h1 := congrArg (· % 2 ^ (8 * a.length)) hv
  simp only [Nat.xor_mod_two_pow, valN_mod] at h1
  rw [← hl, valN_mod, hl] at h1
  by_cases hc : f ≤ 8 * a.length
  · refine ⟨f, w % 2 ^ (8 * a.length - f), Nat.lt_of_le_of_lt (Nat.mod_le _ _) hw, hc, ?_⟩
    rw [h1]
    congr 1
    conv => lhs; rw [show 8 * a.length = f + (8 * a.length - f) by omega, Nat.pow_add]
    exact Nat.mul_mod_mul_left _ _ _
  · refine ⟨0, 0, by omega, by omega, ?_⟩
    rw [h1]
    congr 1
    rw [show f = 8 * a.length + (f - 8 * a.length) by omega, Nat.pow_add, Nat.mul_assoc, Nat.mul_mod_right]
theorem close_right {a b a' b' : List UInt8} (hl : a'.length = a.length) (h : Close (a ++ b) (a' ++ b')) : Close b b' := by
  obtain ⟨hl2, f, w, hw, hf, hv⟩ := h
  rw [List.length_append, List.length_append] at hl2
  refine ⟨by omega, ?_⟩
  have h1 := congrArg (· / 2 ^ (8 * a.length)) hv
  simp only [Nat.xor_div_two_pow, valN_div] at h1
  rw [← hl, valN_div, hl] at h1
  rw [List.length_append] at hf
  by_cases hc : f ≤ 8 * a.length
  · refine ⟨0, w / 2 ^ (8 * a.length - f), Nat.lt_of_le_of_lt (Nat.div_le_self _ _) hw, by omega, ?_⟩
    rw [h1]
    congr 1
    rw [Nat.pow_zero, Nat.one_mul]
    conv => lhs; rw [show 8 * a.length = f + (8 * a.length - f) by omega, Nat.pow_add]
    exact Nat.mul_div_mul_left _ _ (Nat.two_pow_pos _)
  · refine ⟨f - 8 * a.length, w, hw, by omega, ?_⟩
    rw [h1]
    congr 1
    conv => lhs; rw [show f = 8 * a.length + (f - 8 * a.length) by omega, Nat.pow_add, Nat.mul_assoc]
    exact Nat.mul_div_cancel_left _ (Nat.two_pow_pos _)
theorem close_st {a b : List UInt8} {n : Nat} (h : Close a b) (hs : st n b = st n a) : b = a := by
  obtain ⟨hl, f, w, hw, hf, hv⟩ := h
  rw [st_val, st_val, hl, hv, ← Nat.xor_assoc, fk_xor] at hs
  have h2 : fk (8 * a.length) (2 ^ f * w) = 0 := by
    have := congrArg (fk (8 * a.length) (n ^^^ valN a) ^^^ ·) hs
    simpa [xor_self_left, Nat.xor_self] using this
  rw [show 8 * a.length = f + (8 * a.length - f) from by omega, fk_add, fk_pow] at h2
  have hz := fk_eq_zero _ w hw h2
  apply val_inj _ _ hl
  rw [hv, hz]
  simp
theorem close_dig {P D P' D' : List UInt8} (hl : P'.length = P.length) (h4 : D.length = 4) (h4' : D'.length = 4) (h : Close (P ++ D) (P' ++ D')) (hd : digB (crcN P) = D) (hd' : digB (crcN P') = D') : P' ++ D' = P ++ D :=
  close_st h ((digest_ok P' D' h4').1 hd' |>.trans ((digest_ok P D h4).1 hd).symm)
theorem pdu_turned (l t : List UInt8) (hc : Close l t) (h8 : (t.drop 4).take 4 = (l.drop 4).take 4) (hl : prE l true true = none) (ha : allN l true true = l.length) (ht : prE t true true = none) : t = l := by
  have hlen := hc.1
  have g : ∀ j, 4 ≤ j → j < 8 → rB t j = rB l j := by
    intro j h1 h2
    have := congrArg (fun x => x[j - 4]?) h8
    simp only [List.getElem?_take_of_lt (show j - 4 < 4 by omega), List.getElem?_drop] at this
    rw [show 4 + (j - 4) = j by omega] at this
    unfold rB
    rw [List.getD_eq_getElem?_getD, List.getD_eq_getElem?_getD, this]
  have r4 := g 4 (by omega) (by omega)
  have r5 := g 5 (by omega) (by omega)
  have r6 := g 6 (by omega) (by omega)
  have r7 := g 7 (by omega) (by omega)
  have hd : dataN t = dataN l := by unfold dataN; rw [r5, r6, r7]
  have hat : allN t true true = l.length := by rw [← ha]; unfold allN; rw [r4, hd]
  obtain ⟨h0, _, _, _⟩ := pdu_only l true true hl
  obtain ⟨A, M, G, B, H, R, he, hA, hM, hG, hB, hH⟩ := parts_of l true true h0 (by omega)
  obtain ⟨A', M', G', B', H', R', he', hA', hM', hG', hB', hH'⟩ := parts_of t true true (by omega) (by omega)
  obtain ⟨p1, p2⟩ := prE_parts A M G B H R true true hA hM hG hB hH
  obtain ⟨q1, q2⟩ := prE_parts A' M' G' B' H' R' true true hA' hM' hG' hB' hH'
  rw [← he] at p1 p2
  rw [← he'] at q1 q2
  rw [hl] at p1
  rw [ht] at q1
  obtain ⟨b1, _, _, _, b5, _⟩ := body_ok p1.symm
  obtain ⟨c1, _, _, _, c5, _⟩ := body_ok q1.symm
  have rA : rB A' 4 = rB A 4 := by
    rw [he, he', rB_append A _ 4 (by omega), rB_append A' _ 4 (by omega)] at r4
    exact r4
  have dA : dataN A' = dataN A := by
    have e1 : dataN l = dataN A := by
      unfold dataN
      rw [he, rB_append A _ 5 (by omega), rB_append A _ 6 (by omega), rB_append A _ 7 (by omega)]
    have e2 : dataN t = dataN A' := by
      unfold dataN
      rw [he', rB_append A' _ 5 (by omega), rB_append A' _ 6 (by omega), rB_append A' _ 7 (by omega)]
    omega
  have hR : R = [] := by
    have := congrArg List.length he
    simp only [List.length_append] at this p2
    exact List.length_eq_zero_iff.1 (by omega)
  have hR' : R' = [] := by
    have := congrArg List.length he'
    simp only [List.length_append] at this q2
    exact List.length_eq_zero_iff.1 (by omega)
  rw [dA] at hB' hH'
  rw [rA] at hM'
  have hG4 : G.length = 4 := hG
  have hG4' : G'.length = 4 := hG'
  have f1 : l = ((A ++ M) ++ G) ++ (B ++ H) := by rw [he, hR]; simp
  have f2 : t = ((A' ++ M') ++ G') ++ (B' ++ H') := by rw [he', hR']; simp
  have hc2 := hc
  rw [f1, f2] at hc2
  have hll : ((A' ++ M') ++ G').length = ((A ++ M) ++ G).length := by simp only [List.length_append]; omega
  have k1 := close_dig (by simp only [List.length_append]; omega) hG4 hG4' (close_left hll hc2) (b1 rfl) (c1 rfl)
  have k2 : B' ++ H' = B ++ H := by
    by_cases hn : 0 < dataN A
    · have hH4 : H.length = 4 := by rw [hH]; simp [ddN, hn]
      have hH4' : H'.length = 4 := by rw [hH']; simp [ddN, hn]
      exact close_dig (by omega) hH4 hH4' (close_right hll hc2) (b5 rfl hn) (c5 rfl (by omega))
    · have hn : dataN A = 0 := by omega
      rw [hn] at hB hB' hH hH'
      have z1 : B = [] := List.length_eq_zero_iff.1 hB
      have z2 : B' = [] := List.length_eq_zero_iff.1 hB'
      have z3 : H = [] := List.length_eq_zero_iff.1 hH
      have z4 : H' = [] := List.length_eq_zero_iff.1 hH'
      rw [z1, z2, z3, z4]
  rw [f1, f2, k1, k2]
end Go.Proofs.YtifniblffjgfkaaGreatDoor

/- The contracts of pdu.Right and pdu.Size. -/
namespace Go.Proofs.YtifniblffjgfkaaGreatDoor
open Go.ChangeShapes Go.WideShapes Go.ChangeAt Go.RowKit Go.Shelf
set_option linter.unusedVariables false
theorem tell_herr (E : Nat × Option Nat) (base : Nat) (er : Value) (w : World) (hg : LaidE w) (h : HErr w base er (some E)) : Calls Tryz.prog 19 #[er] w fun e w' => e = .returned (.int .i64 E.1) ∧ Below w.heap.size w w' := by
  obtain ⟨c, o⟩ := E
  rcases o with _ | p
  · obtain rfl : er = _ := h
    exact tell_errno c w hg
  · obtain ⟨g, _, rfl, hB⟩ := h
    exact tell_at g c p w hg hB
theorem tell_aerr (E : Nat × Nat) (base : Nat) (er : Value) (w : World) (hg : LaidE w) (h : ErrAt w base er (some E)) : Calls Tryz.prog 19 #[er] w fun e w' => e = .returned (.int .i64 E.1) ∧ Below w.heap.size w w' := by
  obtain ⟨g, _, rfl, hB⟩ := h
  exact tell_at g E.1 E.2 w hg hB
theorem ErrAt.iface {w : World} {base : Nat} {v : Value} {E : Nat × Nat} (h : ErrAt w base v (some E)) : ∃ t x, v = .iface t x := by
  obtain ⟨g, _, rfl, _⟩ := h
  exact ⟨_, _, rfl⟩
theorem ErrAt.on {w w' : World} {base : Nat} {v : Value} {E : Option (Nat × Nat)} (h : ErrAt w base v E) (hb : Below w.heap.size w w') : ErrAt w' base v E := by
  rcases E with _ | E
  · exact h
  · obtain ⟨g, h1, h2, hB⟩ := h
    exact ⟨g, h1, h2, hB.below hb hB.lt⟩
theorem HErr.on {w w' : World} {base : Nat} {v : Value} {E : Option (Nat × Option Nat)} (h : HErr w base v E) (hb : Below w.heap.size w w') : HErr w' base v E := by
  rcases E with _ | ⟨c, o⟩
  · exact h
  · rcases o with _ | p
    · exact h
    · obtain ⟨g, h1, h2, hB⟩ := h
      exact ⟨g, h1, h2, hB.below hb hB.lt⟩
def codeV : Option Nat → Value
  | none => .nilIface
  | some c => .iface 43 (.int .i64 c)
def pduR (op : Int) (now : Bool) (fl : Int) (vals : List Nat) (l : AhsL) (n : Nat) : Option Nat :=
  match rightR op now fl vals with
  | some E => some E.1
  | none => match rightGo l 0 0 with
    | some E => some E.1
    | none => if 100000 < n then some 4 else none
theorem right_err (op : Int) (now : Bool) (fl : Int) (vals : List Nat) (v : Value) (E : Nat × Option Nat) (hr : rightR op now fl vals = some E) (w : World) (h0 : -9223372036854775808 ≤ op ∧ op ≤ 9223372036854775807) (hf : -9223372036854775808 ≤ fl ∧ fl ≤ 9223372036854775807) (hv : SRd w v 1 vals.length (vals.map u64V)) (hl : ∀ x ∈ vals, x < 18446744073709551616) (T : Tabs w) (hS : w.ShapedOpen Tryz.prog) :
    Calls Tryz.prog 58 #[.agg #[.int .i64 op, .bool now, .int .i64 fl, v]] w fun e w' => ∃ t x, e = .returned (.iface t x) ∧ HErr w' w.heap.size (.iface t x) (some E) ∧ Below w.heap.size w w' := by
  refine (right_any op now fl vals v w h0 hf hv hl T hS).mono ?_
  rintro e w' ⟨er, rfl, her, hb⟩
  rw [hr] at her
  obtain ⟨t, x, rfl⟩ := her.value
  exact ⟨t, x, rfl, her, hb⟩
theorem ahs_nil (l : AhsL) (v : Value) (hr : rightGo l 0 0 = none) (w : World) (hv : SRd w v 2 l.length (ahsCells l)) (hd : ∀ p ∈ l, p.2.size ≤ 140737488351232) : Calls Tryz.prog 59 #[v] w fun e w' => e = .returned .nilIface ∧ Below w.heap.size w w' := by
  refine (ahsRight_any l v w hv hd).mono ?_
  rintro e w' ⟨er, rfl, her, hb⟩
  rw [hr] at her
  obtain rfl : er = .nilIface := her
  exact ⟨rfl, hb⟩
theorem ahs_err (l : AhsL) (v : Value) (E : Nat × Nat) (hr : rightGo l 0 0 = some E) (w : World) (hv : SRd w v 2 l.length (ahsCells l)) (hd : ∀ p ∈ l, p.2.size ≤ 140737488351232) : Calls Tryz.prog 59 #[v] w fun e w' => ∃ t x, e = .returned (.iface t x) ∧ ErrAt w' w.heap.size (.iface t x) (some E) ∧ Below w.heap.size w w' := by
  refine (ahsRight_any l v w hv hd).mono ?_
  rintro e w' ⟨er, rfl, her, hb⟩
  rw [hr] at her
  obtain ⟨t, x, rfl⟩ := her.iface
  exact ⟨t, x, rfl, her, hb⟩
theorem ixe0 (a b : Value) (w : World) : (Instr.index 116 (.agg #[a, b]) (.int .i64 0)).run Tryz.prog w = .ok a w := by kernel_rfl
theorem ixe1 (a b : Value) (w : World) : (Instr.index 116 (.agg #[a, b]) (.int .i64 1)).run Tryz.prog w = .ok b w := by kernel_rfl
set_option maxRecDepth 20000 in
set_option maxHeartbeats 2000000 in
theorem pduRight_any (op : Int) (now : Bool) (fl : Int) (vals : List Nat) (v : Value) (l : AhsL) (av : Value) (s : ByteArray) (w : World) (h0 : -9223372036854775808 ≤ op ∧ op ≤ 9223372036854775807) (hf : -9223372036854775808 ≤ fl ∧ fl ≤ 9223372036854775807) (hv : SRd w v 1 vals.length (vals.map u64V)) (hl : ∀ x ∈ vals, x < 18446744073709551616)
    (ha : SRd w av 2 l.length (ahsCells l)) (hd : ∀ p ∈ l, p.2.size ≤ 140737488351232) (hs : s.size ≤ 140737488351232) (hL : LaidE w) (T : Tabs w) (hS : w.ShapedOpen Tryz.prog) :
    Calls Tryz.prog 25 #[.agg #[.int .i64 op, .bool now, .int .i64 fl, v, av, .string s]] w fun e w' => e = .returned (codeV (pduR op now fl vals l s.size)) ∧ Below w.heap.size w w' := by
  obtain ⟨A, cap, rfl⟩ : ∃ A cap, v = .slice A vals.length cap := by obtain ⟨_, A, cap, hv, _⟩ := hv; exact ⟨A, cap, hv⟩
  obtain ⟨B, bcap, rfl⟩ : ∃ A cap, av = .slice A l.length cap := by obtain ⟨_, A, cap, hv, _⟩ := ha; exact ⟨A, cap, hv⟩
  go_enter Tryz.func25, Tryz.ntmps25
  obtain ⟨g, hg⟩ : ∃ g, w.heap.size = g := ⟨_, rfl⟩
  have hB0 := Blk.new w 38 #[.int .i64 op, .bool now, .int .i64 fl, .slice A vals.length cap, .slice B l.length bcap, .string s]
  have hb0 : Below w.heap.size w (w.alloc (.cells #[.int .i64 op, .bool now, .int .i64 fl, .slice A vals.length cap, .slice B l.length bcap, .string s] 38)) := (Below.refl _ _).alloc (Nat.le_refl _) _
  obtain ⟨W, hW⟩ : ∃ W, pduR op now fl vals l s.size = W := ⟨_, rfl⟩
  rw [hW]
  have HW := Lib.hid hW
  clear hW
  go_wp2_with fail
  obtain ⟨w0, hw0⟩ : ∃ w0 : World, w.alloc (.cells #[.int .i64 op, .bool now, .int .i64 fl, .slice A vals.length cap, .slice B l.length bcap, .string s] 38) = w0 := ⟨_, rfl⟩
  rw [hw0] at hb0 hB0 ⊢
  clear hw0
  rw [hg] at hB0
  try rw [hg]
  have c0 := hB0.cell 0
  have c1 := hB0.cell 1
  have c2 := hB0.cell 2
  have c3 := hB0.cell 3
  have c4 := hB0.cell 4
  have c5 := hB0.cell 5
  have hgl := hB0.lt
  have hv0 := hv.on hb0
  have ha0 := ha.on hb0
  have T0 := T.on hb0
  have S0 := shaped_ons hS hb0
  have hr0 : Below w0.heap.size w0 w0.drew := (Below.refl _ w0).drew
  rcases h1 : rightR op now fl vals with _ | E1
  all_goals have H1 := Lib.hid h1
  all_goals clear h1
  all_goals rcases h2 : rightGo l 0 0 with _ | E2
  all_goals have H2 := Lib.hid h2
  all_goals clear h2
  · go_region_held3 (fun w' => w'.cell? ⟨g, 0, none⟩ = some (.int .i64 op) ∧ w'.cell? ⟨g, 1, none⟩ = some (.bool now) ∧ w'.cell? ⟨g, 2, none⟩ = some (.int .i64 fl) ∧ w'.cell? ⟨g, 3, none⟩ = some (.slice A vals.length cap) ∧ w'.cell? ⟨g, 4, none⟩ = some (.slice B l.length bcap)) (first | go_keep | exact ⟨k0, k1, k2, k3, k4⟩)
      (first | (go_at_call 58; refine (right_nil op now fl vals _ H1.out _ h0 hf (hv0.on hr0) hl (T0.on hr0) (shaped_ons S0 hr0)).mono ?_; rintro e w1 ⟨rfl, hb1⟩; have hb01 := hr0.trans hb1; have k0 := (hb01.cell (p := ⟨g, 0, none⟩) hgl).trans c0; have k1 := (hb01.cell (p := ⟨g, 1, none⟩) hgl).trans c1; have k2 := (hb01.cell (p := ⟨g, 2, none⟩) hgl).trans c2; have k3 := (hb01.cell (p := ⟨g, 3, none⟩) hgl).trans c3; have k4 := (hb01.cell (p := ⟨g, 4, none⟩) hgl).trans c4) | (go_at_call 59; refine (ahs_nil l _ H2.out _ (ha0.on hb01) hd).mono ?_; rintro e w2 ⟨rfl, hb2⟩; have hb02 := hb01.trans (hb2.mono hb01.size); have k0 := (hb02.cell (p := ⟨g, 0, none⟩) hgl).trans c0; have k1 := (hb02.cell (p := ⟨g, 1, none⟩) hgl).trans c1; have k2 := (hb02.cell (p := ⟨g, 2, none⟩) hgl).trans c2; have k3 := (hb02.cell (p := ⟨g, 3, none⟩) hgl).trans c3; have k4 := (hb02.cell (p := ⟨g, 4, none⟩) hgl).trans c4))
    all_goals
      have hbw2 : Below w.heap.size w w2 := below_step hb0 hb02
      have k5 := (hb02.cell (p := ⟨g, 5, none⟩) hgl).trans c5
      have L2 := hL.on hbw2
      have i0 := ixe0
      have i1 := ixe1
      by_cases hdl : 100000 < s.size
      · have hW : W = some 4 := by rw [← HW.out, pduR, H1.out]; simp only; rw [H2.out]; simp only; rw [if_pos hdl]
        subst hW
        clear HW
        go_wp2_with fail
        refine wp_loop_rounds 3 ?_
        rw [rounds_succ]
        go_wp2_with fail
        rw [rounds_succ]
        go_wp2_with fail
        rw [rounds_succ]
        go_wp2_with fail
        go_ret
        exact ⟨rfl, hbw2⟩
      · have hW : W = none := by rw [← HW.out, pduR, H1.out]; simp only; rw [H2.out]; simp only; rw [if_neg hdl]
        subst hW
        clear HW
        go_wp2_with fail
        refine wp_loop_rounds 3 ?_
        rw [rounds_succ]
        go_wp2_with fail
        rw [rounds_succ]
        go_wp2_with fail
        rw [rounds_succ]
        go_wp2_with fail
        go_ret
        exact ⟨rfl, hbw2⟩
  · go_region_held3 (fun w' => w'.cell? ⟨g, 0, none⟩ = some (.int .i64 op) ∧ w'.cell? ⟨g, 1, none⟩ = some (.bool now) ∧ w'.cell? ⟨g, 2, none⟩ = some (.int .i64 fl) ∧ w'.cell? ⟨g, 3, none⟩ = some (.slice A vals.length cap) ∧ w'.cell? ⟨g, 4, none⟩ = some (.slice B l.length bcap)) (first | go_keep | exact ⟨k0, k1, k2, k3, k4⟩)
      (first | (go_at_call 58; refine (right_nil op now fl vals _ H1.out _ h0 hf (hv0.on hr0) hl (T0.on hr0) (shaped_ons S0 hr0)).mono ?_; rintro e w1 ⟨rfl, hb1⟩; have hb01 := hr0.trans hb1; have k0 := (hb01.cell (p := ⟨g, 0, none⟩) hgl).trans c0; have k1 := (hb01.cell (p := ⟨g, 1, none⟩) hgl).trans c1; have k2 := (hb01.cell (p := ⟨g, 2, none⟩) hgl).trans c2; have k3 := (hb01.cell (p := ⟨g, 3, none⟩) hgl).trans c3; have k4 := (hb01.cell (p := ⟨g, 4, none⟩) hgl).trans c4) | (go_at_call 59; refine (ahs_err l _ E2 H2.out _ (ha0.on hb01) hd).mono ?_; rintro e w2 ⟨t2, x2, rfl, her2, hb2⟩; have hb02 := hb01.trans (hb2.mono hb01.size); have k0 := (hb02.cell (p := ⟨g, 0, none⟩) hgl).trans c0; have k1 := (hb02.cell (p := ⟨g, 1, none⟩) hgl).trans c1; have k2 := (hb02.cell (p := ⟨g, 2, none⟩) hgl).trans c2; have k3 := (hb02.cell (p := ⟨g, 3, none⟩) hgl).trans c3; have k4 := (hb02.cell (p := ⟨g, 4, none⟩) hgl).trans c4))
    all_goals
      have hbw2 : Below w.heap.size w w2 := below_step hb0 hb02
      have k5 := (hb02.cell (p := ⟨g, 5, none⟩) hgl).trans c5
      have L2 := hL.on hbw2
      have i0 := ixe0
      have i1 := ixe1
      have hW : W = some E2.1 := by rw [← HW.out, pduR, H1.out]; simp only; rw [H2.out]
      subst hW
      clear HW
      go_wp2_with fail
      refine wp_loop_rounds 2 ?_
      rw [rounds_succ]
      go_wp2_with fail
      rw [rounds_succ]
      go_wp2_with fail
      refine (tell_aerr E2 _ _ _ L2 her2).mono ?_
      rintro e w4 ⟨rfl, hb4⟩
      go_wp2_with fail
      go_ret
      exact ⟨rfl, below_step hbw2 hb4⟩
  · go_region_held3 (fun w' => w'.cell? ⟨g, 0, none⟩ = some (.int .i64 op) ∧ w'.cell? ⟨g, 1, none⟩ = some (.bool now) ∧ w'.cell? ⟨g, 2, none⟩ = some (.int .i64 fl) ∧ w'.cell? ⟨g, 3, none⟩ = some (.slice A vals.length cap) ∧ w'.cell? ⟨g, 4, none⟩ = some (.slice B l.length bcap)) (first | go_keep | exact ⟨k0, k1, k2, k3, k4⟩)
      (first | (go_at_call 58; refine (right_err op now fl vals _ E1 H1.out _ h0 hf (hv0.on hr0) hl (T0.on hr0) (shaped_ons S0 hr0)).mono ?_; rintro e w1 ⟨t1, x1, rfl, her, hb1⟩; have hb01 := hr0.trans hb1; have k0 := (hb01.cell (p := ⟨g, 0, none⟩) hgl).trans c0; have k1 := (hb01.cell (p := ⟨g, 1, none⟩) hgl).trans c1; have k2 := (hb01.cell (p := ⟨g, 2, none⟩) hgl).trans c2; have k3 := (hb01.cell (p := ⟨g, 3, none⟩) hgl).trans c3; have k4 := (hb01.cell (p := ⟨g, 4, none⟩) hgl).trans c4) | (go_at_call 59; refine (ahs_nil l _ H2.out _ (ha0.on hb01) hd).mono ?_; rintro e w2 ⟨rfl, hb2⟩; have hb02 := hb01.trans (hb2.mono hb01.size); have k0 := (hb02.cell (p := ⟨g, 0, none⟩) hgl).trans c0; have k1 := (hb02.cell (p := ⟨g, 1, none⟩) hgl).trans c1; have k2 := (hb02.cell (p := ⟨g, 2, none⟩) hgl).trans c2; have k3 := (hb02.cell (p := ⟨g, 3, none⟩) hgl).trans c3; have k4 := (hb02.cell (p := ⟨g, 4, none⟩) hgl).trans c4))
    all_goals
      have hbw2 : Below w.heap.size w w2 := below_step hb0 hb02
      have k5 := (hb02.cell (p := ⟨g, 5, none⟩) hgl).trans c5
      have L2 := hL.on hbw2
      have i0 := ixe0
      have i1 := ixe1
      have hW : W = some E1.1 := by rw [← HW.out, pduR, H1.out]
      subst hW
      clear HW
      go_wp2_with fail
      refine wp_loop_rounds 2 ?_
      rw [rounds_succ]
      go_wp2_with fail
      refine (tell_herr E1 _ _ _ L2 (her.on hb2)).mono ?_
      rintro e w4 ⟨rfl, hb4⟩
      go_wp2_with fail
      go_ret
      exact ⟨rfl, below_step hbw2 hb4⟩
  · go_region_held3 (fun w' => w'.cell? ⟨g, 0, none⟩ = some (.int .i64 op) ∧ w'.cell? ⟨g, 1, none⟩ = some (.bool now) ∧ w'.cell? ⟨g, 2, none⟩ = some (.int .i64 fl) ∧ w'.cell? ⟨g, 3, none⟩ = some (.slice A vals.length cap) ∧ w'.cell? ⟨g, 4, none⟩ = some (.slice B l.length bcap)) (first | go_keep | exact ⟨k0, k1, k2, k3, k4⟩)
      (first | (go_at_call 58; refine (right_err op now fl vals _ E1 H1.out _ h0 hf (hv0.on hr0) hl (T0.on hr0) (shaped_ons S0 hr0)).mono ?_; rintro e w1 ⟨t1, x1, rfl, her, hb1⟩; have hb01 := hr0.trans hb1; have k0 := (hb01.cell (p := ⟨g, 0, none⟩) hgl).trans c0; have k1 := (hb01.cell (p := ⟨g, 1, none⟩) hgl).trans c1; have k2 := (hb01.cell (p := ⟨g, 2, none⟩) hgl).trans c2; have k3 := (hb01.cell (p := ⟨g, 3, none⟩) hgl).trans c3; have k4 := (hb01.cell (p := ⟨g, 4, none⟩) hgl).trans c4) | (go_at_call 59; refine (ahs_err l _ E2 H2.out _ (ha0.on hb01) hd).mono ?_; rintro e w2 ⟨t2, x2, rfl, her2, hb2⟩; have hb02 := hb01.trans (hb2.mono hb01.size); have k0 := (hb02.cell (p := ⟨g, 0, none⟩) hgl).trans c0; have k1 := (hb02.cell (p := ⟨g, 1, none⟩) hgl).trans c1; have k2 := (hb02.cell (p := ⟨g, 2, none⟩) hgl).trans c2; have k3 := (hb02.cell (p := ⟨g, 3, none⟩) hgl).trans c3; have k4 := (hb02.cell (p := ⟨g, 4, none⟩) hgl).trans c4))
    all_goals
      have hbw2 : Below w.heap.size w w2 := below_step hb0 hb02
      have k5 := (hb02.cell (p := ⟨g, 5, none⟩) hgl).trans c5
      have L2 := hL.on hbw2
      have i0 := ixe0
      have i1 := ixe1
      have hW : W = some E1.1 := by rw [← HW.out, pduR, H1.out]
      subst hW
      clear HW
      go_wp2_with fail
      refine wp_loop_rounds 2 ?_
      rw [rounds_succ]
      go_wp2_with fail
      refine (tell_herr E1 _ _ _ L2 (her.on hb2)).mono ?_
      rintro e w4 ⟨rfl, hb4⟩
      go_wp2_with fail
      go_ret
      exact ⟨rfl, below_step hbw2 hb4⟩
end Go.Proofs.YtifniblffjgfkaaGreatDoor

/- The contract of pdu.Write. -/
namespace Go.Proofs.YtifniblffjgfkaaGreatDoor
open Go.ChangeShapes Go.WideShapes Go.ChangeAt Go.RowKit Go.Shelf
set_option linter.unusedVariables false
def hdM (k : Nat) : Bool := decide (k % 2 = 1)
def ddM (k : Nat) : Bool := decide (2 ≤ k)
theorem and_1 : ∀ k : Fin 4, bits .and .i64 (k.val : Int) 1 = if hdM k.val then 1 else 0 := by decide +kernel
theorem and_2 : ∀ k : Fin 4, bits .and .i64 (k.val : Int) 2 = if ddM k.val then 2 else 0 := by decide +kernel
theorem of_list (x : ByteArray) (l : List UInt8) (h : x.data.toList = l) : x = ⟨l.toArray⟩ := by subst h; simp
theorem cat_l (s t : ByteArray) : (s ++ t).data.toList = s.data.toList ++ t.data.toList := by rw [cat_of]
theorem modes_any (k : Nat) (hk : k < 4) (w : World) : Calls Tryz.prog 56 #[.int .i64 k] w fun e w' => e = .returned (.bool true) ∧ w = w' := by
  go_enter Tryz.func56, Tryz.ntmps56
  go_wp2_with fail
  go_ret
  exact ⟨by simp; omega, rfl⟩
set_option maxRecDepth 20000 in
set_option maxHeartbeats 2000000 in
theorem pduWrite_bad (op : Int) (now : Bool) (fl : Int) (vals : List Nat) (v : Value) (l : AhsL) (av : Value) (s : ByteArray) (k : Nat) (c : Nat) (w : World) (hk : k < 4) (hr : pduR op now fl vals l s.size = some c) (h0 : -9223372036854775808 ≤ op ∧ op ≤ 9223372036854775807) (hf : -9223372036854775808 ≤ fl ∧ fl ≤ 9223372036854775807) (hv : SRd w v 1 vals.length (vals.map u64V)) (hl : ∀ x ∈ vals, x < 18446744073709551616)
    (ha : SRd w av 2 l.length (ahsCells l)) (hd : ∀ p ∈ l, p.2.size ≤ 140737488351232) (hs : s.size ≤ 140737488351232) (hL : LaidE w) (T : Tabs w) (hS : w.ShapedOpen Tryz.prog) :
    Calls Tryz.prog 26 #[.agg #[.int .i64 op, .bool now, .int .i64 fl, v, av, .string s], .int .i64 k] w fun e w' => e = .returned (.tuple #[.string ⟨#[]⟩, .iface 43 (.int .i64 c)]) ∧ Below w.heap.size w w' := by
  obtain ⟨A, cap, rfl⟩ : ∃ A cap, v = .slice A vals.length cap := by obtain ⟨_, A, cap, hv, _⟩ := hv; exact ⟨A, cap, hv⟩
  obtain ⟨B, bcap, rfl⟩ : ∃ A cap, av = .slice A l.length cap := by obtain ⟨_, A, cap, hv, _⟩ := ha; exact ⟨A, cap, hv⟩
  have hb0 : Below w.heap.size w (w.alloc (.cells #[.int .i64 op, .bool now, .int .i64 fl, .slice A vals.length cap, .slice B l.length bcap, .string s] 38)) := (Below.refl _ _).alloc (Nat.le_refl _) _
  go_enter Tryz.func26, Tryz.ntmps26
  go_wp2_with fail
  refine (modes_any k hk _).mono ?_
  rintro e w' ⟨rfl, rfl⟩
  go_wp2_with fail
  refine (pduRight_any op now fl vals _ l _ s _ h0 hf (hv.on hb0) hl (ha.on hb0) hd hs (hL.on hb0) (T.on hb0) (shaped_ons hS hb0)).mono ?_
  rintro e w1 ⟨rfl, hb1⟩
  rw [hr]
  unfold codeV
  go_wp2_with fail
  go_ret2
  exact ⟨rfl, below_step hb0 hb1⟩
set_option maxRecDepth 20000 in
set_option maxHeartbeats 2000000 in
theorem pduWrite_ok (op : Int) (now : Bool) (F : Nat) (vals : List Nat) (v : Value) (l : AhsL) (av : Value) (s : ByteArray) (k : Nat) (r : HeadR) (w : World) (hk : k < 4) (hrow : headRow op = some r) (hF : F < 256) (h1 : rightR op now F vals = none) (h2 : rightGo l 0 0 = none) (hsz : s.size ≤ 100000) (h0 : -9223372036854775808 ≤ op ∧ op ≤ 9223372036854775807) (hv : SRd w v 1 vals.length (vals.map u64V)) (hl : ∀ x ∈ vals, x < 18446744073709551616)
    (ha : SRd w av 2 l.length (ahsCells l)) (hd : ∀ p ∈ l, p.2.size ≤ 140737488351232) (hL : LaidE w) (T : Tabs w) (hS : w.ShapedOpen Tryz.prog) :
    Calls Tryz.prog 26 #[.agg #[.int .i64 op, .bool now, .int .i64 F, v, av, .string s], .int .i64 k] w fun e w' =>
      e = .returned (.tuple #[.string ⟨(pduB (layAll (headB r.1 now F ((ahsB l).length / 4) s.size) r.2.2.2 vals) (ahsB l) s.data.toList (hdM k) (ddM k)).toArray⟩, .nilIface]) ∧ Below w.heap.size w w' := by
  obtain ⟨A, cap, rfl⟩ : ∃ A cap, v = .slice A vals.length cap := by obtain ⟨_, A, cap, hv, _⟩ := hv; exact ⟨A, cap, hv⟩
  obtain ⟨B, bcap, rfl⟩ : ∃ A cap, av = .slice A l.length cap := by obtain ⟨_, A, cap, hv, _⟩ := ha; exact ⟨A, cap, hv⟩
  obtain ⟨q, hq⟩ : ∃ q, (ahsB l).length / 4 = q := ⟨_, rfl⟩
  rw [hq]
  have HQ := Lib.hid hq
  clear hq
  obtain ⟨g, hg⟩ : ∃ g, w.heap.size = g := ⟨_, rfl⟩
  have hB0 := Blk.new w 38 #[.int .i64 op, .bool now, .int .i64 F, .slice A vals.length cap, .slice B l.length bcap, .string s]
  have hb0 : Below w.heap.size w (w.alloc (.cells #[.int .i64 op, .bool now, .int .i64 F, .slice A vals.length cap, .slice B l.length bcap, .string s] 38)) := (Below.refl _ _).alloc (Nat.le_refl _) _
  have hR : pduR op now F vals l s.size = none := by rw [pduR, h1]; simp only; rw [h2]; simp only; rw [if_neg (by omega)]
  have hmore := right_none l 0 0 (by omega) h2
  have hml := ahsB_len l
  have hmod := sumLen_mod l
  have ham := and_1 ⟨k, hk⟩
  have hbm := and_2 ⟨k, hk⟩
  simp only at ham hbm
  go_enter Tryz.func26, Tryz.ntmps26
  go_wp2_with fail
  obtain ⟨w0, hw0⟩ : ∃ w0 : World, w.alloc (.cells #[.int .i64 op, .bool now, .int .i64 F, .slice A vals.length cap, .slice B l.length bcap, .string s] 38) = w0 := ⟨_, rfl⟩
  rw [hw0] at hb0 hB0 ⊢
  clear hw0
  rw [hg] at hB0
  try rw [hg]
  have hgl := hB0.lt
  refine (modes_any k hk _).mono ?_
  rintro e w' ⟨rfl, rfl⟩
  have c0 := hB0.cell 0
  have c1 := hB0.cell 1
  have c2 := hB0.cell 2
  have c3 := hB0.cell 3
  have c4 := hB0.cell 4
  have c5 := hB0.cell 5
  go_wp2_with fail
  refine (pduRight_any op now F vals _ l _ s _ h0 (by omega) (hv.on hb0) hl (ha.on hb0) hd (by omega) (hL.on hb0) (T.on hb0) (shaped_ons hS hb0)).mono ?_
  rintro e w1 ⟨rfl, hb1⟩
  rw [hR]
  unfold codeV
  have hbw1 := below_step hb0 hb1
  have hB1 := hB0.below hb1 hgl
  have c0 := hB1.cell 0
  have c1 := hB1.cell 1
  have c2 := hB1.cell 2
  have c3 := hB1.cell 3
  have c4 := hB1.cell 4
  have c5 := hB1.cell 5
  go_wp2_with fail
  refine (ahsWrite_ok l _ _ ((ha.on hbw1)) hd h2).mono ?_
  rintro e w2 ⟨rfl, hb2⟩
  have hbw2 := below_step hbw1 hb2
  have hB2 := hB1.below hb2 hB1.lt
  have c0 := hB2.cell 0
  have c1 := hB2.cell 1
  have c2 := hB2.cell 2
  have c3 := hB2.cell 3
  have c5 := hB2.cell 5
  obtain ⟨M, hM⟩ : ∃ M : ByteArray, (⟨(ahsB l).toArray⟩ : ByteArray) = M := ⟨_, rfl⟩
  have hMz : M.size = sumLen l := by rw [← hM, size_mkl, hml]
  rw [hM]
  have HM := Lib.hid hM
  clear hM hb1 hb2
  have hqv : ((sumLen l : Nat) : Int) / 4 = ((q : Nat) : Int) := by rw [← HQ.out, hml]; omega
  have hq2 : q < 256 := by have := HQ.out; omega
  go_wp2_with fail
  refine (write_ok op now F vals _ q s.size r _ h0 hF (hv.on hbw2) hl (T.on hbw2) (shaped_ons hS hbw2) hrow h1 hq2 (by omega)).mono ?_
  rintro e w3 ⟨rfl, hb3⟩
  have hbw3 := below_step hbw2 hb3
  have hB3 := hB2.below hb3 hB2.lt
  have c5 := hB3.cell 5
  obtain ⟨HB, hHB⟩ : ∃ HB, layAll (headB r.1 now F q s.size) r.2.2.2 vals = HB := ⟨_, rfl⟩
  have hHl : HB.length = 48 := by rw [← hHB]; exact layAll_len r.2.2.2 vals _ (headT_ok r (headRow_mem hrow)) rfl
  rw [hHB]
  obtain ⟨S, hSS⟩ : ∃ S : ByteArray, (⟨HB.toArray⟩ : ByteArray) = S := ⟨_, rfl⟩
  have hSz : S.size = 48 := by rw [← hSS, size_mkl, hHl]
  rw [hSS]
  have HS := Lib.hid hSS
  have HHB := Lib.hid hHB
  clear hSS hb3 hHB
  rcases hhd : hdM k with _ | _
  all_goals
    rw [hhd] at ham
    simp only [if_true, if_false, Bool.false_eq_true] at ham
  · go_wp2_with fail
    obtain ⟨O, hO⟩ : ∃ O : ByteArray, S ++ M = O := ⟨_, rfl⟩
    have hOl : O.data.toList = HB ++ (ahsB l ++ dg4 false (HB ++ ahsB l)) := by rw [← hO, cat_of, ← HS.out, ← HM.out]; simp [dg4]
    rw [hO]
    have HOL := Lib.hid hOl
    have hOz : O.size = 48 + sumLen l := by rw [← hO]; simp; omega
    have hbw4 := hbw3
    clear hO hOl
    refine (padded_any s _ (by omega)).mono ?_
    rintro e w' ⟨rfl, rfl⟩
    obtain ⟨P, hP⟩ : ∃ P : ByteArray, (⟨(padded s.data.toList).toArray⟩ : ByteArray) = P := ⟨_, rfl⟩
    have hPl : P.data.toList = padded s.data.toList := by rw [← hP]
    have hPz : P.size = s.size + padN s.size := by rw [← hP, size_mkl, padded_len, len_of]
    have hpd := padI_rng s.size
    unfold padN at hPz
    rw [hP]
    have HPL := Lib.hid hPl
    clear hPl hP
    rcases hdd : ddM k with _ | _
    all_goals
      rw [hdd] at hbm
      simp only [if_true, if_false, Bool.false_eq_true] at hbm
    · go_wp2_with fail
      go_ret2
      refine ⟨congrArg (fun x : ByteArray => Ending.returned (.tuple #[.string x, .nilIface])) (of_list (O ++ P) _ ?_), hbw4⟩
      rw [cat_l, HOL.out, HPL.out]
      rw [HHB.out, hhd, hdd]
      simp [pduB, dg4]
    · by_cases hs0 : s.size = 0
      · have hP0 : P.toList = [] := by rw [← List.length_eq_zero_iff, toList_of, len_of]; rw [hs0] at hPz; simpa [padI] using hPz
        have hP1 : P.toList.isEmpty = true := by rw [hP0]; rfl
        go_wp2_with fail
        go_ret2
        refine ⟨congrArg (fun x : ByteArray => Ending.returned (.tuple #[.string x, .nilIface])) (of_list (O ++ P) _ ?_), hbw4⟩
        have hsl : s.data.toList.length = 0 := by rw [len_of, hs0]
        rw [cat_l, HOL.out, HPL.out]
        rw [HHB.out, hhd, hdd]
        unfold pduB
        rw [hsl]
        simp [dg4]
      · have hP0 : ¬ P.toList = [] := by rw [← List.length_eq_zero_iff, toList_of, len_of]; omega
        have hP1 : P.toList.isEmpty = false := by simpa using hP0
        go_wp2_with fail
        refine (digest_any P _ (by omega)).mono ?_
        rintro e w5 ⟨rfl, hb5⟩
        rw [HPL.out]
        obtain ⟨D2, hD2⟩ : ∃ D : ByteArray, (⟨(digB (crcN (padded s.data.toList))).toArray⟩ : ByteArray) = D := ⟨_, rfl⟩
        rw [hD2]
        have hD2l : D2.data.toList = dg4 true (padded s.data.toList) := by rw [← hD2]; rfl
        have hD2z : D2.size = 4 := by rw [← hD2]; rfl
        have HD2L := Lib.hid hD2l
        have hslp : 0 < s.data.toList.length := by rw [len_of]; omega
        have HSP := Lib.hid hslp
        have hbw5 := below_step hbw4 hb5
        clear hD2 hD2l hslp hb5
        go_wp2_with fail
        go_ret2
        refine ⟨congrArg (fun x : ByteArray => Ending.returned (.tuple #[.string x, .nilIface])) (of_list (O ++ P ++ D2) _ ?_), hbw5⟩
        rw [cat_l, cat_l, HOL.out, HPL.out, HD2L.out]
        rw [HHB.out, hhd, hdd]
        unfold pduB
        rw [decide_eq_true HSP.out]
        simp
  · go_wp2_with fail
    refine (digest_any (S ++ M) _ (by simp; omega)).mono ?_
    rintro e w4 ⟨rfl, hb4⟩
    have hbw4 := below_step hbw3 hb4
    have hB4 := hB3.below hb4 hB3.lt
    have c5 := hB4.cell 5
    have hSM : (S ++ M).data.toList = HB ++ ahsB l := by rw [cat_of, ← HS.out, ← HM.out]
    rw [hSM]
    obtain ⟨D, hD⟩ : ∃ D : ByteArray, (⟨(digB (crcN (HB ++ ahsB l))).toArray⟩ : ByteArray) = D := ⟨_, rfl⟩
    rw [hD]
    have hDl : D.data.toList = dg4 true (HB ++ ahsB l) := by rw [← hD]; rfl
    have HDL := Lib.hid hDl
    have hDz : D.size = 4 := by rw [← hD]; rfl
    have HSM := Lib.hid hSM
    clear hD hDl hSM hb4
    go_wp2_with fail
    obtain ⟨O, hO⟩ : ∃ O : ByteArray, S ++ M ++ D = O := ⟨_, rfl⟩
    have hOl : O.data.toList = HB ++ (ahsB l ++ dg4 true (HB ++ ahsB l)) := by rw [← hO, cat_of, HSM.out, HDL.out, List.append_assoc]
    try rw [hO]
    have HOL := Lib.hid hOl
    have hOz : O.size = 48 + sumLen l + 4 := by rw [← hO]; simp; omega
    clear hO hOl
    refine (padded_any s _ (by omega)).mono ?_
    rintro e w' ⟨rfl, rfl⟩
    obtain ⟨P, hP⟩ : ∃ P : ByteArray, (⟨(padded s.data.toList).toArray⟩ : ByteArray) = P := ⟨_, rfl⟩
    have hPl : P.data.toList = padded s.data.toList := by rw [← hP]
    have hPz : P.size = s.size + padN s.size := by rw [← hP, size_mkl, padded_len, len_of]
    have hpd := padI_rng s.size
    unfold padN at hPz
    rw [hP]
    have HPL := Lib.hid hPl
    clear hPl hP
    rcases hdd : ddM k with _ | _
    all_goals
      rw [hdd] at hbm
      simp only [if_true, if_false, Bool.false_eq_true] at hbm
    · go_wp2_with fail
      go_ret2
      refine ⟨congrArg (fun x : ByteArray => Ending.returned (.tuple #[.string x, .nilIface])) (of_list (O ++ P) _ ?_), hbw4⟩
      rw [cat_l, HOL.out, HPL.out]
      rw [HHB.out, hhd, hdd]
      simp [pduB, dg4]
    · by_cases hs0 : s.size = 0
      · have hP0 : P.toList = [] := by rw [← List.length_eq_zero_iff, toList_of, len_of]; rw [hs0] at hPz; simpa [padI] using hPz
        have hP1 : P.toList.isEmpty = true := by rw [hP0]; rfl
        go_wp2_with fail
        go_ret2
        refine ⟨congrArg (fun x : ByteArray => Ending.returned (.tuple #[.string x, .nilIface])) (of_list (O ++ P) _ ?_), hbw4⟩
        have hsl : s.data.toList.length = 0 := by rw [len_of, hs0]
        rw [cat_l, HOL.out, HPL.out]
        rw [HHB.out, hhd, hdd]
        unfold pduB
        rw [hsl]
        simp [dg4]
      · have hP0 : ¬ P.toList = [] := by rw [← List.length_eq_zero_iff, toList_of, len_of]; omega
        have hP1 : P.toList.isEmpty = false := by simpa using hP0
        go_wp2_with fail
        refine (digest_any P _ (by omega)).mono ?_
        rintro e w5 ⟨rfl, hb5⟩
        rw [HPL.out]
        obtain ⟨D2, hD2⟩ : ∃ D : ByteArray, (⟨(digB (crcN (padded s.data.toList))).toArray⟩ : ByteArray) = D := ⟨_, rfl⟩
        rw [hD2]
        have hD2l : D2.data.toList = dg4 true (padded s.data.toList) := by rw [← hD2]; rfl
        have hD2z : D2.size = 4 := by rw [← hD2]; rfl
        have HD2L := Lib.hid hD2l
        have hslp : 0 < s.data.toList.length := by rw [len_of]; omega
        have HSP := Lib.hid hslp
        have hbw5 := below_step hbw4 hb5
        clear hD2 hD2l hslp hb5
        go_wp2_with fail
        go_ret2
        refine ⟨congrArg (fun x : ByteArray => Ending.returned (.tuple #[.string x, .nilIface])) (of_list (O ++ P ++ D2) _ ?_), hbw5⟩
        rw [cat_l, cat_l, HOL.out, HPL.out, HD2L.out]
        rw [HHB.out, hhd, hdd]
        unfold pduB
        rw [decide_eq_true HSP.out]
        simp
end Go.Proofs.YtifniblffjgfkaaGreatDoor

/- The contracts of pdu.Size and pdu.Read. -/
namespace Go.Proofs.YtifniblffjgfkaaGreatDoor
open Go.ChangeShapes Go.WideShapes Go.ChangeAt Go.RowKit Go.Shelf
set_option linter.unusedVariables false
theorem wrap_nat (x : Int) (h1 : 0 ≤ x) (h2 : x < 4611686018427387904) : IntKind.i64.wrap x = x := by
  rw [IntKind.wrap_i64]
  omega
theorem padI_lt (n : Int) : 0 ≤ padI n ∧ padI n ≤ 3 := padI_rng n
theorem dataN_lt (l : List UInt8) : dataN l < 16777216 := by
  have := rB_lt l 5
  have := rB_lt l 6
  have := rB_lt l 7
  unfold dataN; omega
set_option maxRecDepth 20000 in
set_option maxHeartbeats 2000000 in
theorem size_short (s : ByteArray) (k : Nat) (w : World) (hk : k < 4) (hs : s.size < 48) : Calls Tryz.prog 51 #[.string s, .int .i64 k] w fun e w' => e = .returned (.tuple #[.int .i64 0, .iface 43 (.int .i64 7)]) ∧ Below w.heap.size w w' := by
  go_enter Tryz.func51, Tryz.ntmps51
  go_wp2_with fail
  refine (modes_any k hk _).mono ?_
  rintro e w' ⟨rfl, rfl⟩
  go_wp2_with fail
  go_ret2
  exact ⟨rfl, Below.refl _ _⟩
set_option maxRecDepth 20000 in
set_option maxHeartbeats 2000000 in
theorem size_ok (s : ByteArray) (k : Nat) (w : World) (hk : k < 4) (h48 : 48 ≤ s.size) (hs : s.size ≤ 1000000) : Calls Tryz.prog 51 #[.string s, .int .i64 k] w fun e w' => e = .returned (.tuple #[.int .i64 (allN s.data.toList (hdM k) (ddM k)), .nilIface]) ∧ Below w.heap.size w w' := by
  have hk1 := and_1 ⟨k, hk⟩
  have hk2 := and_2 ⟨k, hk⟩
  simp only at hk1 hk2
  have g4 : (4 : Int) < s.size := by omega
  have g5 : (5 : Int) < s.size := by omega
  have g6 : (6 : Int) < s.size := by omega
  have g7 : (7 : Int) < s.size := by omega
  have a4 : ((s[4]'(by omega)).toNat : Int) = ((rB s.data.toList 4 : Nat) : Int) := by rw [rB_at s 4 (by omega)]
  have a5 : ((s[5]'(by omega)).toNat : Int) = ((rB s.data.toList 5 : Nat) : Int) := by rw [rB_at s 5 (by omega)]
  have a6 : ((s[6]'(by omega)).toNat : Int) = ((rB s.data.toList 6 : Nat) : Int) := by rw [rB_at s 6 (by omega)]
  have a7 : ((s[7]'(by omega)).toNat : Int) = ((rB s.data.toList 7 : Nat) : Int) := by rw [rB_at s 7 (by omega)]
  have hB4 := rB_lt s.data.toList 4
  have hB5 := rB_lt s.data.toList 5
  have hB6 := rB_lt s.data.toList 6
  have hB7 := rB_lt s.data.toList 7
  have hor := or_data _ _ _ hB5 hB6 hB7
  obtain ⟨N, hN⟩ : ∃ N, allN s.data.toList (hdM k) (ddM k) = N := ⟨_, rfl⟩
  rw [hN]
  unfold allN dataN at hN
  obtain ⟨B4, hb4⟩ : ∃ B, rB s.data.toList 4 = B := ⟨_, rfl⟩
  obtain ⟨B5, hb5⟩ : ∃ B, rB s.data.toList 5 = B := ⟨_, rfl⟩
  obtain ⟨B6, hb6⟩ : ∃ B, rB s.data.toList 6 = B := ⟨_, rfl⟩
  obtain ⟨B7, hb7⟩ : ∃ B, rB s.data.toList 7 = B := ⟨_, rfl⟩
  obtain ⟨D, hD⟩ : ∃ D, B5 * 65536 + B6 * 256 + B7 = D := ⟨_, rfl⟩
  rw [hb4, hb5, hb6, hb7, hD] at hN
  rw [hb5, hb6, hb7, hD] at hor
  rw [hb4] at a4 hB4
  rw [hb5] at a5 hB5
  rw [hb6] at a6 hB6
  rw [hb7] at a7 hB7
  have hDl : D < 16777216 := by omega
  have hpd := padI_rng D
  obtain ⟨pd, hpe⟩ := Int.eq_ofNat_of_zero_le hpd.1
  have hpn : padN D = pd := by unfold padN; omega
  rw [hpn] at hN
  rw [hpe] at hpd
  have HPE := Lib.hid hpe
  clear hb4 hb5 hb6 hb7 hD hpe hpn
  rcases hhd : hdM k with _ | _
  all_goals rcases hdd : ddM k with _ | _
  all_goals by_cases hD0 : 0 < D
  all_goals
    rw [hhd, hdd] at hN
    rw [hhd] at hk1
    rw [hdd] at hk2
    simp only [hdN, ddN, hD0, decide_true, decide_false, Bool.and_true, Bool.and_false, if_true, if_false, Bool.false_eq_true] at hN hk1 hk2
    have HN := Lib.hid hN
    clear hN hhd hdd
    go_enter Tryz.func51, Tryz.ntmps51
    go_wp2_with fail
    refine (modes_any k hk _).mono ?_
    rintro e w' ⟨rfl, rfl⟩
    go_wp2_with fail
    go_region
    go_wp2_with fail
    go_region_held3 (fun _ => True) (trivial) ((go_at_call 81; refine (pad_any D _).mono ?_; rintro e w' ⟨rfl, rfl⟩; rw [HPE.out]))
    go_wp2_with fail
    all_goals
      go_ret2
      refine ⟨?_, (Below.refl _ w).drew.drew⟩
      rw [← HN.out]
      simp
      try simp (disch := omega) only [wrap_nat]
      try omega
end Go.Proofs.YtifniblffjgfkaaGreatDoor

/- An argument that is a PDU. -/
namespace Go.Proofs.YtifniblffjgfkaaGreatDoor
open Go.ChangeShapes Go.WideShapes Go.ChangeAt Go.RowKit Go.Deep
set_option linter.unusedVariables false
set_option maxRecDepth 100000 in
theorem ahs_cells {H : Type} {enc : TypeId × Value → H} {W : World} {base : Nat} {spare : Nat → Bool} {held : Bool} {fuel : Nat} {cs : List Value} {x : DataW H × List MemPlace}
    (hf : DataW.trod enc Tryz.prog W base spare held fuel 36 cs = some x) (hw : ∀ n ∈ x.1.weights Tryz.prog 36, n ≤ reachBytes) :
    ∃ (l : AhsL) (u : Value), cs = [u] ∧ SRd W u 2 l.length (ahsCells l) ∧ (∀ q ∈ l, -9223372036854775808 ≤ q.1 ∧ q.1 ≤ 9223372036854775807) ∧ (∀ q ∈ l, q.2.size ≤ 140737488351232) := by
  rcases open_slice_pairs Tryz.underlying36 Tryz.underlying111 (by kernel_rfl) rfl rfl (by kernel_rfl) (by kernel_rfl) hf with ⟨hc, hx⟩ | ⟨a, len, cap, m, n, V0, V1, D0, D1, P0, P1, hc, hb, hl, hmx, hmm, hx, hi⟩
  · exact ⟨[], _, hc, ⟨rfl, none, 0, rfl, Nat.le_refl _, by unfold maxLen; omega, fun h => absurd h (Nat.lt_irrefl _)⟩, fun q hq => (List.not_mem_nil hq).elim, fun q hq => (List.not_mem_nil hq).elim⟩
  · have hlm : len ≤ m := by rw [hmm]; split <;> omega
    have hval : ∀ i, i < len → ∃ (k : Int) (s : ByteArray), V0 i = .int .i64 k ∧ V1 i = .string s ∧ D1 i = .lit (.string s.data.toList) ∧ (Lit.int .i64 k).wf = true := by
      intro i hi'
      obtain ⟨_, _, h0, h1⟩ := hi i (by omega)
      obtain ⟨k, e0, _, hw⟩ := DataW.trod_int Tryz.underlying3 h0
      obtain ⟨s, e1, hx1, _⟩ := DataW.trod_string Tryz.underlying9 h1
      have e0' : V0 i = .int .i64 k := by simpa using e0
      have e1' : V1 i = .string s := by simpa using e1
      have hx1' : D1 i = .lit (.string s.data.toList) := by
        have := congrArg Prod.fst hx1
        simpa using this
      exact ⟨k, s, e0', e1', hx1', hw⟩
    have hch : ∀ i, ∃ q : Int × ByteArray, i < len → V0 i = .int .i64 q.1 ∧ V1 i = .string q.2 ∧ D1 i = .lit (.string q.2.data.toList) ∧ (Lit.int .i64 q.1).wf = true := by
      intro i
      by_cases hi' : i < len
      · obtain ⟨k, s, h⟩ := hval i hi'
        exact ⟨(k, s), fun _ => h⟩
      · exact ⟨(0, ⟨#[]⟩), fun h => absurd h hi'⟩
    obtain ⟨L, hL⟩ := Classical.axiomOfChoice hch
    have hcells : ∀ n, ahsCells ((List.range n).map L) = (List.range n).flatMap fun i => [.int .i64 (L i).1, .string (L i).2] := by
      intro n; simp [ahsCells, List.flatMap_map]
    have hget : ∀ j u, (ahsCells ((List.range len).map L))[j]? = some u → W.cell? (a.add j) = some u := by
      intro j u hu
      have hjl : j < 2 * len := by
        have := (List.getElem?_eq_some_iff.1 hu).1
        rw [ahsCells_len] at this
        simpa using this
      have hk : ((List.range len).map L)[j / 2]? = some (L (j / 2)) := by
        rw [List.getElem?_map, List.getElem?_range (by omega)]; rfl
      obtain ⟨g0, g1⟩ := ahsCells_at _ _ _ hk
      obtain ⟨c0, c1, _, _⟩ := hi (j / 2) (by omega)
      obtain ⟨l0, l1, _, _⟩ := hL (j / 2) (by omega)
      rcases Nat.mod_two_eq_zero_or_one j with h2 | h2
      · have e : j = 2 * (j / 2) := by omega
        rw [e, g0] at hu
        rw [e, Nat.mul_comm, c0, l0]
        exact hu
      · have e : j = 2 * (j / 2) + 1 := by omega
        rw [e, g1] at hu
        rw [e, Nat.mul_comm, c1, l1]
        exact hu
    refine ⟨(List.range len).map L, _, hc, ⟨by rw [ahsCells_len]; omega, some a, cap, ?_, ?_, ?_, ?_⟩, ?_, ?_⟩
    · simp
    · simpa using hl
    · exact hmx
    · intro hpos
      have hpos' : 0 < len := by simpa using hpos
      have c00 := (hi 0 (by omega)).1
      have e0 : a.add (0 * 2) = a := by simp [Addr.add]
      rw [e0] at c00
      have hsp := World.cell?_spot c00
      obtain ⟨ab, ao, asp⟩ := a
      simp only at hsp
      subst hsp
      refine ⟨ab, ao, rfl, ?_, fun j u hu => by rw [← Addr.add_lit]; exact hget j u hu⟩
      simp only [World.cell?] at c00
      by_cases hlt : ab < W.heap.size
      · exact hlt
      · rw [Array.getElem?_eq_none (by omega)] at c00
        simp at c00
    · intro q hq
      obtain ⟨i, hi', rfl⟩ := List.mem_map.1 hq
      exact bounds_i64 (hL i (List.mem_range.1 hi')).2.2.2
    · intro q hq
      obtain ⟨i, hi', rfl⟩ := List.mem_map.1 hq
      have hd1 := (hL i (List.mem_range.1 hi')).2.2.1
      have hd' : x.1 = .slice ((List.range len).map fun i => .agg [D0 i, D1 i]) ((List.range (m - len)).map fun j => .agg [D0 (len + j), D1 (len + j)]) := congrArg Prod.fst hx
      refine str_size rfl (hw _ ?_)
      rw [hd']
      simp only [DataW.weights, Tryz.underlying36, List.mem_cons, List.mem_append]
      refine Or.inr (Or.inl (weightsAll_mem' (List.mem_map.2 ⟨i, hi', rfl⟩) _ ?_))
      rw [hd1]
      simp [DataW.weights, DataW.weightsEach, Tryz.underlying111]
set_option maxRecDepth 100000 in
theorem head_cells {H : Type} {enc : TypeId × Value → H} {W : World} {base : Nat} {spare : Nat → Bool} {held : Bool} {fuel : Nat} {cs : List Value} {x : DataW H × List MemPlace}
    (hf : DataW.trod enc Tryz.prog W base spare held fuel 35 cs = some x) :
    ∃ (op : Int) (now : Bool) (fl : Int) (l : List Nat) (u : Value), cs = [.int .i64 op, .bool now, .int .i64 fl, u] ∧ (-9223372036854775808 ≤ op ∧ op ≤ 9223372036854775807) ∧ (-9223372036854775808 ≤ fl ∧ fl ≤ 9223372036854775807) ∧
      SRd W u 1 l.length (l.map u64V) ∧ (∀ x ∈ l, x < 18446744073709551616) := by
  obtain ⟨xs, n, _, _, hcs, hlen, hfs⟩ := DataW.trod_struct Tryz.underlying35 hf
  have hz : cs.length = 4 := hcs.trans (by kernel_rfl)
  obtain ⟨c0, c1, c2, c3, rfl⟩ : ∃ c0 c1 c2 c3, cs = [c0, c1, c2, c3] := by
    match cs, hz with
    | [a, b, c, d], _ => exact ⟨a, b, c, d, rfl⟩
  obtain ⟨y0, y1, y2, y3, rfl⟩ : ∃ y0 y1 y2 y3, xs = [y0, y1, y2, y3] := by
    match xs, hlen with
    | [a, b, c, d], _ => exact ⟨a, b, c, d, rfl⟩
  have k3 : Tryz.prog.cellsOf 3 = 1 := by kernel_rfl
  have k4 : Tryz.prog.cellsOf 4 = 1 := by kernel_rfl
  have k5 : Tryz.prog.cellsOf 33 = 1 := by kernel_rfl
  have h0 := hfs 0 _ rfl
  have h1 := hfs 1 _ rfl
  have h2 := hfs 2 _ rfl
  have h3 := hfs 3 _ rfl
  obtain ⟨s0, e0, _, w0⟩ := DataW.trod_int Tryz.underlying3 h0
  obtain ⟨s1, e1, _⟩ := DataW.trod_bool Tryz.underlying4 h1
  obtain ⟨s2, e2, _, w2⟩ := DataW.trod_int Tryz.underlying3 h2
  change List.take (Tryz.prog.cellsOf 3) [c0, c1, c2, c3] = _ at e0
  change List.take (Tryz.prog.cellsOf 4) [c1, c2, c3] = _ at e1
  change List.take (Tryz.prog.cellsOf 3) [c2, c3] = _ at e2
  rw [k3] at e0 e2
  rw [k4] at e1
  obtain rfl : c0 = .int .i64 s0 := by simpa using e0
  obtain rfl : c1 = .bool s1 := by simpa using e1
  obtain rfl : c2 = .int .i64 s2 := by simpa using e2
  rcases open_ints Tryz.underlying33 Tryz.underlying120 (by kernel_rfl) h3 with ⟨hc, hx⟩ | ⟨a, len', cap', zs, hc, hb, hl, hmx, hzl, hx, hi, hw⟩
  · change List.take (Tryz.prog.cellsOf 33) [c3] = _ at hc
    rw [k5] at hc
    obtain rfl : c3 = .slice none 0 0 := by simpa using hc
    exact ⟨s0, s1, s2, [], _, rfl, bounds_i64 w0, bounds_i64 w2, ⟨rfl, none, 0, rfl, Nat.le_refl _, by unfold maxLen; omega, fun h => absurd h (Nat.lt_irrefl _)⟩, fun q hq => (List.not_mem_nil hq).elim⟩
  · change List.take (Tryz.prog.cellsOf 33) [c3] = _ at hc
    rw [k5] at hc
    obtain rfl : c3 = .slice (some a) len' cap' := by simpa using hc
    have hlz : len' ≤ zs.length := by rw [hzl]; split <;> omega
    have hlen : ((zs.take len').map Int.toNat).length = len' := by rw [List.length_map, List.length_take]; omega
    refine ⟨s0, s1, s2, (zs.take len').map Int.toNat, _, rfl, bounds_i64 w0, bounds_i64 w2, ⟨by rw [List.length_map]; omega, some a, cap', by rw [hlen], by omega, hmx, fun hpos => ?_⟩, fun x hx => ?_⟩
    · have c00 := hi 0 (by omega)
      have e0 : a.add 0 = a := by simp [Addr.add]
      rw [e0] at c00
      have hsp := World.cell?_spot c00
      obtain ⟨ab, ao, asp⟩ := a
      simp only at hsp
      subst hsp
      refine ⟨ab, ao, rfl, ?_, fun j u hu => ?_⟩
      · simp only [World.cell?] at c00
        by_cases hlt : ab < W.heap.size
        · exact hlt
        · rw [Array.getElem?_eq_none (by omega)] at c00
          simp at c00
      · have hj : j < len' := by
          have := (List.getElem?_eq_some_iff.1 hu).1
          rw [List.length_map, hlen] at this
          exact this
        have hz0 := (u64_wf (hw _ (List.getElem_mem (show j < zs.length by omega)))).1
        rw [← Addr.add_lit, hi j (by omega), ← hu, List.map_map, List.getElem?_map, List.getElem?_take_of_lt hj, List.getElem?_eq_getElem (by omega), List.getD_eq_getElem?_getD, List.getElem?_eq_getElem (by omega)]
        simp only [Option.getD_some, Option.map_some, Function.comp, u64V, Int.toNat_of_nonneg hz0]
    · obtain ⟨z, hz, rfl⟩ := List.mem_map.1 hx
      have := u64_wf (hw z (List.mem_of_mem_take hz))
      omega
set_option maxRecDepth 100000 in
theorem open_pdu {H : Type} {enc : TypeId × Value → H} {W : World} {base : Nat} {spare : Nat → Bool} {held : Bool} {v : Value} {d : DataW H} {p : List MemPlace} {ts : List TypeId} {ds : List (DataW H)} {j : Nat} {b0 : Nat}
    (hv : Value.okWide Tryz.prog W .any b0 38 v) (h : DataW.Trod enc Tryz.prog W base spare held 38 v d p)
    (hsz : (DataW.weightsEach Tryz.prog ts ds).all (· ≤ reachBytes) = true) (ht : ts[j]? = some 38) (hd : ds[j]? = some d) :
    ∃ (op : Int) (now : Bool) (fl : Int) (l : List Nat) (u : Value) (a : AhsL) (ua : Value) (s : ByteArray), v = .agg #[.int .i64 op, .bool now, .int .i64 fl, u, ua, .string s] ∧ (-9223372036854775808 ≤ op ∧ op ≤ 9223372036854775807) ∧ (-9223372036854775808 ≤ fl ∧ fl ≤ 9223372036854775807) ∧
      SRd W u 1 l.length (l.map u64V) ∧ (∀ x ∈ l, x < 18446744073709551616) ∧ SRd W ua 2 a.length (ahsCells a) ∧ (∀ q ∈ a, -9223372036854775808 ≤ q.1 ∧ q.1 ≤ 9223372036854775807) ∧ (∀ q ∈ a, q.2.size ≤ 140737488351232) ∧ s.size ≤ 140737488351232 := by
  obtain ⟨cs, rfl, hcs⟩ := okWide_struct Tryz.underlying38 hv
  obtain ⟨fuel, hf⟩ := h
  obtain ⟨xs, n, _, hx, _, hlen, hfs⟩ := DataW.trod_struct Tryz.underlying38 hf
  have hz : cs.size = 6 := hcs.trans (by kernel_rfl)
  obtain ⟨c0, c1, c2, c3, c4, c5, rfl⟩ : ∃ c0 c1 c2 c3 c4 c5, cs = #[c0, c1, c2, c3, c4, c5] := by
    match cs, hz with
    | ⟨[a, b, c, d, e, f]⟩, _ => exact ⟨a, b, c, d, e, f, rfl⟩
  obtain ⟨y0, y1, y2, rfl⟩ : ∃ y0 y1 y2, xs = [y0, y1, y2] := by
    match xs, hlen with
    | [a, b, c], _ => exact ⟨a, b, c, rfl⟩
  have k1 : Tryz.prog.cellsOf 35 = 4 := by kernel_rfl
  have k2 : Tryz.prog.cellsOf 36 = 1 := by kernel_rfl
  have k3 : Tryz.prog.cellsOf 9 = 1 := by kernel_rfl
  have h0 := hfs 0 _ rfl
  have h1 := hfs 1 _ rfl
  have h2 := hfs 2 _ rfl
  have hd' : d = .agg [y0.1, y1.1, y2.1] := congrArg Prod.fst hx
  rw [hd'] at hd
  have hwt : ∀ n, n ∈ y1.1.weights Tryz.prog 36 ∨ n ∈ y2.1.weights Tryz.prog 9 → n ≤ reachBytes := by
    intro n hn
    refine of_decide_eq_true (List.all_eq_true.1 hsz _ (DataW.weights_mem_each ht hd _ ?_))
    simp only [DataW.weights, Tryz.underlying38]
    simp only [DataW.weightsEach, List.mem_append, List.map_cons, List.map_nil, List.append_nil]
    exact Or.inr hn
  obtain ⟨op, now, fl, l, u, e0, b1, b2, b3, b4⟩ := head_cells h0
  obtain ⟨a, ua, e1, a1, a2, a3⟩ := ahs_cells h1 (fun n hn => hwt n (Or.inl hn))
  obtain ⟨s, e2, x2, _⟩ := DataW.trod_string Tryz.underlying9 h2
  change List.take (Tryz.prog.cellsOf 35) [c0, c1, c2, c3, c4, c5] = _ at e0
  change List.take (Tryz.prog.cellsOf 36) [c4, c5] = _ at e1
  change List.take (Tryz.prog.cellsOf 9) [c5] = _ at e2
  rw [k1] at e0
  rw [k2] at e1
  rw [k3] at e2
  simp only [List.take_succ_cons, List.take_zero, List.cons.injEq, and_true] at e0 e1 e2
  obtain ⟨rfl, rfl, rfl, rfl⟩ := e0
  obtain rfl := e1
  obtain rfl := e2
  refine ⟨op, now, fl, l, c3, a, c4, s, rfl, b1, b2, b3, b4, a1, a2, a3, str_size rfl (hwt _ (Or.inr ?_))⟩
  have x2' : y2.1 = .lit (.string s.data.toList) := by
    have := congrArg Prod.fst x2
    simpa using this
  rw [x2']
  simp [DataW.weights]
end Go.Proofs.YtifniblffjgfkaaGreatDoor
