/- Plain laws of PDUs: what one is as bytes, and what is wrong with bytes. -/
import Derived.Test.YtehellmpghfopaaGreatDoorHeadBackP
import Derived.Test.YtehellmpghfopaaGreatDoorHeadOnlyW
import Derived.Test.YtehellmpghfopaaGreatDoorAhsMore
import Derived.Test.YtehellmpghfopaaGreatDoorAhsRound
import Derived.Test.YtehellmpghfopaaGreatDoorTurnPlain
namespace Go.Proofs.YtehellmpghfopaaGreatDoor
open Go.ChangeShapes Go.WideShapes Go.ChangeAt Go.RowKit
set_option linter.unusedVariables false
def dg4 (b : Bool) (l : List UInt8) : List UInt8 := if b then digB (crcN l) else []
theorem dg4_len (b : Bool) (l : List UInt8) : (dg4 b l).length = if b then 4 else 0 := by cases b <;> rfl
def pduB (hb more data : List UInt8) (hd dd : Bool) : List UInt8 :=
  hb ++ (more ++ (dg4 hd (hb ++ more) ++ (padded data ++ dg4 (dd && decide (0 < data.length)) (padded data))))
def dataN (l : List UInt8) : Nat := rB l 5 * 65536 + rB l 6 * 256 + rB l 7
def padN (n : Nat) : Nat := (padI n).toNat
def hdN (b : Bool) : Nat := if b then 4 else 0
def ddN (b : Bool) (n : Nat) : Nat := if b && decide (0 < n) then 4 else 0
def allN (l : List UInt8) (hd dd : Bool) : Nat := 48 + 4 * rB l 4 + dataN l + padN (dataN l) + hdN hd + ddN dd (dataN l)
def atN (l : List UInt8) (hd : Bool) : Nat := 48 + 4 * rB l 4 + hdN hd
def bodyE (A M G B H : List UInt8) (n : Nat) (hd dd : Bool) : Option Nat :=
  if hd = true ∧ digB (crcN (A ++ M)) ≠ G then some 15 else
  match readE A with
  | some c => some c.1
  | none => match readGo 1021 M 0 with
    | .inl c => some c.1
    | .inr _ => if unpadE (B ++ H) n ≠ 0 then some (unpadE (B ++ H) n) else
      if dd = true ∧ 0 < n ∧ digB (crcN B) ≠ H then some 13 else if 100000 < n then some 4 else none
def prE (l : List UInt8) (hd dd : Bool) : Option Nat :=
  if l.length < 48 then some 7 else if l.length < allN l hd dd then some 7 else
  bodyE (l.take 48) ((l.take (48 + 4 * rB l 4)).drop 48) ((l.drop (48 + 4 * rB l 4)).take (hdN hd)) ((l.drop (atN l hd)).take (dataN l + padN (dataN l))) ((l.take (allN l hd dd)).drop (atN l hd + (dataN l + padN (dataN l)))) (dataN l) hd dd
theorem rB_append (a b : List UInt8) (j : Nat) (h : j < a.length) : rB (a ++ b) j = rB a j := by
  unfold rB
  rw [List.getD_eq_getElem?_getD, List.getD_eq_getElem?_getD, List.getElem?_append_left h]
theorem rB_take (l : List UInt8) (k j : Nat) (h : j < k) : rB (l.take k) j = rB l j := by
  unfold rB
  rw [List.getD_eq_getElem?_getD, List.getD_eq_getElem?_getD, List.getElem?_take_of_lt h]
theorem padded_len (l : List UInt8) : (padded l).length = l.length + padN l.length := by simp [padded, padN]
theorem take_at {a b : List UInt8} {n : Nat} (h : a.length = n) : (a ++ b).take n = a := List.take_left' h
theorem drop_at {a b : List UInt8} {n : Nat} (h : a.length = n) : (a ++ b).drop n = b := List.drop_left' h
theorem take_2 {a b c : List UInt8} {n m : Nat} (h : a.length = n) (k : n + b.length = m) : (a ++ (b ++ c)).take m = a ++ b := by
  rw [← List.append_assoc]; exact take_at (by rw [List.length_append]; omega)
theorem drop_2 {a b c : List UInt8} {n m : Nat} (h : a.length = n) (k : n + b.length = m) : (a ++ (b ++ c)).drop m = c := by
  rw [← List.append_assoc]; exact drop_at (by rw [List.length_append]; omega)
/- bytes in their five parts, and what is behind -/
theorem prE_parts (A M G B H R : List UInt8) (hd dd : Bool) (hA : A.length = 48) (hM : M.length = 4 * rB A 4) (hG : G.length = hdN hd) (hB : B.length = dataN A + padN (dataN A)) (hH : H.length = ddN dd (dataN A)) :
    prE (A ++ (M ++ (G ++ (B ++ (H ++ R))))) hd dd = bodyE A M G B H (dataN A) hd dd ∧ allN (A ++ (M ++ (G ++ (B ++ (H ++ R))))) hd dd = (A ++ (M ++ (G ++ (B ++ H)))).length := by
  have r4 := rB_append A (M ++ (G ++ (B ++ (H ++ R)))) 4 (by omega)
  have r5 := rB_append A (M ++ (G ++ (B ++ (H ++ R)))) 5 (by omega)
  have r6 := rB_append A (M ++ (G ++ (B ++ (H ++ R)))) 6 (by omega)
  have r7 := rB_append A (M ++ (G ++ (B ++ (H ++ R)))) 7 (by omega)
  have hd' : dataN (A ++ (M ++ (G ++ (B ++ (H ++ R))))) = dataN A := by unfold dataN; rw [r5, r6, r7]
  have hall : allN (A ++ (M ++ (G ++ (B ++ (H ++ R))))) hd dd = 48 + 4 * rB A 4 + dataN A + padN (dataN A) + hdN hd + ddN dd (dataN A) := by unfold allN; rw [hd', r4]
  refine ⟨?_, ?_⟩
  · have hl : (A ++ (M ++ (G ++ (B ++ (H ++ R))))).length = 48 + 4 * rB A 4 + dataN A + padN (dataN A) + hdN hd + ddN dd (dataN A) + R.length := by
      simp only [List.length_append]; omega
    have e1 : (A ++ (M ++ (G ++ (B ++ (H ++ R))))).take 48 = A := take_at hA
    have e2 : ((A ++ (M ++ (G ++ (B ++ (H ++ R))))).take (48 + 4 * rB A 4)).drop 48 = M := by
      rw [take_2 hA (by omega)]; exact drop_at hA
    have e3 : (A ++ (M ++ (G ++ (B ++ (H ++ R))))).drop (48 + 4 * rB A 4) = G ++ (B ++ (H ++ R)) := drop_2 hA (by omega)
    have e5 : (A ++ (M ++ (G ++ (B ++ (H ++ R))))).drop (48 + 4 * rB A 4 + hdN hd) = B ++ (H ++ R) := by
      rw [← List.drop_drop, e3]; exact drop_at hG
    have e6 : ((A ++ (M ++ (G ++ (B ++ (H ++ R))))).take (48 + 4 * rB A 4 + dataN A + padN (dataN A) + hdN hd + ddN dd (dataN A))).drop (48 + 4 * rB A 4 + hdN hd + (dataN A + padN (dataN A))) = H := by
      have : A ++ (M ++ (G ++ (B ++ (H ++ R)))) = (A ++ (M ++ (G ++ B))) ++ (H ++ R) := by simp
      rw [this, take_2 (n := 48 + 4 * rB A 4 + hdN hd + (dataN A + padN (dataN A))) (by simp only [List.length_append]; omega) (by omega)]
      exact drop_at (by simp only [List.length_append]; omega)
    unfold prE
    rw [if_neg (by omega), if_neg (by omega)]
    unfold atN
    rw [hall, r4, hd', e1, e2, e3, take_at hG, e5, take_at hB, e6]
  · rw [hall]; simp only [List.length_append]; omega
theorem parts_of (l : List UInt8) (hd dd : Bool) (h0 : 48 ≤ l.length) (h : allN l hd dd ≤ l.length) : ∃ A M G B H R, l = A ++ (M ++ (G ++ (B ++ (H ++ R)))) ∧ A.length = 48 ∧ M.length = 4 * rB A 4 ∧ G.length = hdN hd ∧ B.length = dataN A + padN (dataN A) ∧ H.length = ddN dd (dataN A) := by
  have r4 := rB_take l 48 4 (by omega)
  have r5 := rB_take l 48 5 (by omega)
  have r6 := rB_take l 48 6 (by omega)
  have r7 := rB_take l 48 7 (by omega)
  have hd' : dataN (l.take 48) = dataN l := by unfold dataN; rw [r5, r6, r7]
  unfold allN at h
  refine ⟨l.take 48, (l.drop 48).take (4 * rB l 4), ((l.drop 48).drop (4 * rB l 4)).take (hdN hd), (((l.drop 48).drop (4 * rB l 4)).drop (hdN hd)).take (dataN l + padN (dataN l)), ((((l.drop 48).drop (4 * rB l 4)).drop (hdN hd)).drop (dataN l + padN (dataN l))).take (ddN dd (dataN l)),
    ((((l.drop 48).drop (4 * rB l 4)).drop (hdN hd)).drop (dataN l + padN (dataN l))).drop (ddN dd (dataN l)), ?_, ?_, ?_, ?_, ?_, ?_⟩
  · simp only [List.take_append_drop]
  · rw [List.length_take]; omega
  · rw [r4, List.length_take, List.length_drop]; omega
  · rw [List.length_take, List.length_drop, List.length_drop]; omega
  · rw [hd', List.length_take, List.length_drop, List.length_drop, List.length_drop]; omega
  · rw [hd', List.length_take, List.length_drop, List.length_drop, List.length_drop, List.length_drop]; omega
theorem readE_len {l : List UInt8} (h : readE l = none) : l.length = 48 := by
  unfold readE at h
  split at h
  · cases h
  · omega
theorem unpad_dg (data x : List UInt8) : unpadE (padded data ++ x) (data.length : Nat) = 0 := (unpad_padded data x).1
/- what is written is read -/
theorem pdu_back (hb more data R : List UInt8) (al : AhsL) (hd dd : Bool) (h1 : readE hb = none) (h2 : more.length = 4 * rB hb 4) (h3 : dataN hb = data.length) (h4 : readGo 1021 more 0 = .inr al) (h5 : data.length ≤ 100000) :
    prE (pduB hb more data hd dd ++ R) hd dd = none ∧ allN (pduB hb more data hd dd ++ R) hd dd = (pduB hb more data hd dd).length ∧
    ((pduB hb more data hd dd ++ R).drop (atN (pduB hb more data hd dd ++ R) hd)).take (dataN (pduB hb more data hd dd ++ R) + padN (dataN (pduB hb more data hd dd ++ R))) = padded data := by
  have hA := readE_len h1
  have hpl : (padded data).length = dataN hb + padN (dataN hb) := by rw [padded_len, h3]
  have hgl : (dg4 hd (hb ++ more)).length = hdN hd := by rw [dg4_len]; rfl
  have hhl : (dg4 (dd && decide (0 < data.length)) (padded data)).length = ddN dd (dataN hb) := by rw [dg4_len, h3]; rfl
  have he : pduB hb more data hd dd ++ R = hb ++ (more ++ (dg4 hd (hb ++ more) ++ (padded data ++ (dg4 (dd && decide (0 < data.length)) (padded data) ++ R)))) := by unfold pduB; simp
  obtain ⟨p1, p2⟩ := prE_parts hb more (dg4 hd (hb ++ more)) (padded data) (dg4 (dd && decide (0 < data.length)) (padded data)) R hd dd hA h2 hgl hpl hhl
  rw [he]
  refine ⟨?_, ?_, ?_⟩
  · rw [p1]
    unfold bodyE
    rw [if_neg (by
      rintro ⟨rfl, hn⟩
      exact hn rfl), h1]
    simp only
    rw [h4]
    simp only
    rw [h3, if_neg (by rw [unpad_dg]; simp), if_neg (by
      rintro ⟨rfl, hn, hx⟩
      rw [decide_eq_true hn] at hx
      exact hx rfl), if_neg (by omega)]
  · rw [p2]; unfold pduB; rfl
  · have r4 := rB_append hb (more ++ (dg4 hd (hb ++ more) ++ (padded data ++ (dg4 (dd && decide (0 < data.length)) (padded data) ++ R)))) 4 (by omega)
    have r5 := rB_append hb (more ++ (dg4 hd (hb ++ more) ++ (padded data ++ (dg4 (dd && decide (0 < data.length)) (padded data) ++ R)))) 5 (by omega)
    have r6 := rB_append hb (more ++ (dg4 hd (hb ++ more) ++ (padded data ++ (dg4 (dd && decide (0 < data.length)) (padded data) ++ R)))) 6 (by omega)
    have r7 := rB_append hb (more ++ (dg4 hd (hb ++ more) ++ (padded data ++ (dg4 (dd && decide (0 < data.length)) (padded data) ++ R)))) 7 (by omega)
    have hd' : dataN (hb ++ (more ++ (dg4 hd (hb ++ more) ++ (padded data ++ (dg4 (dd && decide (0 < data.length)) (padded data) ++ R))))) = dataN hb := by unfold dataN; rw [r5, r6, r7]
    unfold atN
    rw [hd', r4, ← List.drop_drop, drop_2 hA (by omega), drop_at hgl, take_at hpl]
/- what is read is written so -/
theorem body_ok {A M G B H : List UInt8} {n : Nat} {hd dd : Bool} (h : bodyE A M G B H n hd dd = none) : (hd = true → digB (crcN (A ++ M)) = G) ∧ readE A = none ∧ (∃ al, readGo 1021 M 0 = .inr al) ∧ unpadE (B ++ H) n = 0 ∧ (dd = true → 0 < n → digB (crcN B) = H) ∧ n ≤ 100000 := by
  unfold bodyE at h
  split at h
  · cases h
  rename_i h1
  split at h
  · cases h
  rename_i h2
  split at h
  · cases h
  rename_i al h3
  split at h
  · cases h
  rename_i h4
  split at h
  · cases h
  rename_i h5
  split at h
  · cases h
  rename_i h6
  refine ⟨fun e => ?_, h2, ⟨al, h3⟩, by omega, fun e e2 => ?_, by omega⟩
  · exact Decidable.byContradiction fun hn => h1 ⟨e, hn⟩
  · exact Decidable.byContradiction fun hn => h5 ⟨e, e2, hn⟩
theorem unpad_body {B H : List UInt8} {n : Nat} (hB : B.length = n + padN n) (h : unpadE (B ++ H) n = 0) : padded (B.take n) = B := by
  have hp := padI_rng n
  unfold unpadE at h
  rw [if_neg (by omega)] at h
  split at h
  · cases h
  split at h
  · rename_i h2
    have e : ((n : Int) + padI n).toNat = B.length := by rw [hB]; unfold padN; omega
    rw [e, Int.toNat_natCast, List.take_append_of_le_length (by omega), List.take_append_of_le_length (Nat.le_refl _), List.take_length] at h2
    exact h2
  · cases h
theorem pdu_only (l : List UInt8) (hd dd : Bool) (h : prE l hd dd = none) : 48 ≤ l.length ∧ allN l hd dd ≤ l.length ∧ 48 ≤ allN l hd dd ∧ ∃ A M B R al, l.take 48 = A ∧ (l.take (48 + 4 * rB l 4)).drop 48 = M ∧ (l.drop (atN l hd)).take (dataN l + padN (dataN l)) = B ∧ l = pduB A M (B.take (dataN l)) hd dd ++ R ∧ readE A = none ∧ readGo 1021 M 0 = .inr al ∧ M.length = 4 * rB A 4 ∧ dataN A = dataN l ∧ (B.take (dataN l)).length = dataN l ∧ dataN l ≤ 100000 ∧
    l.take (allN l hd dd) = pduB A M (B.take (dataN l)) hd dd := by
  have h0 : 48 ≤ l.length := by
    unfold prE at h
    split at h
    · cases h
    · omega
  have h1 : allN l hd dd ≤ l.length := by
    unfold prE at h
    rw [if_neg (by omega)] at h
    split at h
    · cases h
    · omega
  refine ⟨h0, h1, by unfold allN; omega, ?_⟩
  obtain ⟨A, M, G, B, H, R, he, hA, hM, hG, hB, hH⟩ := parts_of l hd dd h0 h1
  obtain ⟨p1, p2⟩ := prE_parts A M G B H R hd dd hA hM hG hB hH
  rw [← he] at p1 p2
  rw [h] at p1
  obtain ⟨b1, b2, ⟨al, b3⟩, b4, b5, b6⟩ := body_ok p1.symm
  have r4 : rB l 4 = rB A 4 := by rw [he]; exact rB_append A _ 4 (by omega)
  have hd' : dataN l = dataN A := by
    unfold dataN
    rw [he, rB_append A _ 5 (by omega), rB_append A _ 6 (by omega), rB_append A _ 7 (by omega)]
  have hpb : padded (B.take (dataN A)) = B := unpad_body hB b4
  have hbl : (B.take (dataN A)).length = dataN A := by rw [List.length_take]; omega
  have hG' : dg4 hd (A ++ M) = G := by
    cases hd
    · exact (List.length_eq_zero_iff.1 hG).symm
    · exact b1 rfl
  have hH' : dg4 (dd && decide (0 < dataN A)) B = H := by
    unfold ddN at hH
    cases hc : (dd && decide (0 < dataN A))
    · rw [hc] at hH
      exact (List.length_eq_zero_iff.1 hH).symm
    · rw [Bool.and_eq_true, decide_eq_true_eq] at hc
      exact b5 hc.1 hc.2
  have hw : pduB A M (B.take (dataN A)) hd dd = A ++ (M ++ (G ++ (B ++ H))) := by
    unfold pduB
    rw [hpb, hbl, hG', hH']
  refine ⟨A, M, B, R, al, ?_, ?_, ?_, ?_, b2, b3, hM, hd'.symm, by rw [hd']; exact hbl, by omega, ?_⟩
  · rw [he]; exact take_at hA
  · rw [r4, he, take_2 hA (by omega)]; exact drop_at hA
  · unfold atN
    rw [hd', r4, he, ← List.drop_drop, drop_2 hA (by omega), drop_at hG, take_at hB]
  · rw [hd', hw, he]; simp
  · rw [p2, hd', hw, he]
    have : A ++ (M ++ (G ++ (B ++ (H ++ R)))) = (A ++ (M ++ (G ++ (B ++ H)))) ++ R := by simp
    rw [this, List.take_left]
/- cut anywhere, bytes are missing -/
theorem pdu_cut (l : List UInt8) (hd dd : Bool) (k : Nat) (hk : k < l.length) (h : allN l hd dd = l.length) : prE (l.take k) hd dd = some 7 := by
  unfold prE
  by_cases h0 : k < 48
  · rw [if_pos (by rw [List.length_take]; omega)]
  · have e : allN (l.take k) hd dd = allN l hd dd := by
      unfold allN dataN
      rw [rB_take l k 4 (by omega), rB_take l k 5 (by omega), rB_take l k 6 (by omega), rB_take l k 7 (by omega)]
    rw [if_neg (by rw [List.length_take]; omega), if_pos (by rw [e, List.length_take]; omega)]
/- bytes that differ within thirty-two bits -/
def Close (a b : List UInt8) : Prop := b.length = a.length ∧ ∃ f w, w < 4294967296 ∧ f ≤ 8 * a.length ∧ valN b = valN a ^^^ (2 ^ f * w)
theorem close_turn (l : List UInt8) (first bits : Nat) (h : first ≤ 8 * l.length) : Close l (turnedL l first bits 32) := by
  obtain ⟨w, hw, hv⟩ := turn_val l first bits 32
  exact ⟨turnedL_len .., first, w, by simpa using hw, h, hv⟩
theorem valN_lt : ∀ l : List UInt8, valN l < 2 ^ (8 * l.length)
  | [] => by simp [valN]
  | c :: l => by
    have := valN_lt l
    have hc := c.toNat_lt
    rw [List.length_cons, show 8 * (l.length + 1) = 8 * l.length + 8 by omega, Nat.pow_add]
    simp only [valN]
    omega
theorem valN_append (a b : List UInt8) : valN (a ++ b) = valN a + 2 ^ (8 * a.length) * valN b := by
  induction a with
  | nil => simp [valN]
  | cons c a ih =>
    rw [List.cons_append, List.length_cons, show 8 * (a.length + 1) = 8 * a.length + 8 by omega, Nat.pow_add]
    simp only [valN]
    rw [ih, Nat.mul_add, ← Nat.mul_assoc, Nat.add_assoc, show (2 : Nat) ^ 8 = 256 from rfl, Nat.mul_comm (2 ^ (8 * a.length)) 256]
theorem valN_mod (a b : List UInt8) : valN (a ++ b) % 2 ^ (8 * a.length) = valN a := by
  rw [valN_append, Nat.add_mul_mod_self_left, Nat.mod_eq_of_lt (valN_lt a)]
theorem valN_div (a b : List UInt8) : valN (a ++ b) / 2 ^ (8 * a.length) = valN b := by
  rw [valN_append, Nat.add_mul_div_left _ _ (Nat.two_pow_pos _), Nat.div_eq_of_lt (valN_lt a), Nat.zero_add]
theorem close_left {a b a' b' : List UInt8} (hl : a'.length = a.length) (h : Close (a ++ b) (a' ++ b')) : Close a a' := by
  obtain ⟨_, f, w, hw, hf, hv⟩ := h
  refine ⟨hl, ?_⟩
  have h1 := congrArg (· % 2 ^ (8 * a.length)) hv
  simp only [Nat.xor_mod_two_pow, valN_mod] at h1
  rw [← hl, valN_mod, hl] at h1
  by_cases hc : f ≤ 8 * a.length
  · refine ⟨f, w % 2 ^ (8 * a.length - f), Nat.lt_of_le_of_lt (Nat.mod_le _ _) hw, hc, ?_⟩
    rw [h1]
    congr 1
    conv => lhs; rw [show 8 * a.length = f + (8 * a.length - f) by omega, Nat.pow_add]
    exact Nat.mul_mod_mul_left _ _ _
  · refine ⟨0, 0, by omega, by omega, ?_⟩
    rw [h1]
    congr 1
    rw [show f = 8 * a.length + (f - 8 * a.length) by omega, Nat.pow_add, Nat.mul_assoc, Nat.mul_mod_right]
theorem close_right {a b a' b' : List UInt8} (hl : a'.length = a.length) (h : Close (a ++ b) (a' ++ b')) : Close b b' := by
  obtain ⟨hl2, f, w, hw, hf, hv⟩ := h
  rw [List.length_append, List.length_append] at hl2
  refine ⟨by omega, ?_⟩
  have h1 := congrArg (· / 2 ^ (8 * a.length)) hv
  simp only [Nat.xor_div_two_pow, valN_div] at h1
  rw [← hl, valN_div, hl] at h1
  rw [List.length_append] at hf
  by_cases hc : f ≤ 8 * a.length
  · refine ⟨0, w / 2 ^ (8 * a.length - f), Nat.lt_of_le_of_lt (Nat.div_le_self _ _) hw, by omega, ?_⟩
    rw [h1]
    congr 1
    rw [Nat.pow_zero, Nat.one_mul]
    conv => lhs; rw [show 8 * a.length = f + (8 * a.length - f) by omega, Nat.pow_add]
    exact Nat.mul_div_mul_left _ _ (Nat.two_pow_pos _)
  · refine ⟨f - 8 * a.length, w, hw, by omega, ?_⟩
    rw [h1]
    congr 1
    conv => lhs; rw [show f = 8 * a.length + (f - 8 * a.length) by omega, Nat.pow_add, Nat.mul_assoc]
    exact Nat.mul_div_cancel_left _ (Nat.two_pow_pos _)
theorem close_st {a b : List UInt8} {n : Nat} (h : Close a b) (hs : st n b = st n a) : b = a := by
  obtain ⟨hl, f, w, hw, hf, hv⟩ := h
  rw [st_val, st_val, hl, hv, ← Nat.xor_assoc, fk_xor] at hs
  have h2 : fk (8 * a.length) (2 ^ f * w) = 0 := by
    have := congrArg (fk (8 * a.length) (n ^^^ valN a) ^^^ ·) hs
    simpa [xor_self_left, Nat.xor_self] using this
  rw [show 8 * a.length = f + (8 * a.length - f) from by omega, fk_add, fk_pow] at h2
  have hz := fk_eq_zero _ w hw h2
  apply val_inj _ _ hl
  rw [hv, hz]
  simp
theorem close_dig {P D P' D' : List UInt8} (hl : P'.length = P.length) (h4 : D.length = 4) (h4' : D'.length = 4) (h : Close (P ++ D) (P' ++ D')) (hd : digB (crcN P) = D) (hd' : digB (crcN P') = D') : P' ++ D' = P ++ D :=
  close_st h ((digest_ok P' D' h4').1 hd' |>.trans ((digest_ok P D h4).1 hd).symm)
theorem pdu_turned (l t : List UInt8) (hc : Close l t) (h8 : (t.drop 4).take 4 = (l.drop 4).take 4) (hl : prE l true true = none) (ha : allN l true true = l.length) (ht : prE t true true = none) : t = l := by
  have hlen := hc.1
  have g : ∀ j, 4 ≤ j → j < 8 → rB t j = rB l j := by
    intro j h1 h2
    have := congrArg (fun x => x[j - 4]?) h8
    simp only [List.getElem?_take_of_lt (show j - 4 < 4 by omega), List.getElem?_drop] at this
    rw [show 4 + (j - 4) = j by omega] at this
    unfold rB
    rw [List.getD_eq_getElem?_getD, List.getD_eq_getElem?_getD, this]
  have r4 := g 4 (by omega) (by omega)
  have r5 := g 5 (by omega) (by omega)
  have r6 := g 6 (by omega) (by omega)
  have r7 := g 7 (by omega) (by omega)
  have hd : dataN t = dataN l := by unfold dataN; rw [r5, r6, r7]
  have hat : allN t true true = l.length := by rw [← ha]; unfold allN; rw [r4, hd]
  obtain ⟨h0, _, _, _⟩ := pdu_only l true true hl
  obtain ⟨A, M, G, B, H, R, he, hA, hM, hG, hB, hH⟩ := parts_of l true true h0 (by omega)
  obtain ⟨A', M', G', B', H', R', he', hA', hM', hG', hB', hH'⟩ := parts_of t true true (by omega) (by omega)
  obtain ⟨p1, p2⟩ := prE_parts A M G B H R true true hA hM hG hB hH
  obtain ⟨q1, q2⟩ := prE_parts A' M' G' B' H' R' true true hA' hM' hG' hB' hH'
  rw [← he] at p1 p2
  rw [← he'] at q1 q2
  rw [hl] at p1
  rw [ht] at q1
  obtain ⟨b1, _, _, _, b5, _⟩ := body_ok p1.symm
  obtain ⟨c1, _, _, _, c5, _⟩ := body_ok q1.symm
  have rA : rB A' 4 = rB A 4 := by
    rw [he, he', rB_append A _ 4 (by omega), rB_append A' _ 4 (by omega)] at r4
    exact r4
  have dA : dataN A' = dataN A := by
    have e1 : dataN l = dataN A := by
      unfold dataN
      rw [he, rB_append A _ 5 (by omega), rB_append A _ 6 (by omega), rB_append A _ 7 (by omega)]
    have e2 : dataN t = dataN A' := by
      unfold dataN
      rw [he', rB_append A' _ 5 (by omega), rB_append A' _ 6 (by omega), rB_append A' _ 7 (by omega)]
    omega
  have hR : R = [] := by
    have := congrArg List.length he
    simp only [List.length_append] at this p2
    exact List.length_eq_zero_iff.1 (by omega)
  have hR' : R' = [] := by
    have := congrArg List.length he'
    simp only [List.length_append] at this q2
    exact List.length_eq_zero_iff.1 (by omega)
  rw [dA] at hB' hH'
  rw [rA] at hM'
  have hG4 : G.length = 4 := hG
  have hG4' : G'.length = 4 := hG'
  have f1 : l = ((A ++ M) ++ G) ++ (B ++ H) := by rw [he, hR]; simp
  have f2 : t = ((A' ++ M') ++ G') ++ (B' ++ H') := by rw [he', hR']; simp
  have hc2 := hc
  rw [f1, f2] at hc2
  have hll : ((A' ++ M') ++ G').length = ((A ++ M) ++ G).length := by simp only [List.length_append]; omega
  have k1 := close_dig (by simp only [List.length_append]; omega) hG4 hG4' (close_left hll hc2) (b1 rfl) (c1 rfl)
  have k2 : B' ++ H' = B ++ H := by
    by_cases hn : 0 < dataN A
    · have hH4 : H.length = 4 := by rw [hH]; simp [ddN, hn]
      have hH4' : H'.length = 4 := by rw [hH']; simp [ddN, hn]
      exact close_dig (by omega) hH4 hH4' (close_right hll hc2) (b5 rfl hn) (c5 rfl (by omega))
    · have hn : dataN A = 0 := by omega
      rw [hn] at hB hB' hH hH'
      have z1 : B = [] := List.length_eq_zero_iff.1 hB
      have z2 : B' = [] := List.length_eq_zero_iff.1 hB'
      have z3 : H = [] := List.length_eq_zero_iff.1 hH
      have z4 : H' = [] := List.length_eq_zero_iff.1 hH'
      rw [z1, z2, z3, z4]
  rw [f1, f2, k1, k2]
end Go.Proofs.YtehellmpghfopaaGreatDoor
