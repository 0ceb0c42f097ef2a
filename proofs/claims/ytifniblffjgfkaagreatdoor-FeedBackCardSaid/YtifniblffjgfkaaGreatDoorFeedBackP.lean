/- Plain laws: what is written comes, one behind the other. -/
import Derived.Test.YtifniblffjgfkaaGreatDoorFeedP
import Derived.Test.YtifniblffjgfkaaGreatDoorGpdub
namespace Go.Proofs.YtifniblffjgfkaaGreatDoor
open Go.ChangeShapes Go.WideShapes Go.ChangeAt Go.RowKit
set_option linter.unusedVariables false
structure PduR (r : HeadR) (now : Bool) (F : Nat) (vals : List Nat) (l : AhsL) (d : ByteArray) : Prop where
  row : headRow (r.1 : Int) = some r
  fl : F < 256
  lt : ∀ x ∈ vals, x < 18446744073709551616
  right : rightR (r.1 : Int) now F vals = none
  ahs : rightGo l 0 0 = none
  size : d.size ≤ 100000
def pcOf (r : HeadR) (now : Bool) (F : Nat) (vals : List Nat) (l : AhsL) (d : ByteArray) : Pc := ⟨r.1, now, F, vals, l, d.data.toList, []⟩
theorem pdu_data {r : HeadR} {now : Bool} {F : Nat} {vals : List Nat} {l : AhsL} {d : ByteArray} (h : PduR r now F vals l d) (k : Nat) (R : List UInt8) : dataN (PB r now F vals l d k ++ R) = d.size := by
  have hall := right_none l 0 0 (by omega) h.ahs
  have hml : (ahsB l).length = sumLen l := ahsB_len l
  have h5 := h.size
  obtain ⟨e1, e2, e3, e4, e5, e6, e7⟩ := write_read r now F ((ahsB l).length / 4) d.size vals h.row h.fl (by omega) (by omega) h.lt h.right
  have hlen := readE_len e1
  unfold PB pduB
  rw [List.append_assoc, dataN_append _ _ (by omega)]
  exact e7
theorem next_back {r : HeadR} {now : Bool} {F : Nat} {vals : List Nat} {l : AhsL} {d : ByteArray} (h : PduR r now F vals l d) (lim k : Nat) (R : List UInt8) (hlim : d.size ≤ lim) :
    nextP lim (hdM k) (ddM k) (PB r now F vals l d k ++ R) = .pc (pcOf r now F vals l d) (PB r now F vals l d k).length := by
  obtain ⟨X, hX, p1, p2, p3, p4, p5, p6, p7, p8, p9⟩ := pdu_parts r now F vals l d.data.toList [] (hdM k) (ddM k) h.row h.fl h.lt h.right h.ahs (by rw [len_of]; exact h.size)
  rw [List.append_nil, len_of] at hX
  rw [len_of] at p2
  have hX2 : X = PB r now F vals l d k := hX
  clear hX
  subst hX2
  have hall : allN (PB r now F vals l d k ++ R) (hdM k) (ddM k) = (PB r now F vals l d k).length := by rw [allN_append _ _ _ _ p9]; exact p2
  unfold nextP
  rw [if_neg (by rw [List.length_append]; omega), pdu_data h k R, if_neg (by omega), hall, if_neg (by rw [List.length_append]; omega), List.take_left' rfl, p1]
  simp only
  congr 1
  unfold okPc pcOf
  rw [p3, h.row, p7]
  simp only [p4, p5, p6, p8]
theorem all_back {r : HeadR} {now : Bool} {F : Nat} {vals : List Nat} {l : AhsL} {d : ByteArray} (h : PduR r now F vals l d) (lim k : Nat) (R : List UInt8) (hlim : d.size ≤ lim) :
    allF lim (hdM k) (ddM k) (PB r now F vals l d k ++ R) = (pcOf r now F vals l d :: (allF lim (hdM k) (ddM k) R).1, (allF lim (hdM k) (ddM k) R).2.1, (allF lim (hdM k) (ddM k) R).2.2) := by
  rw [allF_pc (next_back h lim k R hlim), List.drop_left' rfl]
/- a part of what comes to no error comes to none -/
theorem allF_part (limit : Nat) (hd dd : Bool) (a b : List UInt8) (h : (allF limit hd dd (a ++ b)).2.1 = 0) : (allF limit hd dd a).2.1 = 0 := by
  by_cases h0 : (allF limit hd dd a).2.1 = 0
  · exact h0
  · rw [(allF_cut limit hd dd a.length a b (Nat.le_refl _)).2 h0] at h
    exact absurd h h0
/- a PDU that is not whole is not there yet -/
theorem next_part {r : HeadR} {now : Bool} {F : Nat} {vals : List Nat} {l : AhsL} {d : ByteArray} (h : PduR r now F vals l d) (lim k j : Nat) (hlim : d.size ≤ lim) (hj : j < (PB r now F vals l d k).length) :
    nextP lim (hdM k) (ddM k) ((PB r now F vals l d k).take j) = .no := by
  have hb := next_back h lim k [] hlim
  rw [List.append_nil] at hb
  rcases hn : nextP lim (hdM k) (ddM k) ((PB r now F vals l d k).take j) with _ | c | ⟨p, n⟩
  · rfl
  · have := nextP_append (b := (PB r now F vals l d k).drop j) (limit := lim) (hd := hdM k) (dd := ddM k) (a := (PB r now F vals l d k).take j) (by rw [hn]; intro h; cases h)
    rw [List.take_append_drop, hb, hn] at this
    cases this
  · have := nextP_append (b := (PB r now F vals l d k).drop j) (limit := lim) (hd := hdM k) (dd := ddM k) (a := (PB r now F vals l d k).take j) (by rw [hn]; intro h; cases h)
    rw [List.take_append_drop, hb, hn] at this
    injection this with _ hn2
    have := (nextP_pc hn).2.1
    rw [List.length_take] at this
    omega
theorem nil_cat (s : ByteArray) : (⟨#[]⟩ : ByteArray) ++ s = s := by
  rw [cat_of]
  exact (str_of s).symm
end Go.Proofs.YtifniblffjgfkaaGreatDoor
