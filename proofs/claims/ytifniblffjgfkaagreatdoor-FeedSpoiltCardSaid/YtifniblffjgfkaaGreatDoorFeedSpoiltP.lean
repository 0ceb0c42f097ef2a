/- Plain laws: a byte of the data turned: its head comes alone. -/
import Derived.Test.YtifniblffjgfkaaGreatDoorFeedBackP
namespace Go.Proofs.YtifniblffjgfkaaGreatDoor
open Go.ChangeShapes Go.WideShapes Go.ChangeAt Go.RowKit
set_option linter.unusedVariables false
theorem val_xor (l : List UInt8) (b : UInt8) (j : Nat) (hj : j < l.length) : valN (l.modify j (· ^^^ b)) = valN l ^^^ (2 ^ (8 * j) * b.toNat) := by
  induction l generalizing j with
  | nil => simp at hj
  | cons c l ih =>
    cases j with
    | zero =>
      rw [List.modify_zero_cons, val_cons, val_cons, UInt8.toNat_xor, Nat.mul_zero, Nat.pow_zero, Nat.one_mul, Nat.xor_assoc, Nat.xor_comm b.toNat, ← Nat.xor_assoc]
    | succ j =>
      rw [List.modify_succ_cons, val_cons, val_cons, ih j (by simpa using hj)]
      have e : 256 * (valN l ^^^ (2 ^ (8 * j) * b.toNat)) = (256 * valN l) ^^^ (2 ^ (8 * (j + 1)) * b.toNat) := by
        have := @Nat.shiftLeft_xor_distrib 8 (valN l) (2 ^ (8 * j) * b.toNat)
        simp only [Nat.shiftLeft_eq, Nat.reducePow] at this
        rw [Nat.mul_comm, this, Nat.mul_comm (valN l), show 8 * (j + 1) = 8 * j + 8 from by omega, Nat.pow_add 2 (8 * j) 8, Nat.mul_assoc, Nat.mul_assoc, Nat.mul_comm b.toNat]
      rw [e, Nat.xor_assoc]
theorem xor_same {x b : UInt8} (h : x ^^^ b = x) : b = 0 := by
  have h1 := congrArg (x ^^^ ·) h
  simp only [← UInt8.xor_assoc, UInt8.xor_self, UInt8.zero_xor] at h1
  exact h1
theorem crc_sees (l : List UInt8) (j : Nat) (b : UInt8) (hj : j < l.length) (hb : b ≠ 0) : digB (crcN (l.modify j (· ^^^ b))) ≠ digB (crcN l) := by
  intro h
  have hc : ∀ x : List UInt8, crcN x < 4294967296 := fun x => by unfold crcN; omega
  have h1 := congrArg valN h
  rw [digB_val _ (hc _), digB_val _ (hc _)] at h1
  have hs : st 4294967295 (l.modify j (· ^^^ b)) = st 4294967295 l := by
    have a1 := st_lt 4294967295 (l.modify j (· ^^^ b)) (by omega)
    have a2 := st_lt 4294967295 l (by omega)
    unfold crcN at h1
    omega
  have hC : Close l (l.modify j (· ^^^ b)) := ⟨by simp, 8 * j, b.toNat, Nat.lt_trans b.toNat_lt (by decide), by omega, val_xor l b j hj⟩
  have he := close_st hC hs
  have hx := congrArg (fun y => y[j]?) he
  simp only [List.getElem?_modify_eq, List.getElem?_eq_getElem hj] at hx
  exact hb (xor_same (Option.some.inj hx))
theorem modify_right (f : UInt8 → UInt8) (b : List UInt8) : ∀ (a : List UInt8) (k : Nat), (a ++ b).modify (a.length + k) f = a ++ b.modify k f
  | [], k => by rw [List.nil_append, List.nil_append, List.length_nil, Nat.zero_add]
  | x :: a, k => by
    rw [List.cons_append, List.length_cons, show a.length + 1 + k = (a.length + k) + 1 from by omega, List.modify_succ_cons, modify_right f b a k, List.cons_append]
theorem modify_left (f : UInt8 → UInt8) (b : List UInt8) : ∀ (a : List UInt8) (k : Nat), k < a.length → (a ++ b).modify k f = a.modify k f ++ b
  | [], k, h => by simp at h
  | x :: a, 0, h => by rw [List.cons_append, List.modify_zero_cons, List.modify_zero_cons, List.cons_append]
  | x :: a, k + 1, h => by
    rw [List.cons_append, List.modify_succ_cons, List.modify_succ_cons, modify_left f b a k (by simpa using h), List.cons_append]
theorem padded_modify (f : UInt8 → UInt8) (l : List UInt8) (j : Nat) (hj : j < l.length) : padded (l.modify j f) = (padded l).modify j f := by
  unfold padded
  rw [List.length_modify, modify_left f _ l j hj]
theorem next_spoilt {r : HeadR} {now : Bool} {F : Nat} {vals : List Nat} {l : AhsL} {d : ByteArray} (h : PduR r now F vals l d) (lim j : Nat) (b : UInt8) (R : List UInt8) (hlim : d.size ≤ lim) (hj : j < d.size) (hb : b ≠ 0) :
    nextP lim false true ((PB r now F vals l d 2).modify (48 + (ahsB l).length + j) (· ^^^ b) ++ R) = .pc { zeroPc with sp := (PB r now F vals l d 2).take 48 } (PB r now F vals l d 2).length := by
  have hall := right_none l 0 0 (by omega) h.ahs
  have hml : (ahsB l).length = sumLen l := ahsB_len l
  have hmod := sumLen_mod l
  have hrd := readGo_ahsB l 1021 0 hall.1 (by omega)
  have h5 := h.size
  obtain ⟨e1, e2, e3, e4, e5, e6, e7⟩ := write_read r now F ((ahsB l).length / 4) d.size vals h.row h.fl (by omega) (by omega) h.lt h.right
  obtain ⟨hh, hhh⟩ : ∃ hh, layAll (headB r.1 now F ((ahsB l).length / 4) d.size) r.2.2.2 vals = hh := ⟨_, rfl⟩
  rw [hhh] at e1 e2 e3 e4 e5 e6 e7
  have hlen := readE_len e1
  obtain ⟨B, hB⟩ : ∃ B, padded d.data.toList = B := ⟨_, rfl⟩
  obtain ⟨H, hH⟩ : ∃ H, digB (crcN B) = H := ⟨_, rfl⟩
  have hPB : PB r now F vals l d 2 = hh ++ (ahsB l ++ (B ++ H)) := by
    unfold PB pduB
    rw [hhh, hB]
    have hd2 : ddM 2 = true := rfl
    have hd1 : hdM 2 = false := rfl
    rw [hd1, hd2, len_of, show decide (0 < d.size) = true from by simp; omega]
    show hh ++ (ahsB l ++ ([] ++ (B ++ digB (crcN B)))) = _
    rw [hH, List.nil_append]
  have hBl : B.length = d.size + padN d.size := by rw [← hB, padded_len, len_of]
  have hHl : H.length = 4 := by rw [← hH]; rfl
  have hdn : dataN hh = d.size := e7
  have hdd : ddN true d.size = 4 := by unfold ddN; rw [show decide (0 < d.size) = true from by simp; omega]; rfl
  have hmo : (PB r now F vals l d 2).modify (48 + (ahsB l).length + j) (· ^^^ b) = hh ++ (ahsB l ++ (B.modify j (· ^^^ b) ++ H)) := by
    rw [hPB, show 48 + (ahsB l).length + j = hh.length + ((ahsB l).length + j) from by omega, modify_right, modify_right, modify_left _ _ _ _ (by omega)]
  have hlm : (hh ++ (ahsB l ++ (B.modify j (· ^^^ b) ++ H))).length = (PB r now F vals l d 2).length := by rw [hPB]; simp
  have hBm : (B.modify j (· ^^^ b)).length = dataN hh + padN (dataN hh) := by rw [List.length_modify, hdn]; exact hBl
  obtain ⟨p1, p2⟩ := prE_parts hh (ahsB l) [] (B.modify j (· ^^^ b)) H R false true hlen (by omega) rfl hBm (by rw [hdn, hdd]; exact hHl)
  obtain ⟨q1, q2⟩ := prE_parts hh (ahsB l) [] (B.modify j (· ^^^ b)) H [] false true hlen (by omega) rfl hBm (by rw [hdn, hdd]; exact hHl)
  simp only [List.nil_append, List.append_nil] at p1 p2 q1 q2
  have hS : (hh ++ (ahsB l ++ (B.modify j (· ^^^ b) ++ H))) ++ R = hh ++ (ahsB l ++ (B.modify j (· ^^^ b) ++ (H ++ R))) := by simp
  have hbody : bodyE hh (ahsB l) [] (B.modify j (· ^^^ b)) H (dataN hh) false true = some 13 := by
    unfold bodyE
    rw [if_neg (by simp), e1, hrd]
    simp only
    have hu : unpadE (B.modify j (· ^^^ b) ++ H) (dataN hh : Nat) = 0 := by
      rw [← hB, ← padded_modify _ _ _ (by rw [len_of]; exact hj), hdn]
      have := unpad_dg (d.data.toList.modify j (· ^^^ b)) H
      rw [List.length_modify, len_of] at this
      exact this
    rw [hu, if_neg (by simp), if_pos ⟨by simp, by omega, by rw [← hH]; exact crc_sees B j b (by omega) hb⟩]
  rw [hmo, ← hlm]
  unfold nextP
  rw [hS, if_neg (by simp; omega), dataN_append _ _ (by omega), hdn, if_neg (by omega), p2, if_neg (by simp), ← hS, List.take_left' rfl, q1, hbody]
  simp only [if_true]
  congr 2
  rw [hPB, List.append_assoc, List.take_left' hlen, List.take_left' hlen]
end Go.Proofs.YtifniblffjgfkaaGreatDoor
