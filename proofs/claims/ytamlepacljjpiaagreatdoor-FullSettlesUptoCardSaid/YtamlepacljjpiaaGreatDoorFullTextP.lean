/- Plain laws on texts that a session is asked with. -/
import Derived.Test.YtamlepacljjpiaaGreatDoorGfd
import Derived.Test.YtamlepacljjpiaaGreatDoorGff
import Derived.Test.YtamlepacljjpiaaGreatDoorFullCountP
namespace Go.Proofs.YtamlepacljjpiaaGreatDoor
set_option linter.unusedVariables false
set_option linter.unusedSimpArgs false
def textP (fl : Int) (tag : Nat) (s : ByteArray) : PD := ⟨4, true, fl, [0, 1, tag, 0, 0], [], s⟩
theorem text_wrong {X : FP} {fl : Int} {tag : Nat} {s : ByteArray} (hc : X.closed = false) (hf : fl = 0 ∨ fl = 64 ∨ fl = 128 ∨ fl = 192) (ht : tag < 4294967296) (hs : s.size ≤ 100000) : wrongP X (textP fl tag s) = none := by
  have h : ∀ n : Nat, (n = 0 ∨ n = 64 ∨ n = 128 ∨ n = 192) → rightR 4 true (n : Nat) [0, 1, tag, 0, 0] = none := fun n hn => right4 hn (by decide) ht (by decide) (by decide)
  rcases hf with rfl | rfl | rfl | rfl
  · exact wrong_ok hc (h 0 (by simp)) rfl hs
  · exact wrong_ok hc (h 64 (by simp)) rfl hs
  · exact wrong_ok hc (h 128 (by simp)) rfl hs
  · exact wrong_ok hc (h 192 (by simp)) rfl hs
theorem text_take {X : FP} {fl : Int} {tag : Nat} {s : ByteArray} (hw : wrongP X (textP fl tag s) = none) : takeP X (textP fl tag s) = ([(askP X (textP fl tag s) (headS (textP fl tag s))).1], (askP X (textP fl tag s) (headS (textP fl tag s))).2) := by
  have hk : ¬ known (textP fl tag s).op = false := by show ¬ known 4 = false; decide
  have hn : (textP fl tag s).now = true := rfl
  have h0 : ¬ (textP fl tag s).op = 0 := by show ¬ (4 : Int) = 0; decide
  have h6 : ¬ (textP fl tag s).op = 6 := by show ¬ (4 : Int) = 6; decide
  unfold takeP
  rw [hw]
  show stepP X _ _ = _
  unfold stepP
  rw [if_neg hk, if_pos hn]
  unfold doP
  rw [if_neg h0, if_neg h6]
theorem ask_add {X : FP} {fl : Int} {s h : ByteArray} : askP X (textP fl noneN s) h = addPF X (textP fl noneN s) h := by
  unfold askP
  exact if_pos rfl
theorem text_more {X : FP} {s h : ByteArray} (hz : X.txt.size + s.size ≤ 8192) : askP X (textP 64 noneN s) h = (txtA X 0 1 noneN ⟨#[]⟩, { X.up with pcs := [], txt := X.txt ++ s }) := by
  have h1 : ¬ 8192 < X.txt.size + (textP 64 noneN s).data.size := by show ¬ 8192 < X.txt.size + s.size; omega
  have h2 : moreB (textP 64 noneN s).fl = true := by show moreB 64 = true; decide
  have h3 : ¬ lastB (textP 64 noneN s).fl = true := by show ¬ lastB 64 = true; decide
  rw [ask_add]
  unfold addPF
  rw [if_neg h1, if_pos h2, if_neg h3]
  rfl
theorem text_bad {X : FP} {s h : ByteArray} {E : Nat × Option Nat} (hz : X.txt.size + s.size ≤ 8192) (hE : parseGo ((X.txt ++ s).size + 1) (X.txt ++ s).data.toList 0 = .inl E) : askP X (textP 128 noneN s) h = (rejA X 4 h, { X.up with pcs := [], txt := ⟨#[]⟩ }) := by
  have h1 : ¬ 8192 < X.txt.size + (textP 128 noneN s).data.size := by show ¬ 8192 < X.txt.size + s.size; omega
  have h2 : ¬ moreB (textP 128 noneN s).fl = true := by show ¬ moreB 128 = true; decide
  have hE' : parseGo ((X.txt ++ (textP 128 noneN s).data).size + 1) (X.txt ++ (textP 128 noneN s).data).data.toList 0 = .inl E := hE
  rw [ask_add]
  unfold addPF
  rw [if_neg h1, if_neg h2, hE']
theorem text_end {X : FP} {s h : ByteArray} {l : PairL} (hz : X.txt.size + s.size ≤ 8192) (hE : parseGo ((X.txt ++ s).size + 1) (X.txt ++ s).data.toList 0 = .inr l) : askP X (textP 128 noneN s) h = saysP { X with pcs := [], txt := ⟨#[]⟩ } l 1 h := by
  have h1 : ¬ 8192 < X.txt.size + (textP 128 noneN s).data.size := by show ¬ 8192 < X.txt.size + s.size; omega
  have h2 : ¬ moreB (textP 128 noneN s).fl = true := by show ¬ moreB 128 = true; decide
  have h3 : ¬ lastB (textP 128 noneN s).fl = false := by show ¬ lastB 128 = false; decide
  have hE' : parseGo ((X.txt ++ (textP 128 noneN s).data).size + 1) (X.txt ++ (textP 128 noneN s).data).data.toList 0 = .inr l := hE
  rw [ask_add]
  unfold addPF
  rw [if_neg h1, if_neg h2, hE']
  exact if_neg h3
/- sessions that differ in their numbers alone -/
theorem says_like (X : FP) (s c : Nat) (l : PairL) (i : Nat) (h h' : ByteArray) : (saysP X l i h).1.op = (saysP { X with stat := s, cmd := c } l i h').1.op ∧ ((saysP X l i h).1.op = 63 ∨ ((saysP X l i h).1.data = (saysP { X with stat := s, cmd := c } l i h').1.data ∧ (saysP X l i h).1.fl = (saysP { X with stat := s, cmd := c } l i h').1.fl)) ∧ (saysP X l i h).2.rc = (saysP { X with stat := s, cmd := c } l i h').2.rc := by
  have e : saidS { X with stat := s, cmd := c } l = saidS X l := rfl
  unfold saysP
  rw [e]
  dsimp only
  rcases h1 : ansE X.rc (restL l) false with _ | E
  · simp only [h1]
    rcases h2 : pRightR (saidS X l ++ saidL X.own false X.disc (restL l)) with _ | E
    · simp only [h2]
      exact ⟨by first | rfl | trivial, .inr ⟨by first | rfl | trivial, by first | rfl | trivial⟩, by first | rfl | trivial⟩
    · simp only [h2]
      exact ⟨by first | rfl | trivial, .inl (by first | rfl | trivial), by first | rfl | trivial⟩
  · simp only [h1]
    exact ⟨by first | rfl | trivial, .inl (by first | rfl | trivial), by first | rfl | trivial⟩
theorem parts_like (X : FP) (hc : X.closed = false) (ht : X.txt = ⟨#[]⟩) (s a b : ByteArray) (hab : a ++ b = s) (hs : s.size ≤ 1500) :
    ∃ q1 q2 Y1 Y2 Z, takeP X (textP 128 noneN s) = ([q1], Y1) ∧ takeP X (textP 64 noneN a) = ([txtA X 0 1 noneN ⟨#[]⟩], Z) ∧ takeP Z (textP 128 noneN b) = ([q2], Y2) ∧ q1.op = q2.op ∧ (q1.op = 63 ∨ (q1.data = q2.data ∧ q1.fl = q2.fl)) ∧ Y1.rc = Y2.rc := by
  have hsz : a.size + b.size = s.size := by rw [← hab, ByteArray.size_append]
  have e0 : (⟨#[]⟩ : ByteArray).size = 0 := rfl
  have e1 : (⟨#[]⟩ : ByteArray) ++ a = a := ByteArray.empty_append
  have e2 : (⟨#[]⟩ : ByteArray) ++ s = s := ByteArray.empty_append
  obtain ⟨Z, hZ⟩ : ∃ Z : FP, { X.up with pcs := [], txt := a } = Z := ⟨_, rfl⟩
  have hZc : Z.closed = false := by rw [← hZ]; exact hc
  have hZt : Z.txt = a := by rw [← hZ]
  have k1 := text_take (text_wrong (X := X) (fl := 128) (tag := noneN) (s := s) hc (by simp) (by decide) (by omega))
  have k2 := text_take (text_wrong (X := X) (fl := 64) (tag := noneN) (s := a) hc (by simp) (by decide) (by omega))
  have k3 := text_take (text_wrong (X := Z) (fl := 128) (tag := noneN) (s := b) hZc (by simp) (by decide) (by omega))
  have m2 : takeP X (textP 64 noneN a) = ([txtA X 0 1 noneN ⟨#[]⟩], Z) := by
    refine k2.trans ?_
    rw [show askP X (textP 64 noneN a) (headS (textP 64 noneN a)) = _ from text_more (X := X) (s := a) (by rw [ht, e0]; omega), ht, e1, hZ]
  rcases hP : parseGo (s.size + 1) s.data.toList 0 with E | l
  · have m1 : takeP X (textP 128 noneN s) = ([rejA X 4 (headS (textP 128 noneN s))], { X.up with pcs := [], txt := ⟨#[]⟩ }) := by
      refine k1.trans ?_
      rw [show askP X (textP 128 noneN s) (headS (textP 128 noneN s)) = _ from text_bad (X := X) (s := s) (E := E) (by rw [ht, e0]; omega) (by rw [ht, e2]; exact hP)]
    have m3 : takeP Z (textP 128 noneN b) = ([rejA Z 4 (headS (textP 128 noneN b))], { Z.up with pcs := [], txt := ⟨#[]⟩ }) := by
      refine k3.trans ?_
      rw [show askP Z (textP 128 noneN b) (headS (textP 128 noneN b)) = _ from text_bad (X := Z) (s := b) (E := E) (by rw [hZt]; omega) (by rw [hZt, hab]; exact hP)]
    exact ⟨_, _, _, _, Z, m1, m2, m3, rfl, .inl rfl, by rw [← hZ]; rfl⟩
  · have m1 : takeP X (textP 128 noneN s) = ([(saysP { X with pcs := [], txt := ⟨#[]⟩ } l 1 (headS (textP 128 noneN s))).1], (saysP { X with pcs := [], txt := ⟨#[]⟩ } l 1 (headS (textP 128 noneN s))).2) := by
      refine k1.trans ?_
      rw [show askP X (textP 128 noneN s) (headS (textP 128 noneN s)) = _ from text_end (X := X) (s := s) (l := l) (by rw [ht, e0]; omega) (by rw [ht, e2]; exact hP)]
      all_goals rfl
    have m3 : takeP Z (textP 128 noneN b) = ([(saysP { Z with pcs := [], txt := ⟨#[]⟩ } l 1 (headS (textP 128 noneN b))).1], (saysP { Z with pcs := [], txt := ⟨#[]⟩ } l 1 (headS (textP 128 noneN b))).2) := by
      refine k3.trans ?_
      rw [show askP Z (textP 128 noneN b) (headS (textP 128 noneN b)) = _ from text_end (X := Z) (s := b) (l := l) (by rw [hZt]; omega) (by rw [hZt, hab]; exact hP)]
      all_goals rfl
    have hZX : { Z with pcs := [], txt := ⟨#[]⟩ } = ({ ({ X with pcs := [], txt := ⟨#[]⟩ } : FP) with stat := Z.stat, cmd := Z.cmd } : FP) := by rw [← hZ]; rfl
    have hl := says_like { X with pcs := [], txt := ⟨#[]⟩ } Z.stat Z.cmd l 1 (headS (textP 128 noneN s)) (headS (textP 128 noneN b))
    rw [← hZX] at hl
    exact ⟨_, _, _, _, Z, m1, m2, m3, hl.1, hl.2.1, hl.2.2⟩
/- a text of pairs -/
theorem text_pairs (X : FP) (hc : X.closed = false) (ht : X.txt = ⟨#[]⟩) (l : PairL) (s : ByteArray) (hs : s = ba (pairsB l)) (hr : rightP l) (hl : l.length ≤ 60) (hz : s.size ≤ 8192) : wrongP X (textP 128 noneN s) = none ∧
    takeP X (textP 128 noneN s) = ([(saysP { X with pcs := [], txt := ⟨#[]⟩ } l 1 (headS (textP 128 noneN s))).1], (saysP { X with pcs := [], txt := ⟨#[]⟩ } l 1 (headS (textP 128 noneN s))).2) := by
  have e0 : (⟨#[]⟩ : ByteArray).size = 0 := rfl
  have e2 : (⟨#[]⟩ : ByteArray) ++ s = s := ByteArray.empty_append
  have hw := text_wrong (X := X) (fl := 128) (tag := noneN) (s := s) hc (by simp) (by decide) (by omega)
  refine ⟨hw, (text_take hw).trans ?_⟩
  have hP : parseGo ((X.txt ++ s).size + 1) (X.txt ++ s).data.toList 0 = .inr l := by
    rw [ht, e2, hs]
    have e3 : (ba (pairsB l)).size = (pairsB l).length := size_mkl _
    rw [e3]
    exact parse_pairsB l _ hr hl (Nat.lt_succ_self _)
  rw [show askP X (textP 128 noneN s) (headS (textP 128 noneN s)) = _ from text_end (X := X) (s := s) (l := l) (by rw [ht, e0]; omega) hP]
  all_goals rfl
/- what is told of how much may be sent at once -/
theorem ba_pair (k v : ByteArray) : ba (pairsB [(k, v)]) = k ++ ⟨#[61]⟩ ++ v ++ ⟨#[0]⟩ := by
  have : ∀ x : ByteArray, ba x.data.toList = x := ba_of
  rw [← this (k ++ ⟨#[61]⟩ ++ v ++ ⟨#[0]⟩)]
  congr 1
  simp [pairsB, pairB]
set_option maxRecDepth 100000 in
theorem told_all : ∀ k : Fin 2000, ansP [] false false (mrB, ba (dgs (512 + k.val))) = ([], dgs (512 + k.val)) ∧ keyB mrB.data.toList = true ∧ valB (dgs (512 + k.val)) = true := by decide +kernel
theorem told_ans (n : Nat) (h0 : 512 ≤ n) (h1 : n < 2512) : ansP [] false false (mrB, ba (dgs n)) = ([], dgs n) ∧ keyB mrB.data.toList = true ∧ valB (dgs n) = true := by
  have := told_all ⟨n - 512, by omega⟩
  simp only at this
  rw [show 512 + (n - 512) = n by omega] at this
  exact this
theorem own_add (rc : PairL) (k : ByteArray) (v : List UInt8) (hv : v ≠ []) : ownL (addB rc k v) k = v := by
  unfold addB
  rw [if_neg hv]
  unfold ownL
  rw [findB_app]
  have h1 : findB (rc.filter fun q => decide (kB q ≠ k.data.toList)) k = none := findB_none.2 fun q hq => by
    have := (List.mem_filter.1 hq).2
    simpa using this
  rw [h1]
  show (match (if k.data.toList = k.data.toList then some (ba v) else findB [] k) with | some v => v.data.toList | none => dflOf k.data.toList) = v
  rw [if_pos rfl]
  exact ba_list v
theorem most_told (rc : PairL) (n : Nat) (h0 : 512 ≤ n) (h1 : n ≤ 20000) : mostN (addB rc mrB (dgs n)) = n := by
  unfold mostN
  rw [own_add rc mrB (dgs n) (dgs_ne n (by omega)), numP_dgs n (by omega)]
  exact if_neg (by omega)
theorem told_says (X : FP) (n : Nat) (h0 : 512 ≤ n) (h1 : n < 2512) (ho : X.own = []) (hd : X.disc = false) (h : ByteArray) : saysP X [(mrB, ba (dgs n))] 1 h = (txtA X 128 1 noneN ⟨#[]⟩, { X.up with rc := addB X.rc mrB (dgs n), pcs := [] }) := by
  obtain ⟨ha, hk, hv⟩ := told_ans n h0 h1
  have e1 : restL [(mrB, ba (dgs n))] = [(mrB, ba (dgs n))] := by
    have : isST (mrB, ba (dgs n)) = false := by show decide (mrB = stB) = false; decide
    unfold restL
    rw [List.filter_cons, this]
    rfl
  have e2 : saidS X [(mrB, ba (dgs n))] = [] := by
    have : isST (mrB, ba (dgs n)) = false := by show decide (mrB = stB) = false; decide
    unfold saidS
    rw [List.filter_cons, this]
    rfl
  have hr : rightP [(mrB, ba (dgs n))] := fun p hp => by rw [List.mem_singleton.1 hp]; exact ⟨hk, hv⟩
  have e3 : ansE X.rc [(mrB, ba (dgs n))] false = none := (ansE_none _ _ _).2 ⟨by simp, hr, (fun h => by cases h), by simp [KD]⟩
  have e4 : saidL X.own false X.disc [(mrB, ba (dgs n))] = [] := by
    rw [ho, hd]
    show saidP [] false false (mrB, ba (dgs n)) ++ [] = []
    unfold saidP
    rw [ha]
    rfl
  have e5 : recL X.own false X.disc X.rc [(mrB, ba (dgs n))] = addB X.rc mrB (dgs n) := by
    rw [ho, hd]
    show recL [] false false (addB X.rc mrB (ansP [] false false (mrB, ba (dgs n))).2) [] = _
    rw [ha]
    rfl
  have hm := most_told X.rc n h0 (by omega)
  have e6 : cntN (ba (pairsB [])) n = 1 := by
    show max 1 ((0 + n - 1) / n) = 1
    have : (0 + n - 1) / n = 0 := Nat.div_eq_of_lt (by omega)
    omega
  have e7 : piecesN (ba (pairsB [])) n 1 = [⟨#[]⟩] := by
    show [(⟨#[]⟩ : ByteArray).extract (0 * n) ((0 + 1) * n)] = [⟨#[]⟩]
    have : (⟨#[]⟩ : ByteArray).extract (0 * n) ((0 + 1) * n) = ⟨#[]⟩ := by
      apply ByteArray.ext
      apply Array.ext'
      simp
    rw [this]
  unfold saysP
  rw [e1, e2, e3, e4, e5]
  have e8 : pRightR ([] ++ []) = none := rfl
  dsimp only
  rw [e8]
  show pieceP { X with rc := addB X.rc mrB (dgs n), pcs := piecesN (ba (pairsB [])) (mostN (addB X.rc mrB (dgs n))) (cntN (ba (pairsB [])) (mostN (addB X.rc mrB (dgs n)))) } 1 = _
  rw [hm, e6, e7]
  rfl
end Go.Proofs.YtamlepacljjpiaaGreatDoor
