/- A byte of a head of noughts turned: which heads are read: the plain law. -/
import Derived.Test.YtdllecgjeiepfaaDoorHeadFlagsW
import Derived.Test.YtdllecgjeiepfaaDoorHeadBackP
namespace Go.Proofs.YtdllecgjeiepfaaDoor
open Go.ChangeShapes Go.WideShapes Go.ChangeAt Go.RowKit
set_option linter.unusedVariables false
theorem rangeGo_fit : ∀ (fs : FieldL) (vs : List Nat) (i : Nat), (∀ (k : Nat) (f : List UInt8 × Nat × Nat) (v : Nat), fs[k]? = some f → vs[k]? = some v → v < 2 ^ (8 * f.2.2)) → rangeGo fs vs i = none
  | [], vs, i, _ => by cases vs <;> rfl
  | f :: fs, [], i, _ => rfl
  | f :: fs, v :: vs, i, h => by
    have h0 := h 0 f v rfl rfl
    rw [rangeGo, if_neg (fun hh => hh.2 (Nat.div_eq_of_lt h0))]
    exact rangeGo_fit fs vs (i + 1) fun k g x hg hx => h (k + 1) g x hg hx
theorem offM_nil (m : Nat) : offM 0 m = false := by
  unfold offM
  have : bits .andNot .i64 0 (m : Int) = 0 := by
    show IntKind.i64.wrap ((BitVec.ofInt 64 0 &&& ~~~ BitVec.ofInt 64 (m : Int)).toNat : Int) = 0
    simp
    rfl
  rw [this]; rfl
def freeAt (fs : FieldL) (j : Nat) : Bool := fs.any fun f => inF f j
theorem zero_lay : ∀ r ∈ headT, layAll (headB r.1 false 0 0 0) r.2.2.2 (List.replicate r.2.2.2.length 0) = headB r.1 false 0 0 0 := by decide +kernel
theorem headB_at (k words data : Nat) (b : List UInt8) (hb : b.length = 48) (hw : words = rB b 4) (hd : data = rB b 5 * 65536 + rB b 6 * 256 + rB b 7) (j : Nat) (hj : j < 48) :
    (headB k false 0 words data)[j]? = if 4 ≤ j ∧ j < 8 then b[j]? else (headB k false 0 0 0)[j]? := by
  have h5 := rB_lt b 5
  have h6 := rB_lt b 6
  have h7 := rB_lt b 7
  have g : ∀ i, i < 48 → b[i]? = some (UInt8.ofNat (rB b i)) := by
    intro i hi
    rw [rB, List.getD_eq_getElem?_getD, List.getElem?_eq_getElem (by omega)]
    simp
  by_cases h : 4 ≤ j ∧ j < 8
  · rw [if_pos h]
    obtain rfl | rfl | rfl | rfl : j = 4 ∨ j = 5 ∨ j = 6 ∨ j = 7 := by omega
    · rw [g 4 (by omega), hw]; rfl
    · rw [g 5 (by omega)]
      show some (UInt8.ofNat (data / 65536)) = _
      congr 1
      apply UInt8.toNat_inj.1
      rw [UInt8.toNat_ofNat', UInt8.toNat_ofNat', hd]
      omega
    · rw [g 6 (by omega)]
      show some (UInt8.ofNat (data / 256)) = _
      congr 1
      apply UInt8.toNat_inj.1
      rw [UInt8.toNat_ofNat', UInt8.toNat_ofNat', hd]
      omega
    · rw [g 7 (by omega)]
      show some (UInt8.ofNat data) = _
      congr 1
      apply UInt8.toNat_inj.1
      rw [UInt8.toNat_ofNat', UInt8.toNat_ofNat', hd]
      omega
  · rw [if_neg h]
    match j with
    | 0 => rfl
    | 1 => rfl
    | 2 => rfl
    | 3 => rfl
    | 4 => exact absurd ⟨by omega, by omega⟩ h
    | 5 => exact absurd ⟨by omega, by omega⟩ h
    | 6 => exact absurd ⟨by omega, by omega⟩ h
    | 7 => exact absurd ⟨by omega, by omega⟩ h
    | j + 8 => rfl
theorem headB_nil (k j : Nat) (hj : 8 ≤ j ∨ (2 ≤ j ∧ j < 4)) (h48 : j < 48) : (headB k false 0 0 0)[j]? = some 0 := by
  match j with
  | 0 => omega
  | 1 => omega
  | 2 => rfl
  | 3 => rfl
  | 4 => omega
  | 5 => omega
  | 6 => omega
  | 7 => omega
  | j + 8 =>
    show (List.replicate 40 (0 : UInt8))[j]? = _
    rw [List.getElem?_replicate, if_pos (by omega)]
theorem zero_turned (r : HeadR) (hr : r ∈ headT) (hrow : headRow (r.1 : Int) = some r) (at_ : Nat) (c : UInt8) (h2 : 2 ≤ at_) (h48 : at_ < 48) :
    readE ((headB r.1 false 0 0 0).set at_ c) = none ↔ ((4 ≤ at_ ∧ at_ < 8) ∨ freeAt r.2.2.2 at_ = true ∨ c = 0) := by
  obtain ⟨b, hb⟩ : ∃ b, (headB r.1 false 0 0 0).set at_ c = b := ⟨_, rfl⟩
  have hz : b.length = 48 := by rw [← hb, List.length_set]; rfl
  have hat : ∀ j, j < 48 → b[j]? = if j = at_ then some c else (headB r.1 false 0 0 0)[j]? := by
    intro j hj
    rw [← hb, List.getElem?_set]
    by_cases h : at_ = j
    · rw [if_pos h, if_pos h.symm, if_pos (by rw [h]; exact hj)]
    · rw [if_neg h, if_neg (fun e => h e.symm)]
  have hsm := headT_small r hr
  have b0 : rB b 0 = r.1 := by
    rw [rB, List.getD_eq_getElem?_getD, hat 0 (by omega), if_neg (by omega)]
    show (UInt8.ofNat (r.1 + 0)).toNat = r.1
    rw [UInt8.toNat_ofNat']; exact Nat.mod_eq_of_lt (by omega)
  have b1 : rB b 1 = 0 := by
    rw [rB, List.getD_eq_getElem?_getD, hat 1 (by omega), if_neg (by omega)]
    rfl
  have hV : rightR (r.1 : Int) false 0 (readV r.2.2.2 b) = none := by
    rw [rightR, hrow]
    have hbad : badR r (r.1 : Int) false 0 = false := by unfold badR; rw [offM_nil]; simp
    simp only [hbad]
    rw [if_neg (by decide), if_neg (fun h => h (readV_len _ _).symm)]
    exact rangeGo_fit _ _ _ fun k f v hf hv => readV_lt _ _ k f v hf hv
  have hE : readE b = if layAll (headB r.1 false 0 (rB b 4) (rB b 5 * 65536 + rB b 6 * 256 + rB b 7)) r.2.2.2 (readV r.2.2.2 b) = b then none else some (3, none) := by
    rw [readE, if_neg (fun h => h hz), if_neg (by rw [b0]; omega), b0, Nat.mod_eq_of_lt (by omega), hrow]
    simp only
    rw [b1, decide_eq_false (by omega)]
    simp only [Int.natCast_zero]
    first | rw [hV] | (rw [show ((0 : Nat) : Int) = 0 from rfl, hV])
  have hok := headT_ok r hr
  obtain ⟨h, hh⟩ : ∃ h, headB r.1 false 0 (rB b 4) (rB b 5 * 65536 + rB b 6 * 256 + rB b 7) = h := ⟨_, rfl⟩
  have hhz : h.length = 48 := by rw [← hh]; rfl
  have hhj : ∀ j, j < 48 → h[j]? = if 4 ≤ j ∧ j < 8 then b[j]? else (headB r.1 false 0 0 0)[j]? := fun j hj => by rw [← hh]; exact headB_at r.1 _ _ b hz rfl rfl j hj
  have hL := layAll_len r.2.2.2 (readV r.2.2.2 b) h hok hhz
  rw [hh] at hE
  have hin : ∀ j, freeAt r.2.2.2 j = true → (layAll h r.2.2.2 (readV r.2.2.2 b))[j]? = b[j]? := by
    intro j hj
    obtain ⟨f, hf, hfj⟩ := List.any_eq_true.1 hj
    exact readV_only r.2.2.2 b h hok hz hhz j f hf hfj
  have hout : ∀ j, freeAt r.2.2.2 j = false → (layAll h r.2.2.2 (readV r.2.2.2 b))[j]? = h[j]? := by
    intro j hj
    refine layAll_out r.2.2.2 (readV r.2.2.2 b) h j hok hhz fun f hf => ?_
    have := List.any_eq_false.1 hj f hf
    simpa using this
  have hn : readE b = none ↔ layAll h r.2.2.2 (readV r.2.2.2 b) = b := by
    rw [hE]
    by_cases hq : layAll h r.2.2.2 (readV r.2.2.2 b) = b
    · rw [if_pos hq]; exact ⟨fun _ => hq, fun _ => rfl⟩
    · rw [if_neg hq]; exact ⟨(fun e => by cases e), fun e => absurd e hq⟩
  rw [hb, hn]
  constructor
  · intro he
    by_cases h4 : 4 ≤ at_ ∧ at_ < 8
    · exact .inl h4
    · right
      by_cases hf : freeAt r.2.2.2 at_ = true
      · exact .inl hf
      · right
        have hf : freeAt r.2.2.2 at_ = false := by simpa using hf
        have e1 := hout at_ hf
        rw [he, hat at_ h48, if_pos rfl, hhj at_ h48, if_neg h4, headB_nil r.1 at_ (by omega) h48] at e1
        exact Option.some.inj e1
  · intro hc
    apply List.ext_getElem?
    intro j
    by_cases hj : j < 48
    · by_cases hf : freeAt r.2.2.2 j = true
      · exact hin j hf
      · have hf : freeAt r.2.2.2 j = false := by simpa using hf
        rw [hout j hf, hhj j hj]
        by_cases h4 : 4 ≤ j ∧ j < 8
        · rw [if_pos h4]
        · rw [if_neg h4, hat j hj]
          by_cases hja : j = at_
          · rw [if_pos hja]
            subst hja
            rcases hc with hc | hc | hc
            · exact absurd hc h4
            · rw [hf] at hc; cases hc
            · rw [hc]; exact headB_nil r.1 j (by omega) hj
          · rw [if_neg hja]
    · rw [List.getElem?_eq_none (by omega), List.getElem?_eq_none (by omega)]
end Go.Proofs.YtdllecgjeiepfaaDoor
