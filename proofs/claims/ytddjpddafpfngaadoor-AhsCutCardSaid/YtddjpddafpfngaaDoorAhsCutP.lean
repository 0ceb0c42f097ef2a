/- Additional headers that are cut: the plain laws. -/
import Derived.Test.YtddjpddafpfngaaDoorAhsRound
namespace Go.Proofs.YtddjpddafpfngaaDoor
set_option linter.unusedVariables false
theorem split_last {α : Type} (l : List α) : l = [] ∨ ∃ li p, l = li ++ [p] := by
  rcases List.eq_nil_or_concat l with h | ⟨li, p, h⟩
  · exact .inl h
  · exact .inr ⟨li, p, by rw [h]; simp⟩
theorem putB2 (n : Nat) : putB n 2 = [UInt8.ofNat (n / 256), UInt8.ofNat n] := by simp [putB]
theorem readGo_app : ∀ (l : AhsL) (f i : Nat) (t : List UInt8), (∀ p ∈ l, 0 ≤ p.1 ∧ p.1 ≤ 255 ∧ p.2.size ≤ 1020) → (ahsB l ++ t).length < f →
    ∃ f', t.length < f' ∧ readGo f (ahsB l ++ t) i = rdAcc l (readGo f' t (i + (ahsB l).length)) := by
  intro l
  induction l with
  | nil =>
    intro f i t _ hf
    refine ⟨f, by simpa [ahsB] using hf, ?_⟩
    have e : ahsB [] = [] := rfl
    rw [e, List.nil_append, List.length_nil, Nat.add_zero]
    cases readGo f t i <;> rfl
  | cons p l ih =>
    intro f i t hp hf
    obtain ⟨f, rfl⟩ : ∃ f', f = f' + 1 := ⟨f - 1, by omega⟩
    obtain ⟨k, d⟩ := p
    obtain ⟨h0, h1, h2⟩ := hp _ (List.mem_cons_self ..)
    simp only at h0 h1 h2
    have hr : ahsB ((k, d) :: l) = padded (bodyB (k, d)) ++ ahsB l := rfl
    have hbl := bodyB_len (k, d)
    simp only at hbl
    have hpl : (bodyB (k, d)).length ≤ (padded (bodyB (k, d))).length := by simp [padded]
    obtain ⟨u1, u2, u3⟩ := unpad_padded (bodyB (k, d)) (ahsB l ++ t)
    have hp2 := putB2 d.size
    have hb : bodyB (k, d) = UInt8.ofNat (d.size / 256) :: UInt8.ofNat d.size :: UInt8.ofNat k.toNat :: d.data.toList := by
      rw [bodyB, hp2]; rfl
    have hg : getN ((padded (bodyB (k, d)) ++ (ahsB l ++ t)).take 2) = d.size := by
      have e : (padded (bodyB (k, d)) ++ (ahsB l ++ t)).take 2 = putB d.size 2 := by
        rw [hp2, padded, hb]; rfl
      rw [e, putB_get]
      exact Nat.mod_eq_of_lt (by omega)
    rw [hr, List.append_assoc] at hf ⊢
    rw [List.length_append] at hf
    rw [readGo, if_neg (by rw [List.length_append]; omega), if_neg (by rw [List.length_append]; omega), hg]
    have hcast : ((bodyB (k, d)).length : Int) = 3 + (d.size : Int) := by omega
    rw [hcast] at u1 u3
    rw [u1, if_neg (by simp), u3]
    have hdrop : (padded (bodyB (k, d)) ++ (ahsB l ++ t)).drop ((padded (bodyB (k, d))).length : Int).toNat = ahsB l ++ t := by
      rw [Int.toNat_natCast, List.drop_left]
    obtain ⟨f', hf', he⟩ := ih f (i + ((padded (bodyB (k, d))).length : Int).toNat) t (fun q hq => hp q (List.mem_cons_of_mem _ hq)) (by omega)
    refine ⟨f', hf', ?_⟩
    rw [hdrop, he]
    have e1 : (padded (bodyB (k, d)) ++ (ahsB l ++ t)).getD 2 0 = UInt8.ofNat k.toNat := by
      rw [padded, hb]; rfl
    have e2 : ((padded (bodyB (k, d)) ++ (ahsB l ++ t)).take (3 + d.size)).drop 3 = d.data.toList := by
      rw [← hbl, List.take_append_of_le_length hpl, padded, List.take_left, hb]; rfl
    have e3 : ((UInt8.ofNat k.toNat).toNat : Int) = k := by
      simp; omega
    have e4 : i + ((padded (bodyB (k, d))).length : Int).toNat + (ahsB l).length = i + (padded (bodyB (k, d)) ++ ahsB l).length := by
      rw [List.length_append, Int.toNat_natCast]; omega
    rw [e1, e2, e3, e4]
    cases readGo f' t (i + (padded (bodyB (k, d)) ++ ahsB l).length) <;> rfl
theorem readGo_piece (p : Int × ByteArray) (m f i : Nat) (h2 : p.2.size ≤ 1020) (h0 : 0 < m) (hm : m < (ahsB1 p).length) (hf : 0 < f) : readGo f ((ahsB1 p).take m) i = .inl (7, i) := by
  obtain ⟨f, rfl⟩ : ∃ f', f = f' + 1 := ⟨f - 1, by omega⟩
  obtain ⟨k, d⟩ := p
  simp only at h2
  have hl : ((ahsB1 (k, d)).take m).length = m := by rw [List.length_take]; omega
  rw [readGo, hl, if_neg (by omega)]
  by_cases h3 : m < 3
  · rw [if_pos h3]
  · rw [if_neg h3]
    have hp2 := putB2 d.size
    have hb : bodyB (k, d) = UInt8.ofNat (d.size / 256) :: UInt8.ofNat d.size :: UInt8.ofNat k.toNat :: d.data.toList := by
      rw [bodyB, hp2]; rfl
    have ht : ((ahsB1 (k, d)).take m).take 2 = putB d.size 2 := by
      rw [List.take_take, show min 2 m = 2 from by omega, hp2]
      show (padded (bodyB (k, d))).take 2 = _
      rw [padded, hb]; rfl
    have hg : getN (((ahsB1 (k, d)).take m).take 2) = d.size := by
      rw [ht, putB_get]
      exact Nat.mod_eq_of_lt (by omega)
    have hln := ahsB1_len (k, d)
    have hpr := padI_rng (3 + (d.size : Int))
    unfold ahsLen at hln
    simp only at hln
    have hu : unpadE ((ahsB1 (k, d)).take m) (3 + (d.size : Int)) = 7 := by
      unfold unpadE
      rw [hl, if_neg (by omega), if_pos (by omega)]
    rw [hg, hu, if_pos (by decide)]
theorem read_cut (l : AhsL) (p : Int × ByteArray) (m : Nat) (hl : ∀ p ∈ l, 0 ≤ p.1 ∧ p.1 ≤ 255 ∧ p.2.size ≤ 1020) (h2 : p.2.size ≤ 1020) (h0 : 0 < m) (hm : m < (ahsB1 p).length) (hs : (ahsB l).length + m ≤ 1020) :
    readGo 1021 ((ahsB (l ++ [p])).take ((ahsB l).length + m)) 0 = .inl (7, (ahsB l).length) := by
  have e : (ahsB (l ++ [p])).take ((ahsB l).length + m) = ahsB l ++ (ahsB1 p).take m := by
    rw [ahsB_snoc, List.take_append, List.take_of_length_le (by omega)]
    congr 2
    omega
  rw [e]
  obtain ⟨f', hf', he⟩ := readGo_app l 1021 0 ((ahsB1 p).take m) hl (by rw [List.length_append, List.length_take]; omega)
  rw [he, readGo_piece p m f' _ h2 h0 hm (by omega), Nat.zero_add]
  rfl
end Go.Proofs.YtddjpddafpfngaaDoor
