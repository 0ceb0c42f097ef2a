/- What is written of additional headers is read: the plain law. -/
import Derived.Test.YtehellmpghfopaaGreatDoorAhsMore
namespace Go.Proofs.YtehellmpghfopaaGreatDoor
set_option linter.unusedVariables false
def bodyB (p : Int × ByteArray) : List UInt8 := putB p.2.size 2 ++ [UInt8.ofNat p.1.toNat] ++ p.2.data.toList
theorem bodyB_len (p : Int × ByteArray) : (bodyB p).length = 3 + p.2.size := by
  simp only [bodyB, List.length_append, putB_len, List.length_singleton, len_of]
theorem readGo_ahsB : ∀ (l : AhsL) (f i : Nat), (∀ p ∈ l, 0 ≤ p.1 ∧ p.1 ≤ 255 ∧ p.2.size ≤ 1020) → (ahsB l).length < f → readGo f (ahsB l) i = .inr l := by
  intro l
  induction l with
  | nil =>
    intro f i _ hf
    obtain ⟨f, rfl⟩ : ∃ f', f = f' + 1 := ⟨f - 1, by omega⟩
    rfl
  | cons p l ih =>
    intro f i hp hf
    obtain ⟨f, rfl⟩ : ∃ f', f = f' + 1 := ⟨f - 1, by omega⟩
    obtain ⟨k, d⟩ := p
    obtain ⟨h0, h1, h2⟩ := hp _ (List.mem_cons_self ..)
    simp only at h0 h1 h2
    have hr : ahsB ((k, d) :: l) = padded (bodyB (k, d)) ++ ahsB l := rfl
    have hbl := bodyB_len (k, d)
    simp only at hbl
    have hpl : (bodyB (k, d)).length ≤ (padded (bodyB (k, d))).length := by simp [padded]
    obtain ⟨u1, u2, u3⟩ := unpad_padded (bodyB (k, d)) (ahsB l)
    have hp2 : putB d.size 2 = [UInt8.ofNat (d.size / 256), UInt8.ofNat d.size] := by
      simp [putB]
    have hb : bodyB (k, d) = UInt8.ofNat (d.size / 256) :: UInt8.ofNat d.size :: UInt8.ofNat k.toNat :: d.data.toList := by
      rw [bodyB, hp2]; rfl
    have hg : getN ((padded (bodyB (k, d)) ++ ahsB l).take 2) = d.size := by
      have e : (padded (bodyB (k, d)) ++ ahsB l).take 2 = putB d.size 2 := by
        rw [hp2, padded, hb]; rfl
      rw [e, putB_get]
      exact Nat.mod_eq_of_lt (by omega)
    rw [hr] at hf ⊢
    rw [List.length_append] at hf
    rw [readGo, if_neg (by rw [List.length_append]; omega), if_neg (by rw [List.length_append]; omega), hg]
    have hcast : ((bodyB (k, d)).length : Int) = 3 + (d.size : Int) := by omega
    rw [hcast] at u1 u3
    rw [u1, if_neg (by simp), u3]
    have hdrop : (padded (bodyB (k, d)) ++ ahsB l).drop ((padded (bodyB (k, d))).length : Int).toNat = ahsB l := by
      rw [Int.toNat_natCast, List.drop_left]
    rw [hdrop, ih f _ (fun q hq => hp q (List.mem_cons_of_mem _ hq)) (by omega)]
    have e1 : (padded (bodyB (k, d)) ++ ahsB l).getD 2 0 = UInt8.ofNat k.toNat := by
      rw [padded, hb]; rfl
    have e2 : ((padded (bodyB (k, d)) ++ ahsB l).take (3 + d.size)).drop 3 = d.data.toList := by
      rw [← hbl, List.take_append_of_le_length hpl, padded, List.take_left, hb]; rfl
    have e3 : ((UInt8.ofNat k.toNat).toNat : Int) = k := by
      simp; omega
    simp only [e1, e2, e3]
end Go.Proofs.YtehellmpghfopaaGreatDoor
