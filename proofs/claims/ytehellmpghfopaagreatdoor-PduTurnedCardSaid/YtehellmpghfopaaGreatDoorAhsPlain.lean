/- Plain laws of additional headers as bytes. -/
import Derived.Test.YtehellmpghfopaaGreatDoorAhs
import Derived.Test.YtehellmpghfopaaGreatDoorFieldPlain
namespace Go.Proofs.YtehellmpghfopaaGreatDoor
set_option linter.unusedVariables false
def ahsB1 (p : Int × ByteArray) : List UInt8 := padded (putB p.2.size 2 ++ [UInt8.ofNat p.1.toNat] ++ p.2.data.toList)
def ahsB (l : AhsL) : List UInt8 := l.flatMap ahsB1
theorem ahsB1_len (p : Int × ByteArray) : (ahsB1 p).length = ahsLen p.2 := by
  have e : (putB p.2.size 2 ++ [UInt8.ofNat p.1.toNat] ++ p.2.data.toList).length = 3 + p.2.size := by
    simp only [List.length_append, putB_len, List.length_singleton, len_of]
  unfold ahsB1 padded ahsLen
  rw [List.length_append, List.length_replicate, e]
  congr 2
theorem ahsB_len (l : AhsL) : (ahsB l).length = sumLen l := by
  induction l with
  | nil => rfl
  | cons p l ih =>
    show (ahsB1 p ++ ahsB l).length = _
    rw [List.length_append, ih, ahsB1_len]
    rfl
theorem ahsB_snoc (l : AhsL) (p : Int × ByteArray) : ahsB (l ++ [p]) = ahsB l ++ ahsB1 p := by simp [ahsB]
theorem sumLen_cons (p : Int × ByteArray) (l : AhsL) : sumLen (p :: l) = ahsLen p.2 + sumLen l := rfl
theorem sumLen_append (a b : AhsL) : sumLen (a ++ b) = sumLen a + sumLen b := by simp [sumLen]
theorem right_none (l : AhsL) : ∀ n i, n ≤ 1020 → rightGo l n i = none → (∀ p ∈ l, 0 ≤ p.1 ∧ p.1 ≤ 255 ∧ p.2.size ≤ 1020) ∧ n + sumLen l ≤ 1020 := by
  induction l with
  | nil => intro n i hn _; exact ⟨fun p hp => (List.not_mem_nil hp).elim, by simpa [sumLen] using hn⟩
  | cons p l ih =>
    intro n i hn h
    obtain ⟨k, d⟩ := p
    rw [rightGo] at h
    split at h
    · cases h
    · split at h
      · cases h
      · rename_i h1 h2
        obtain ⟨h3, h4⟩ := ih _ _ (by omega) h
        refine ⟨fun p hp => ?_, by rw [sumLen_cons]; simp only; omega⟩
        rcases List.mem_cons.1 hp with rfl | hp
        · simp only; omega
        · exact h3 p hp
theorem right_some_iff (l : AhsL) : ∀ n i, n ≤ 1020 → (∀ p ∈ l, 0 ≤ p.1 ∧ p.1 ≤ 255) → n + sumLen l ≤ 1020 → rightGo l n i = none := by
  induction l with
  | nil => intro n i _ _ _; rfl
  | cons p l ih =>
    intro n i hn hk hs
    obtain ⟨k, d⟩ := p
    have h1 := hk (k, d) (by simp)
    rw [sumLen_cons] at hs
    simp only at h1 hs
    have h2 : d.size ≤ ahsLen d := by unfold ahsLen; omega
    rw [rightGo, if_neg (by omega), if_neg (by omega)]
    exact ih _ _ (by omega) (fun p hp => hk p (by simp [hp])) (by omega)
theorem sumLen_take (l : AhsL) (k : Nat) : sumLen (l.take k) ≤ sumLen l := by
  have := sumLen_append (l.take k) (l.drop k)
  rw [List.take_append_drop] at this
  omega
theorem ahsLen_mod (d : ByteArray) : ahsLen d % 4 = 0 := by
  unfold ahsLen padI
  split <;> omega
theorem sumLen_mod (l : AhsL) : sumLen l % 4 = 0 := by
  induction l with
  | nil => rfl
  | cons p l ih => rw [sumLen_cons]; have := ahsLen_mod p.2; omega
end Go.Proofs.YtehellmpghfopaaGreatDoor
