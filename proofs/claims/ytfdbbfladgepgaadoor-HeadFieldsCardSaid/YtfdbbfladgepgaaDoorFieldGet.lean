/- The contract of field.Get: the number that at most eight bytes are. -/
import Derived.Test.YtfdbbfladgepgaaDoorBase
namespace Go.Proofs.YtfdbbfladgepgaaDoor
open Go.ChangeShapes Go.WideShapes Go.ChangeAt Go.RowKit
set_option linter.unusedVariables false

def getN (l : List UInt8) : Nat := l.foldl (fun n c => n * 256 + c.toNat) 0
theorem getN_lt (l : List UInt8) : getN l < 256 ^ l.length := by
  have h : ∀ (l : List UInt8) (a : Nat) (k : Nat), a < 256 ^ k → l.foldl (fun n c => n * 256 + c.toNat) a < 256 ^ (k + l.length) := by
    intro l
    induction l with
    | nil => intro a k h; simpa using h
    | cons c l ih =>
      intro a k h
      simp only [List.foldl_cons, List.length_cons]
      have := ih (a * 256 + c.toNat) (k + 1) (by have := c.toNat_lt; rw [Nat.pow_succ]; omega)
      rwa [Nat.add_right_comm, Nat.add_assoc] at this
  have := h l 0 0 (by simp)
  rwa [Nat.zero_add] at this
theorem getN_snoc (l : List UInt8) (c : UInt8) : getN (l ++ [c]) = getN l * 256 + c.toNat := by simp [getN, List.foldl_append]
theorem get_any (s : ByteArray) (w : World) (hs : s.size ≤ 8) : Calls Tryd.prog 16 #[.string s] w fun e w' => e = .returned (.tuple #[.int .u64 (getN s.data.toList), .nilIface]) ∧ w = w' := by
  go_enter Tryd.func16, Tryd.ntmps16
  go_wp2
  go_loop [4, 12] (fun n i => ∃ k : Nat, k ≤ s.size ∧ i = .int .i64 k ∧ n = .int .u64 (getN (s.data.toList.take k))) (fun _ i => s.size - (intOf i).toNat)
  case atStart => exact ⟨0, Nat.zero_le _, rfl, rfl⟩
  case round =>
    obtain ⟨k, hk, rfl, rfl⟩ := hrel
    have hl := getN_lt (s.data.toList.take k)
    by_cases hlt : k < s.size
    · have hb : getN (s.data.toList.take k) * 256 + s[k].toNat < 18446744073709551616 := by
        have h1 : (256 : Nat) ^ (List.take k s.data.toList).length ≤ 256 ^ 7 := Nat.pow_le_pow_right (by omega) (by rw [List.length_take, len_of]; omega)
        have h2 := s[k].toNat_lt
        omega
      clear hl
      go_wp2
      go_round
      case rel => exact ⟨k + 1, by omega, by go_num, by rw [or256_u64 _ _ s[k].toNat_lt hb, take_snoc_s s k hlt, getN_snoc]⟩
      case measure => simp [intOf]; omega
    · go_wp2
      go_ret2
      refine ⟨?_, rfl⟩
      have : k = s.size := by omega
      subst this
      simp [take_all]
theorem get_long (s : ByteArray) (w : World) (hs : 8 < s.size) : Calls Tryd.prog 16 #[.string s] w fun e w' => e = .returned (.tuple #[.int .u64 0, errv 4]) ∧ w = w' := by
  go_enter Tryd.func16, Tryd.ntmps16
  go_wp2
  go_ret2
  exact ⟨rfl, rfl⟩
end Go.Proofs.YtfdbbfladgepgaaDoor
