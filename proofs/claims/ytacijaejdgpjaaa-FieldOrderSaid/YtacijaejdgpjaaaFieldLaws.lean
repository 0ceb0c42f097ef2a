/- The walks of the laws FieldOrder and FieldPad: they return true, whatever their arguments. -/
import Derived.Test.YtacijaejdgpjaaaFieldFact
namespace Go.Proofs.Ytacijaejdgpjaaa
open Go.ChangeShapes Go.WideShapes Go.ChangeAt Go.RowKit
set_option linter.unusedVariables false
theorem orderField (a b : Int) (w : World) (hA : 0 ≤ a ∧ a ≤ 18446744073709551615) (hB : 0 ≤ b ∧ b ≤ 18446744073709551615) :
    Calls Try.prog 8 #[.int .u64 a, .int .u64 b] w fun e w' => e = .returned (.bool true) ∧ Below w.heap.size w w' := by
  obtain ⟨ha, ha1⟩ := hA
  obtain ⟨hb, hb1⟩ := hB
  have ha2 : a < 18446744073709551616 := Int.lt_of_le_of_lt ha1 (by decide)
  have hb2 : b < 18446744073709551616 := Int.lt_of_le_of_lt hb1 (by decide)
  clear ha1 hb1
  have big : (2 : Nat) ^ (8 * 8) = 18446744073709551616 := by decide
  have f1 : Op.bytesLess (putB a.toNat 8) (putB b.toNat 8) = decide (a < b) := by
    rw [putB_less, big, Nat.mod_eq_of_lt (by omega), Nat.mod_eq_of_lt (by omega), decide_eq_decide]; omega
  have f2 : (putB a.toNat 8 == putB b.toNat 8) = (a == b) := by
    rw [putB_inj, big, Nat.mod_eq_of_lt (by omega), Nat.mod_eq_of_lt (by omega), Bool.eq_iff_iff, decide_eq_true_eq, beq_iff_eq]; omega
  have c1 : a < 2 ^ (8 * Int.toNat 8) := ha2
  have c2 : b < 2 ^ (8 * Int.toNat 8) := hb2
  have C := Lib.hid (And.intro (And.intro ha ha2) (And.intro hb hb2))
  have C1 := Lib.hid c1
  have C2 := Lib.hid c2
  clear ha ha2 hb hb2 c1 c2 big
  go_enter Try.func8, Try.ntmps8
  go_wp2_with (first | (go_at_call 21; refine (put_fact _).mono ?_; rintro e w1 ⟨rfl, hb1⟩) | fail)
  refine (put_ok _ _ _ (by decide) (by decide) C.out.1.1 C1.out C.out.1.2).mono ?_
  rintro e w2 ⟨rfl, hb2⟩
  go_wp2_with fail
  refine (put_ok _ _ _ (by decide) (by decide) C.out.2.1 C2.out C.out.2.2).mono ?_
  rintro e w3 ⟨rfl, hb3⟩
  go_wp2_with fail
  go_ret
  exact ⟨rfl, (hb1.trans (hb2.mono hb1.size)).trans (hb3.mono (Nat.le_trans hb1.size hb2.size))⟩
theorem unpad_padded (l m : List UInt8) : unpadE (padded l ++ m) l.length = 0 ∧ unpadS (padded l ++ m) l.length = l ∧ unpadN (padded l ++ m) l.length = (padded l).length := by
  have hp := padI_rng l.length
  have g1 : (padded l).length = l.length + (padI l.length).toNat := by simp [padded]
  have e : unpadE (padded l ++ m) l.length = 0 := by
    unfold unpadE
    rw [if_neg (by omega), if_neg (by rw [List.length_append, g1]; omega), if_pos]
    have h1 : ((l.length : Int) + padI l.length).toNat = (padded l).length := by omega
    have h2 : (padded l ++ m).take l.length = l := by
      unfold padded
      rw [List.append_assoc, List.take_append_of_le_length (Nat.le_refl _), List.take_length]
    rw [Int.toNat_natCast, h2, h1, List.take_append_of_le_length (Nat.le_refl _), List.take_length]
  refine ⟨e, ?_, ?_⟩
  · rw [unpadS, if_pos e, Int.toNat_natCast]
    unfold padded
    rw [List.append_assoc, List.take_append_of_le_length (Nat.le_refl _), List.take_length]
  · rw [unpadN, if_pos e, g1]; omega
theorem padField (s m : ByteArray) (w : World) (hs : s.size ≤ 140737488351232) (hm : m.size ≤ 140737488351232) :
    Calls Try.prog 9 #[.string s, .string m] w fun e w' => e = .returned (.bool true) ∧ Below w.heap.size w w' := by
  have hp := padI_rng s.size
  have g1 : (padded s.data.toList).length = s.size + (padI s.size).toNat := by simp [padded]
  have g2 : ((s.size : Int) + padI s.size) % 4 = 0 := by unfold padI; split <;> omega
  have g3 : padI (padded s.data.toList).length = 0 := by rw [g1]; unfold padI; split <;> omega
  have g4 : padded (padded s.data.toList) = padded s.data.toList := by rw [padded, g3]; simp
  have g5 := unpad_padded s.data.toList m.data.toList
  rw [len_of] at g5
  by_cases hl : 300 < s.size + m.size
  · go_enter Try.func9, Try.ntmps9
    go_wp2_with (first | (go_at_call 21; refine (put_fact _).mono ?_; rintro e w1 ⟨rfl, hb1⟩) | fail)
    go_ret
    exact ⟨rfl, hb1⟩
  · obtain ⟨g5, g6, g7⟩ := g5
    have e0 := errv0
    have g8 : (padded s.data.toList).length ≤ 310 := by omega
    have g9 : (((padded s.data.toList).length : Int) == s.size + padI s.size) = true := by rw [beq_iff_eq]; omega
    have g10 : (((padded s.data.toList).length : Int) % 4 == 0) = true := by rw [beq_iff_eq]; omega
    have g11 : 0 ≤ padI s.size := hp.1
    have g12 : padI s.size ≤ 3 := hp.2
    clear g1 g2 hp
    go_enter Try.func9, Try.ntmps9
    go_wp2_with (first | (go_at_call 21; refine (put_fact _).mono ?_; rintro e w1 ⟨rfl, hb1⟩) | (go_at_call 23; refine (pad_any _ _).mono ?_; rintro e w' ⟨rfl, rfl⟩) | (go_at_call 24; refine (padded_any _ _ (by first | omega | (simp; omega))).mono ?_; rintro e w' ⟨rfl, rfl⟩) | (go_at_call 25; refine (unpad_any _ _ _ (by first | omega | (simp; omega)) (by omega)).mono ?_; rintro e w2 ⟨rfl, k, rfl⟩) | fail)
    go_ret
    exact ⟨rfl, below_drewN hb1 _⟩
end Go.Proofs.Ytacijaejdgpjaaa
