/- A number as the law writes it; picks. -/
import Derived.Test.YtamlepacljjpiaaGreatDoorKeysW1
import Derived.Lib.ItoaLen
namespace Go.Proofs.YtamlepacljjpiaaGreatDoor
open Go.ChangeShapes Go.WideShapes Go.ChangeAt Go.RowKit Go.Shelf
set_option linter.unusedVariables false
set_option linter.unusedSimpArgs false
theorem pickK (a : Int) (n : Nat) (k : Nat) (hk : pickI a n = k) (hn : 0 < n) (hn2 : n < 9223372036854775808) (w : World) : Calls Tryz.prog 23 #[.int .i64 a, .int .i64 n] w fun e w' => e = .returned (.int .i64 k) ∧ w = w' := by
  rw [← hk]
  exact pick_any a n w (by omega) (by omega)
theorem pickE (a : Int) (n : Nat) (hn : 0 < n) : ∃ k : Nat, pickI a n = k ∧ k < n := by
  have h := pick_rng a n (by omega)
  exact ⟨(pickI a n).toNat, by omega, by omega⟩
/- a number as the law writes it -/
theorem dec_big {n : Nat} (h : ¬ n < 10) : Lib.decDigits n = Lib.decDigits (n / 10) ++ Lib.decDigits (n % 10) := by
  rw [Lib.decDigits.eq_1 n, dif_neg h, Lib.decDigits_one (i := n % 10) (by omega)]
set_option maxRecDepth 20000 in
theorem numberS (n : Nat) (h9 : n < 10) (w : World) : Calls Tryz.prog 26 #[.int .i64 n] w fun e w' => e = .returned (.string ⟨(Lib.decDigits n).toArray⟩) ∧ Below w.heap.size w w' := by
  obtain ⟨B, hB⟩ : ∃ B : Int, ((48 + n : Nat) : Int) = B := ⟨_, rfl⟩
  have hcv : (convert 115 9 (.slice (some ⟨w.heap.size, 0, none⟩) 1 1)).run Tryz.prog (w.alloc (.cells #[.int .u8 B] 5)) = .ok (.string ⟨#[UInt8.ofNat (48 + n)]⟩) (w.alloc (.cells #[.int .u8 B] 5)) := lit_string w [UInt8.ofNat (48 + n)] #[.int .u8 B] (by rw [← hB]; simp [byteV]; omega) (by simp [maxLen])
  have hB1 : (48 : Int) + (n : Int) = B := by omega
  have hB2 : IntKind.u8.wrap B = B := by rw [IntKind.wrap_u8]; omega
  have HB1 := Lib.hid hB1
  rw [Lib.decDigits_one h9]
  have h9' : ¬ (9 : Int) < n := by omega
  have hn2 : (n : Int) ≤ 9 := by omega
  clear hB
  go_enter Tryz.func26, Tryz.ntmps26
  go_wp2_with fail
  go_ret
  exact ⟨rfl, (Below.refl _ _).alloc (Nat.le_refl _) _⟩
set_option maxRecDepth 20000 in
theorem numberG : ∀ (m n : Nat), n ≤ m → n < 1099511627776 → ∀ w : World, Calls Tryz.prog 26 #[.int .i64 n] w fun e w' => e = .returned (.string ⟨(Lib.decDigits n).toArray⟩) ∧ Below w.heap.size w w'
  | 0, n, hm, hn, w => numberS n (by omega) w
  | m + 1, n, hm, hn, w => by
    by_cases h9 : n < 10
    · exact numberS n h9 w
    · have e1 : ((n : Int) / 10) = ((n / 10 : Nat) : Int) := by omega
      have e2 : ((n : Int) % 10) = ((n % 10 : Nat) : Int) := by omega
      have E1 := Lib.hid e1
      have E2 := Lib.hid e2
      have h9' : (9 : Int) < n := by omega
      have hn2 : (n : Int) ≤ 1099511627775 := by omega
      obtain ⟨X, hX⟩ : ∃ X : ByteArray, (⟨(Lib.decDigits (n / 10)).toArray⟩ : ByteArray) = X := ⟨_, rfl⟩
      obtain ⟨Y, hY⟩ : ∃ X : ByteArray, (⟨(Lib.decDigits (n % 10)).toArray⟩ : ByteArray) = X := ⟨_, rfl⟩
      have hXz : X.size ≤ 20 := by rw [← hX, size_mkl, Lib.decDigits_length]; exact Lib.nDigits_le20 _ (by omega)
      have hYz : Y.size ≤ 20 := by rw [← hY, size_mkl, Lib.decDigits_length]; exact Lib.nDigits_le20 _ (by omega)
      have hcat : X ++ Y = ⟨(Lib.decDigits n).toArray⟩ := by rw [← hX, ← hY, ByteArray.mk_append_mk, dec_big h9]
      have HCAT := Lib.hid hcat
      have HX := Lib.hid hX
      have HY := Lib.hid hY
      clear e1 e2 hcat hX hY
      go_enter Tryz.func26, Tryz.ntmps26
      go_wp2_with fail
      rw [E1.out]
      refine (numberG m (n / 10) (by omega) (by omega) _).mono ?_
      rintro e w1 ⟨rfl, hb1⟩
      rw [HX.out]
      go_wp2_with fail
      rw [E2.out]
      refine (numberG m (n % 10) (by omega) (by omega) _).mono ?_
      rintro e w2 ⟨rfl, hb2⟩
      rw [HY.out]
      go_wp2_with fail
      go_ret
      exact ⟨ret_str HCAT.out, below_step hb1 hb2⟩
theorem numberK (n : Nat) (hn : n < 1099511627776) (w : World) : Calls Tryz.prog 26 #[.int .i64 n] w fun e w' => e = .returned (.string ⟨(dgs n).toArray⟩) ∧ Below w.heap.size w w' := by
  unfold dgs
  rw [dgF_dec 20 n (Nat.lt_trans hn (by decide))]
  exact numberG n n (Nat.le_refl _) hn w
end Go.Proofs.YtamlepacljjpiaaGreatDoor
