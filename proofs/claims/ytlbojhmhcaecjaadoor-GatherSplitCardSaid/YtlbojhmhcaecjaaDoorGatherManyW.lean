/- The walk of the law GatherMany. -/
import Derived.Test.YtlbojhmhcaecjaaDoorStrRow
import Derived.Test.YtlbojhmhcaecjaaDoorGather
namespace Go.Proofs.YtlbojhmhcaecjaaDoor
open Go.ChangeShapes Go.WideShapes Go.ChangeAt Go.RowKit
set_option linter.unusedVariables false
theorem cnt_mono (s : ByteArray) (n m : Nat) (hn : 1 ≤ n) (h : n ≤ m) : cntN s m ≤ cntN s n := by
  unfold cntN
  rcases Nat.eq_zero_or_pos s.size with h0 | h0
  · rw [h0]
    have h1 : (0 + n - 1) / n = 0 := Nat.div_eq_of_lt (by omega)
    have h2 : (0 + m - 1) / m = 0 := Nat.div_eq_of_lt (by omega)
    omega
  · have e : ∀ k : Nat, 1 ≤ k → (s.size + k - 1) / k = (s.size - 1) / k + 1 := by
      intro k hk
      rw [show s.size + k - 1 = (s.size - 1) + k from by omega, Nat.add_div_right _ (by omega)]
    rw [e n hn, e m (by omega)]
    have : (s.size - 1) / m ≤ (s.size - 1) / n := Nat.div_le_div_left h (by omega)
    omega
theorem cnt_int (s : ByteArray) (n : Nat) (z : Int) (h1 : 1 ≤ n) (hz : z = n) : ((cntN s n : Nat) : Int) = max 1 (((s.size : Int) + z - 1) / z) := by
  subst hz
  have e : (s.size : Int) + n - 1 = ((s.size + n - 1 : Nat) : Int) := by omega
  rw [e, ← Int.natCast_ediv]
  unfold cntN
  omega
set_option maxHeartbeats 2000000 in
theorem manyGather (s : ByteArray) (a b : Int) (w : World) (hs : s.size ≤ 140737488351232) (ha : -9223372036854775808 ≤ a ∧ a ≤ 9223372036854775807) (hb : -9223372036854775808 ≤ b ∧ b ≤ 9223372036854775807) (hL : LaidE w) (hS : w.ShapedOpen Tryd.prog) :
    Calls Tryd.prog 8 #[.string s, .int .i64 a, .int .i64 b] w fun e w' => e = .returned (.bool true) ∧ Below w.heap.size w w' := by
  clear ha hb
  have pa := pick_rng a 600 (by omega)
  have pb := pick_rng b 600 (by omega)
  go_enter Tryd.func8, Tryd.ntmps8
  go_wp2_with fail
  refine (gathered_fact _ hL hS).mono ?_
  rintro e w1 ⟨rfl, hb1⟩
  by_cases h3 : 1500 < s.size
  · go_wp2_with fail
    go_ret
    exact ⟨rfl, hb1⟩
  go_wp2_with fail
  refine (pick_any _ _ _ (by omega) (by omega)).mono ?_
  rintro e w' ⟨rfl, rfl⟩
  go_wp2_with fail
  refine (pick_any _ _ _ (by omega) (by omega)).mono ?_
  rintro e w' ⟨rfl, rfl⟩
  obtain ⟨A, hA⟩ := Int.eq_ofNat_of_zero_le pa.1
  obtain ⟨B, hB⟩ := Int.eq_ofNat_of_zero_le pb.1
  rw [hA] at pa ⊢
  rw [hB] at pb ⊢
  have e1 : (1 + min (A : Int) (B : Int)) = ((1 + min A B : Nat) : Int) := by omega
  have e2 : (1 + max (A : Int) (B : Int)) = ((1 + max A B : Nat) : Int) := by omega
  have E1 := Lib.hid e1
  have E2 := Lib.hid e2
  clear e1 e2
  go_wp2_with fail
  rw [E1.out]
  refine (split_any s (1 + min A B) _ (by omega) (by omega) (by omega)).mono ?_
  rintro e w2 ⟨v2, rfl, hr2, hb2⟩
  obtain ⟨A2, c2, rfl, hc2, hm2, _⟩ := MRow.form hr2
  go_wp2_with fail
  rw [E2.out]
  refine (split_any s (1 + max A B) _ (by omega) (by omega) (by omega)).mono ?_
  rintro e w3 ⟨v3, rfl, hr3, hb3⟩
  obtain ⟨A3, c3, rfl, hc3, hm3, _⟩ := MRow.form hr3
  have hbw := below_step (below_step hb1 hb2) hb3
  rw [piecesN_len, piecesN_len]
  have g1 := cnt_mono s (1 + min A B) (1 + max A B) (by omega) (by omega)
  obtain ⟨X, hX⟩ : ∃ X, cntN s (1 + min A B) = X := ⟨_, rfl⟩
  obtain ⟨Y, hY⟩ : ∃ Y, cntN s (1 + max A B) = Y := ⟨_, rfl⟩
  rw [hX, hY] at g1
  rw [hX] at hc2
  rw [hY] at hc3
  rw [hX, hY]
  have g2 : (Y : Int) ≤ X := by omega
  have HX := Lib.hid hX
  clear hX hY E1 E2
  go_wp2_with fail
  go_ret
  refine ⟨ret_bool (beq_iff_eq.2 ?_), hbw⟩
  rw [← HX.out]
  exact cnt_int s (1 + min A B) _ (by omega) (by omega)
end Go.Proofs.YtlbojhmhcaecjaaDoor
