/- The contracts of pdu.Size and pdu.Read. -/
import Derived.Test.YtehellmpghfopaaGreatDoorPduWrite
namespace Go.Proofs.YtehellmpghfopaaGreatDoor
open Go.ChangeShapes Go.WideShapes Go.ChangeAt Go.RowKit Go.Shelf
set_option linter.unusedVariables false
theorem wrap_nat (x : Int) (h1 : 0 ≤ x) (h2 : x < 4611686018427387904) : IntKind.i64.wrap x = x := by
  rw [IntKind.wrap_i64]
  omega
theorem padI_lt (n : Int) : 0 ≤ padI n ∧ padI n ≤ 3 := padI_rng n
theorem dataN_lt (l : List UInt8) : dataN l < 16777216 := by
  have := rB_lt l 5
  have := rB_lt l 6
  have := rB_lt l 7
  unfold dataN; omega
set_option maxRecDepth 20000 in
set_option maxHeartbeats 2000000 in
theorem size_short (s : ByteArray) (k : Nat) (w : World) (hk : k < 4) (hs : s.size < 48) : Calls Tryz.prog 19 #[.string s, .int .i64 k] w fun e w' => e = .returned (.tuple #[.int .i64 0, .iface 43 (.int .i64 7)]) ∧ Below w.heap.size w w' := by
  go_enter Tryz.func19, Tryz.ntmps19
  go_wp2_with fail
  refine (modes_any k hk _).mono ?_
  rintro e w' ⟨rfl, rfl⟩
  go_wp2_with fail
  go_ret2
  exact ⟨rfl, Below.refl _ _⟩
set_option maxRecDepth 20000 in
set_option maxHeartbeats 2000000 in
theorem size_ok (s : ByteArray) (k : Nat) (w : World) (hk : k < 4) (h48 : 48 ≤ s.size) (hs : s.size ≤ 1000000) : Calls Tryz.prog 19 #[.string s, .int .i64 k] w fun e w' => e = .returned (.tuple #[.int .i64 (allN s.data.toList (hdM k) (ddM k)), .nilIface]) ∧ Below w.heap.size w w' := by
  have hk1 := and_1 ⟨k, hk⟩
  have hk2 := and_2 ⟨k, hk⟩
  simp only at hk1 hk2
  have g4 : (4 : Int) < s.size := by omega
  have g5 : (5 : Int) < s.size := by omega
  have g6 : (6 : Int) < s.size := by omega
  have g7 : (7 : Int) < s.size := by omega
  have a4 : ((s[4]'(by omega)).toNat : Int) = ((rB s.data.toList 4 : Nat) : Int) := by rw [rB_at s 4 (by omega)]
  have a5 : ((s[5]'(by omega)).toNat : Int) = ((rB s.data.toList 5 : Nat) : Int) := by rw [rB_at s 5 (by omega)]
  have a6 : ((s[6]'(by omega)).toNat : Int) = ((rB s.data.toList 6 : Nat) : Int) := by rw [rB_at s 6 (by omega)]
  have a7 : ((s[7]'(by omega)).toNat : Int) = ((rB s.data.toList 7 : Nat) : Int) := by rw [rB_at s 7 (by omega)]
  have hB4 := rB_lt s.data.toList 4
  have hB5 := rB_lt s.data.toList 5
  have hB6 := rB_lt s.data.toList 6
  have hB7 := rB_lt s.data.toList 7
  have hor := or_data _ _ _ hB5 hB6 hB7
  obtain ⟨N, hN⟩ : ∃ N, allN s.data.toList (hdM k) (ddM k) = N := ⟨_, rfl⟩
  rw [hN]
  unfold allN dataN at hN
  obtain ⟨B4, hb4⟩ : ∃ B, rB s.data.toList 4 = B := ⟨_, rfl⟩
  obtain ⟨B5, hb5⟩ : ∃ B, rB s.data.toList 5 = B := ⟨_, rfl⟩
  obtain ⟨B6, hb6⟩ : ∃ B, rB s.data.toList 6 = B := ⟨_, rfl⟩
  obtain ⟨B7, hb7⟩ : ∃ B, rB s.data.toList 7 = B := ⟨_, rfl⟩
  obtain ⟨D, hD⟩ : ∃ D, B5 * 65536 + B6 * 256 + B7 = D := ⟨_, rfl⟩
  rw [hb4, hb5, hb6, hb7, hD] at hN
  rw [hb5, hb6, hb7, hD] at hor
  rw [hb4] at a4 hB4
  rw [hb5] at a5 hB5
  rw [hb6] at a6 hB6
  rw [hb7] at a7 hB7
  have hDl : D < 16777216 := by omega
  have hpd := padI_rng D
  obtain ⟨pd, hpe⟩ := Int.eq_ofNat_of_zero_le hpd.1
  have hpn : padN D = pd := by unfold padN; omega
  rw [hpn] at hN
  rw [hpe] at hpd
  have HPE := Lib.hid hpe
  clear hb4 hb5 hb6 hb7 hD hpe hpn
  rcases hhd : hdM k with _ | _
  all_goals rcases hdd : ddM k with _ | _
  all_goals by_cases hD0 : 0 < D
  all_goals
    rw [hhd, hdd] at hN
    rw [hhd] at hk1
    rw [hdd] at hk2
    simp only [hdN, ddN, hD0, decide_true, decide_false, Bool.and_true, Bool.and_false, if_true, if_false, Bool.false_eq_true] at hN hk1 hk2
    have HN := Lib.hid hN
    clear hN hhd hdd
    go_enter Tryz.func19, Tryz.ntmps19
    go_wp2_with fail
    refine (modes_any k hk _).mono ?_
    rintro e w' ⟨rfl, rfl⟩
    go_wp2_with fail
    go_region
    go_wp2_with fail
    go_region_held3 (fun _ => True) (trivial) ((go_at_call 43; refine (pad_any D _).mono ?_; rintro e w' ⟨rfl, rfl⟩; rw [HPE.out]))
    go_wp2_with fail
    all_goals
      go_ret2
      refine ⟨?_, (Below.refl _ w).drew.drew⟩
      rw [← HN.out]
      simp
      try simp (disch := omega) only [wrap_nat]
      try omega
end Go.Proofs.YtehellmpghfopaaGreatDoor
