/- Contracts of package field: Pad, Padded, Unpad, Get: what they return, of whatever arguments. -/
import Derived.Test.YtehellmpghfopaaGreatDoorBase
namespace Go.Proofs.YtehellmpghfopaaGreatDoor
open Go.ChangeShapes Go.WideShapes Go.ChangeAt Go.RowKit
set_option linter.unusedVariables false

def padI (n : Int) : Int := if n < 0 then 0 else (-n) % 4
theorem padI_rng (n : Int) : 0 ≤ padI n ∧ padI n ≤ 3 := by unfold padI; split <;> omega
def padded (l : List UInt8) : List UInt8 := l ++ List.replicate (padI l.length).toNat 0
theorem pad_any (n : Int) (w : World) : Calls Tryz.prog 43 #[.int .i64 n] w fun e w' => e = .returned (.int .i64 (padI n)) ∧ w = w' := by
  go_enter Tryz.func43, Tryz.ntmps43
  go_wp2
  · go_ret
    rename_i h
    exact ⟨ret_int (by simp [padI, h]), rfl⟩
  · go_ret
    rename_i h
    exact ⟨ret_int (by show bits .and .i64 (wrap64 (-n)) 3 = _; rw [and3_i64, padI, if_neg (by omega)]; unfold wrap64; omega), rfl⟩
theorem padded_any (s : ByteArray) (w : World) (hs : s.size ≤ 4611686018427387904) : Calls Tryz.prog 25 #[.string s] w fun e w' => e = .returned (.string ⟨(padded s.data.toList).toArray⟩) ∧ w = w' := by
  have hr := padI_rng s.size
  go_enter Tryz.func25, Tryz.ntmps25
  go_wp2_with (go_at_call 43; refine (pad_any _ _).mono ?_; rintro e w' ⟨rfl, rfl⟩)
  go_ret
  refine ⟨ret_str ?_, rfl⟩
  show s ++ _ = _
  have h3 : padI s.size = 0 ∨ padI s.size = 1 ∨ padI s.size = 2 ∨ padI s.size = 3 := by omega
  unfold padded
  rw [cat_of, len_of]
  rcases h3 with h | h | h | h <;> rw [h] <;> rfl
def unpadE (l : List UInt8) (n : Int) : Nat :=
  if n < 0 then 2 else if l.length < n + padI n then 7 else if padded (l.take n.toNat) = l.take (n + padI n).toNat then 0 else 3
def unpadS (l : List UInt8) (n : Int) : List UInt8 := if unpadE l n = 0 then l.take n.toNat else []
def unpadN (l : List UInt8) (n : Int) : Int := if unpadE l n = 0 then n + padI n else 0
theorem unpad_any (s : ByteArray) (n : Int) (w : World) (hs : s.size ≤ 4611686018427387904) (hn : n ≤ 4611686018427387904) : Calls Tryz.prog 42 #[.string s, .int .i64 n] w fun e w' =>
    e = .returned (.tuple #[.string ⟨(unpadS s.data.toList n).toArray⟩, .int .i64 (unpadN s.data.toList n), errv (unpadE s.data.toList n)]) ∧ ∃ k, w' = w.drewN k := by
  have hr := padI_rng n
  by_cases h1 : n < 0
  · have e0 : unpadE s.data.toList n = 2 := by simp [unpadE, h1]
    have E := Lib.hid e0
    clear e0
    go_enter Tryz.func42, Tryz.ntmps42
    go_wp2
    go_ret3
    exact ⟨by simp [unpadS, unpadN, E.out, errv], 0, rfl⟩
  · by_cases h2 : s.size < n + padI n
    · have e0 : unpadE s.data.toList n = 7 := by simp [unpadE, h1, h2]
      have E := Lib.hid e0
      clear e0
      by_cases h3 : s.size < n
      all_goals
        go_enter Tryz.func42, Tryz.ntmps42
        go_wp2_with (go_at_call 43; refine (pad_any _ _).mono ?_; rintro e w' ⟨rfl, rfl⟩)
        go_ret3
        exact ⟨by simp [unpadS, unpadN, E.out, errv], 0, rfl⟩
    · have h4 : ¬ s.size < n := by omega
      by_cases h5 : padded (s.data.toList.take n.toNat) = s.data.toList.take (n + padI n).toNat
      · have e0 : unpadE s.data.toList n = 0 := by simp [unpadE, h1, h2, h5]
        have E := Lib.hid e0
        have f : (padded (List.take n.toNat s.data.toList) == (s.extract 0 (n + padI n).toNat).toList) = true := by
          rw [beq_iff_eq, ext_of, toList_of]; simpa using h5
        clear e0 h5
        go_enter Tryz.func42, Tryz.ntmps42
        go_wp2_with (go_at_call 43; refine (pad_any _ _).mono ?_; rintro e w' ⟨rfl, rfl⟩)
        go_quiet ((go_at_call 25; exact quiet_same (padded_any _ _ (Nat.le_trans (size_ext _ _ _) hs))))
        go_wp2
        go_ret3
        refine ⟨?_, _, rfl⟩
        simp [unpadS, unpadN, E.out, errv, ext_of s]
      · have e0 : unpadE s.data.toList n = 3 := by simp [unpadE, h1, h2, h5]
        have E := Lib.hid e0
        have f : (padded (List.take n.toNat s.data.toList) == (s.extract 0 (n + padI n).toNat).toList) = false := by
          rw [beq_eq_false_iff_ne, ext_of, toList_of]; simpa using h5
        clear e0 h5
        go_enter Tryz.func42, Tryz.ntmps42
        go_wp2_with (go_at_call 43; refine (pad_any _ _).mono ?_; rintro e w' ⟨rfl, rfl⟩)
        go_quiet ((go_at_call 25; exact quiet_same (padded_any _ _ (Nat.le_trans (size_ext _ _ _) hs))))
        go_wp2
        go_ret3
        refine ⟨?_, _, rfl⟩
        simp [unpadS, unpadN, E.out, errv]
end Go.Proofs.YtehellmpghfopaaGreatDoor
