/- The walk of the law GatherSplit. -/
import Derived.Test.YtlbojhmhcaecjaaDoorGatherManyW
import Derived.Test.YtlbojhmhcaecjaaDoorShelf
namespace Go.Proofs.YtlbojhmhcaecjaaDoor
open Go.ChangeShapes Go.WideShapes Go.ChangeAt Go.RowKit
set_option linter.unusedVariables false
theorem cnt_le (s : ByteArray) (n : Nat) (hn : 1 ≤ n) : cntN s n ≤ s.size + 1 := by
  unfold cntN
  have : (s.size + n - 1) / n ≤ s.size := by
    rcases Nat.eq_zero_or_pos s.size with h0 | h0
    · rw [h0, Nat.div_eq_of_lt (by omega)]
      exact Nat.le_refl _
    · refine Nat.div_le_of_le_mul ?_
      have : s.size ≤ n * s.size := Nat.le_mul_of_pos_left _ (by omega)
      have h2 : n + s.size - 1 ≤ n * s.size := by
        obtain ⟨m, rfl⟩ : ∃ m, n = m + 1 := ⟨n - 1, by omega⟩
        obtain ⟨k, hk⟩ : ∃ k, s.size = k + 1 := ⟨s.size - 1, by omega⟩
        rw [hk, Nat.succ_mul, Nat.mul_succ]
        omega
      omega
  omega
theorem cnt_lower (s : ByteArray) (n k : Nat) (hn : 1 ≤ n) (h : k + 1 < cntN s n) : (k + 1) * n < s.size := by
  unfold cntN at h
  have h1 : k + 1 < (s.size + n - 1) / n := by omega
  have h2 : k + 2 ≤ (s.size + n - 1) / n := h1
  rw [Nat.le_div_iff_mul_le (by omega)] at h2
  have : (k + 2) * n = (k + 1) * n + n := Nat.succ_mul _ _
  omega
theorem cnt_lower0 (s : ByteArray) (n k : Nat) (hn : 1 ≤ n) (h : k < cntN s n) (hs : 0 < s.size) : k * n < s.size := by
  cases k with
  | zero => omega
  | succ k => exact cnt_lower s n k hn h
theorem cnt_all (s : ByteArray) (n : Nat) (hn : 1 ≤ n) : s.size ≤ cntN s n * n := by
  unfold cntN
  have h := Nat.lt_div_mul_add (a := s.size + n - 1) (b := n) (by omega)
  have h2 : (s.size + n - 1) / n * n ≤ max 1 ((s.size + n - 1) / n) * n := Nat.mul_le_mul_right _ (Nat.le_max_right _ _)
  omega
theorem join_pieces (s : ByteArray) (n : Nat) : ∀ k, ((piecesN s n k).map (·.data.toList)).flatten = s.data.toList.take (k * n)
  | 0 => by simp [piecesN]
  | k + 1 => by
    rw [piecesN_succ, List.map_append, List.flatten_append, join_pieces s n k]
    have e : (s.extract (k * n) ((k + 1) * n)).data.toList = (s.data.toList.drop (k * n)).take n := by
      rw [ext_of, Nat.succ_mul, Nat.add_sub_cancel_left]
    simp only [List.map_cons, List.map_nil, List.flatten_cons, List.flatten_nil, List.append_nil, e]
    rw [Nat.succ_mul, List.take_add]
theorem flat_of_tail : ∀ r : List (List UInt8), Lib.joinTail [] r = r.flatten
  | [] => rfl
  | y :: r => by simp [Lib.joinTail]
theorem join_flat : ∀ l : List (List UInt8), Lib.join l [] = l.flatten
  | [] => rfl
  | x :: r => by rw [Lib.join_cons, flat_of_tail]; rfl
theorem split_joined (s : ByteArray) (n : Nat) (hn : 1 ≤ n) : Lib.join ((piecesN s n (cntN s n)).map (·.data.toList)) [] = s.data.toList := by
  rw [join_flat, join_pieces, List.take_of_length_le]
  rw [len_of]
  exact cnt_all s n hn
theorem piece_at (s : ByteArray) (n k c : Nat) (hk : k < c) : (piecesN s n c)[k]? = some (s.extract (k * n) ((k + 1) * n)) := by
  simp [piecesN, hk]
set_option maxRecDepth 20000 in
set_option maxHeartbeats 4000000 in
theorem splitGather (s : ByteArray) (z : Int) (w : World) (hs : s.size ≤ 140737488351232) (hz : -9223372036854775808 ≤ z ∧ z ≤ 9223372036854775807) (hL : LaidE w) (hS : w.ShapedOpen Tryd.prog) :
    Calls Tryd.prog 10 #[.string s, .int .i64 z] w fun e w' => e = .returned (.bool true) ∧ Below w.heap.size w w' := by
  clear hz
  have pz := pick_rng z 600 (by omega)
  go_enter Tryd.func10, Tryd.ntmps10
  go_wp2_with fail
  refine (gathered_fact _ hL hS).mono ?_
  rintro e w1 ⟨rfl, hb1⟩
  by_cases h3 : 1500 < s.size
  · go_wp2_with fail
    go_ret
    exact ⟨rfl, hb1⟩
  go_wp2_with fail
  refine (pick_any _ _ _ (by omega) (by omega)).mono ?_
  rintro e w' ⟨rfl, rfl⟩
  obtain ⟨N0, hN0⟩ := Int.eq_ofNat_of_zero_le pz.1
  rw [hN0] at pz ⊢
  obtain ⟨N, hN⟩ : ∃ N, N0 + 1 = N := ⟨_, rfl⟩
  have hN1 : 1 ≤ N := by omega
  have hN2 : N ≤ 600 := by omega
  have e1 : (1 : Int) + (N0 : Int) = (N : Int) := by omega
  have E1 := Lib.hid e1
  have hN3 : N0 ≤ 599 := by omega
  clear hN pz e1 hN0
  go_wp2_with fail
  rw [E1.out]
  refine (split_any s N _ (by omega) (by omega) (by omega)).mono ?_
  rintro e w2 ⟨v2, rfl, hr2, hb2⟩
  have hbw := below_step hb1 hb2
  have hj := split_joined s N hN1
  have hcl := cnt_le s N hN1
  have hc1 : 1 ≤ cntN s N := by unfold cntN; omega
  have hlow : ∀ k, k + 1 < cntN s N → (k + 1) * N < s.size := fun k => cnt_lower s N k hN1
  have hlow0 : ∀ k, k < cntN s N → 0 < s.size → k * N < s.size := fun k => cnt_lower0 s N k hN1
  have hpa : ∀ k, k < cntN s N → (piecesN s N (cntN s N))[k]? = some (s.extract (k * N) ((k + 1) * N)) := fun k hk => piece_at s N k _ hk
  have hpl := piecesN_len s N (cntN s N)
  obtain ⟨L, hLe⟩ : ∃ L, piecesN s N (cntN s N) = L := ⟨_, rfl⟩
  obtain ⟨C, hC⟩ : ∃ C, cntN s N = C := ⟨_, rfl⟩
  rw [hLe] at hr2 hj hpa hpl
  rw [hC] at hcl hc1 hlow hlow0 hpa hpl
  obtain ⟨_, A, cap, rfl, hcap, hmax, hcc⟩ := SRd.of_m hr2
  obtain ⟨b, o, rfl, hbl, hcell⟩ := hcc (by omega)
  have hcl2 : ∀ k, k < C → w2.cell? ⟨b, o + k, none⟩ = some (.string (s.extract (k * N) ((k + 1) * N))) := by
    intro k hk
    refine hcell k _ ?_
    rw [List.getElem?_map, hpa k hk]
    rfl
  have hjc : ∀ (j : Nat) x, L[j]? = some x → w2.cell? ⟨b, o + j, none⟩ = some (.string x) := by
    intro j x hx
    exact hcell j _ (by rw [List.getElem?_map, hx]; rfl)
  have HJ := Lib.hid hj
  have HL := Lib.hid hlow
  have HL0 := Lib.hid hlow0
  have HC := Lib.hid hcl2
  have HJC := Lib.hid hjc
  have HPL := Lib.hid hpl
  rw [hpl] at hcap ⊢
  have HCAP := Lib.hid hcap
  clear hj hlow hlow0 hpa hpl hLe hC hcc hcell hcl2 hjc hr2
  unfold maxLen at hmax
  go_wp2_with fail
  go_loopw [25] (fun i wr => ∃ k : Nat, k ≤ C ∧ i = .int .i64 k ∧ Below w2.heap.size w2 wr) (fun i _ => C - (intOf i).toNat)
  case atStart => exact ⟨0, Nat.zero_le _, rfl, Below.refl _ _⟩
  case round =>
    obtain ⟨k, hk, rfl, hbr⟩ := hrel
    by_cases hlt : k < C
    · have c0 := (hbr.cell (p := ⟨b, o + k, none⟩) hbl).trans (HC.out k hlt)
      have hsm : (k + 1) * N = k * N + N := Nat.succ_mul _ _
      obtain ⟨X, hX⟩ : ∃ X, s.extract (k * N) ((k + 1) * N) = X := ⟨_, rfl⟩
      have hXz : X.size = min ((k + 1) * N) s.size - k * N := by rw [← hX, ByteArray.size_extract]
      rw [hX] at c0
      have hXn : X.size ≤ N := by omega
      have hXl : k + 1 < C → X.size = N := fun h => by have := HL.out k h; omega
      have hX0 : 0 < s.size → 0 < X.size := fun h => by have := HL0.out k hlt h; omega
      have hXs : s.size = 0 → X.size = 0 := fun h => by omega
      have hte : ∀ Y : ByteArray, Y.size = 0 → Y.toList = [] := fun Y h => by
        rw [toList_of]; exact List.eq_nil_of_length_eq_zero (by rw [len_of]; exact h)
      have htn : ∀ Y : ByteArray, 0 < Y.size → ¬ Y.toList = [] := fun Y h e => by
        rw [toList_of] at e; have := len_of Y; rw [e] at this; simp at this; omega
      have HXl := Lib.hid hXl
      clear hX hXz hsm hXl
      rcases Nat.eq_zero_or_pos s.size with h0 | h0
      · have e1 := hte X (hXs h0)
        have e2 : s.toList.isEmpty = true := by rw [hte s h0]; rfl
        have e3 : (!s.toList.isEmpty) = false := by rw [e2]; rfl
        clear hX0 hXs hte htn h0
        by_cases hlast : k + 1 < C
        · have f1 : ((X.size : Int) != (N : Int)) = false := by rw [bne_eq_false_iff_eq]; have := HXl.out hlast; omega
          go_wp2_with fail
          go_roundw
          case rel => exact ⟨k + 1, by omega, by go_num, hbr⟩
          case measure => simp [intOf]; omega
        · go_wp2_with fail
          go_roundw
          case rel => exact ⟨k + 1, by omega, by go_num, hbr⟩
          case measure => simp [intOf]; omega
      · have e1 := htn X (hX0 h0)
        clear hX0 hXs hte htn h0
        by_cases hlast : k + 1 < C
        · have f1 : ((X.size : Int) != (N : Int)) = false := by rw [bne_eq_false_iff_eq]; have := HXl.out hlast; omega
          go_wp2_with fail
          go_roundw
          case rel => exact ⟨k + 1, by omega, by go_num, hbr⟩
          case measure => simp [intOf]; omega
        · go_wp2_with fail
          go_roundw
          case rel => exact ⟨k + 1, by omega, by go_num, hbr⟩
          case measure => simp [intOf]; omega
    · have hc1i : (1 : Int) ≤ C := by omega
      have hj2 := HJ.out
      have hJn := Tryd.strings_Join b o cap L ⟨#[]⟩ wr (fun j x hx => (hbr.cell (p := ⟨b, o + j, none⟩) hbl).trans (HJC.out j x hx)) (Nat.lt_of_lt_of_le hbl hbr.size) (by rw [HPL.out]; omega) (by rw [HPL.out]; exact HCAP.out) (by
        show (Lib.join (List.map (fun x => x.data.toList) L) []).length ≤ _
        rw [hj2, len_of]; omega)
      rw [HPL.out] at hJn
      change Calls _ _ _ _ (fun e w' => e = .returned (.string ⟨(Lib.join (List.map (fun x => x.data.toList) L) []).toArray⟩) ∧ Below wr.heap.size wr w') at hJn
      rw [hj2, show (⟨s.data.toList.toArray⟩ : ByteArray) = s from (str_of s).symm] at hJn
      have HJN := Lib.hid hJn
      clear hj2 hJn
      go_wp2_with fail
      refine HJN.out.mono ?_
      rintro e w4 ⟨rfl, hb4⟩
      go_wp2_with fail
      go_ret
      exact ⟨by simp, below_step (hbw.trans (hbr.mono hbw.size)) hb4⟩
end Go.Proofs.YtlbojhmhcaecjaaDoor
