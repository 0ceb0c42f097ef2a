/- The walk of the law HeadOnly. -/
import Derived.Test.YtefhgikpghpijaaDoorHeadSame
import Derived.Test.YtefhgikpghpijaaDoorHeadLaid
namespace Go.Proofs.YtefhgikpghpijaaDoor
open Go.ChangeShapes Go.WideShapes Go.ChangeAt Go.RowKit
set_option linter.unusedVariables false
theorem readE_ok {l : List UInt8} (h : readE l = none) : ∃ r, headRow ((rB l 0 % 64 : Nat) : Int) = some r ∧ rightR ((rB l 0 % 64 : Nat) : Int) (decide (64 ≤ rB l 0)) (rB l 1) (readV r.2.2.2 l) = none ∧
    layAll (headB r.1 (decide (64 ≤ rB l 0)) (rB l 1) (rB l 4) (rB l 5 * 65536 + rB l 6 * 256 + rB l 7)) r.2.2.2 (readV r.2.2.2 l) = l ∧ l.length = 48 := by
  rw [readE] at h
  by_cases hl : l.length = 48
  · rw [if_neg (fun h => h hl)] at h
    by_cases h8 : 128 ≤ rB l 0
    · rw [if_pos h8] at h; cases h
    · rw [if_neg h8] at h
      rcases hr : headRow ((rB l 0 % 64 : Nat) : Int) with _ | r
      · rw [hr] at h; cases h
      · rw [hr] at h
        simp only at h
        rcases hrr : rightR ((rB l 0 % 64 : Nat) : Int) (decide (64 ≤ rB l 0)) (rB l 1) (readV r.2.2.2 l) with _ | e
        · rw [hrr] at h
          simp only at h
          by_cases hw : layAll (headB r.1 (decide (64 ≤ rB l 0)) (rB l 1) (rB l 4) (rB l 5 * 65536 + rB l 6 * 256 + rB l 7)) r.2.2.2 (readV r.2.2.2 l) = l
          · exact ⟨r, rfl, hrr, hw, hl⟩
          · rw [if_neg hw] at h; cases h
        · rw [hrr] at h; cases h
  · rw [if_pos hl] at h; cases h
theorem readV_small (r : HeadR) (hr : r ∈ headT) (l : List UInt8) : ∀ x ∈ readV r.2.2.2 l, x < 18446744073709551616 := by
  intro x hx
  obtain ⟨i, hi⟩ := List.getElem?_of_mem hx
  have hi2 := hi
  rw [readV, List.getElem?_map] at hi2
  rcases hfi : r.2.2.2[i]? with _ | f
  · rw [hfi] at hi2; cases hi2
  · have := readV_lt _ _ i f x hfi hi
    have hk8 := okAll_mem _ (headT_ok r hr) f (List.mem_of_getElem? hfi)
    simp only [okF, Bool.and_eq_true, decide_eq_true_eq] at hk8
    exact Nat.lt_of_lt_of_le this (Nat.le_trans (Nat.pow_le_pow_right (by omega) (Nat.mul_le_mul_left 8 hk8.2)) (by decide))
theorem right_nil (op : Int) (now : Bool) (fl : Int) (vals : List Nat) (v : Value) (hr : rightR op now fl vals = none) (w : World) (h0 : -9223372036854775808 ≤ op ∧ op ≤ 9223372036854775807) (hf : -9223372036854775808 ≤ fl ∧ fl ≤ 9223372036854775807) (hv : SRd w v 1 vals.length (vals.map u64V)) (hl : ∀ x ∈ vals, x < 18446744073709551616) (T : Tabs w) (hS : w.ShapedOpen Tryd.prog) :
    Calls Tryd.prog 15 #[.agg #[.int .i64 op, .bool now, .int .i64 fl, v]] w fun e w' => e = .returned .nilIface ∧ Below w.heap.size w w' := by
  refine (right_any op now fl vals v w h0 hf hv hl T hS).mono ?_
  rintro e w' ⟨er, rfl, her, hb⟩
  rw [hr] at her
  obtain rfl : er = .nilIface := her
  exact ⟨rfl, hb⟩
theorem srd_nil (w : World) : SRd w (.slice none 0 0) 1 ([] : List Nat).length (([] : List Nat).map u64V) := ⟨rfl, none, 0, rfl, Nat.le_refl _, by unfold maxLen; omega, fun h => absurd h (Nat.lt_irrefl _)⟩
set_option maxRecDepth 20000 in
set_option maxHeartbeats 2000000 in
theorem onlyHead (s : ByteArray) (w : World) (hs : s.size ≤ 140737488351232) (T : Tabs w) (hS : w.ShapedOpen Tryd.prog) :
    Calls Tryd.prog 4 #[.string s] w fun e w' => e = .returned (.bool true) ∧ Below w.heap.size w w' := by
  go_enter Tryd.func4, Tryd.ntmps4
  go_wp2_with fail
  refine (headed_fact _ T hS).mono ?_
  rintro e w1 ⟨rfl, hb1⟩
  by_cases h3 : 100 < s.size
  · go_wp2_with fail
    go_ret
    exact ⟨rfl, hb1⟩
  go_wp2_with fail
  refine (read_any s _ (by omega) (T.on hb1) (shaped_ons hS hb1)).mono ?_
  rintro e w2 ⟨⟨hv, wd, dt, er, rfl, her, hbad, hok⟩, hb2⟩
  have hbw2 := below_step hb1 hb2
  rcases hE : readE s.data.toList with _ | E
  · rw [hE] at her
    obtain rfl : er = .nilIface := her
    obtain ⟨r, v, hr, rfl, hvr, rfl, rfl⟩ := hok hE
    obtain ⟨r2, hr2, hrr, hlay, hlen⟩ := readE_ok hE
    obtain rfl : r = r2 := Option.some.inj (hr.symm.trans hr2)
    have hrm := headRow_mem hr
    obtain ⟨A, cap, rfl⟩ : ∃ A cap, v = .slice A (readV r.2.2.2 s.data.toList).length cap := by obtain ⟨_, A, cap, hv, _⟩ := hvr; exact ⟨A, cap, hv⟩
    have h1 := rB_lt s.data.toList 1
    have h4 := rB_lt s.data.toList 4
    have h5 := rB_lt s.data.toList 5
    have h6 := rB_lt s.data.toList 6
    have h7 := rB_lt s.data.toList 7
    have hop : rB s.data.toList 0 % 64 < 64 := Nat.mod_lt _ (by omega)
    have hsm := readV_small r hrm s.data.toList
    obtain ⟨VS, hVS⟩ : ∃ VS, readV r.2.2.2 s.data.toList = VS := ⟨_, rfl⟩
    obtain ⟨OP, hOP⟩ : ∃ OP, rB s.data.toList 0 % 64 = OP := ⟨_, rfl⟩
    obtain ⟨NOW, hNOW⟩ : ∃ NOW, decide (64 ≤ rB s.data.toList 0) = NOW := ⟨_, rfl⟩
    obtain ⟨FL, hFL⟩ : ∃ FL, rB s.data.toList 1 = FL := ⟨_, rfl⟩
    obtain ⟨B4, hB4⟩ : ∃ FL, rB s.data.toList 4 = FL := ⟨_, rfl⟩
    obtain ⟨D, hD⟩ : ∃ D, rB s.data.toList 5 * 65536 + rB s.data.toList 6 * 256 + rB s.data.toList 7 = D := ⟨_, rfl⟩
    have hDl : D < 16777216 := by omega
    rw [hVS, hOP, hNOW, hFL] at hrr
    rw [hVS, hNOW, hFL, hB4, hD] at hlay
    rw [hVS] at hvr hsm ⊢
    rw [hOP] at hr hop ⊢
    rw [hFL] at h1 ⊢
    rw [hB4] at h4 ⊢
    rw [hNOW, hD]
    have HR := Lib.hid hr
    have HRR := Lib.hid hrr
    have HLAY := Lib.hid hlay
    clear hr hr2 hrr hlay hok hbad hE hVS hOP hNOW hFL hB4 hD h5 h6 h7 hlen
    go_wp2_with fail
    have hb23 : Below w2.heap.size w2 (w2.alloc (.cells #[.int .i64 OP, .bool NOW, .int .i64 FL, .slice A VS.length cap] 24)) := (Below.refl _ _).alloc (Nat.le_refl _) _
    have hBh := Blk.new w2 24 #[.int .i64 OP, .bool NOW, .int .i64 FL, .slice A VS.length cap]
    obtain ⟨w3, hw3⟩ : ∃ w3 : World, w2.alloc (.cells #[.int .i64 OP, .bool NOW, .int .i64 FL, .slice A VS.length cap] 24) = w3 := ⟨_, rfl⟩
    obtain ⟨G, hG⟩ : ∃ G, w2.heap.size = G := ⟨_, rfl⟩
    rw [hw3] at hb23 hBh ⊢
    rw [hG] at hBh ⊢
    have hbw3 := below_step hbw2 hb23
    have hv3 := hvr.on hb23
    refine (write_ok OP NOW FL VS _ B4 D r _ (by omega) h1 hv3 hsm (T.on hbw3) (shaped_ons hS hbw3) HR.out HRR.out h4 hDl).mono ?_
    rintro e w4 ⟨rfl, hb4⟩
    rw [HLAY.out, ← str_of]
    have hbw4 := below_step hbw3 hb4
    have hv4 := hv3.on hb4
    have hB4 := hBh.below hb4 hBh.lt
    have T4 := T.on hbw4
    have S4 := shaped_ons hS hbw4
    have c0 := hB4.cell 0
    have c1 := hB4.cell 1
    have c2 := hB4.cell 2
    have c3 := hB4.cell 3
    clear hb23 hBh hw3 hG hv3 hB4 hvr hbw3 hb4 hbw2
    go_wp2_with fail
    refine (right_nil OP NOW FL VS _ HRR.out _ (by omega) (by omega) hv4 hsm T4 S4).mono ?_
    rintro e w5 ⟨rfl, hb5⟩
    go_wp2_with fail
    go_ret
    exact ⟨by simp, below_step hbw4 hb5⟩
  · obtain ⟨rfl, rfl, rfl⟩ := hbad (by rw [hE]; simp)
    rw [hE] at her
    obtain ⟨et, ex, rfl⟩ := her.value
    unfold zeroH
    clear hok hbad hE her
    go_wp2_with fail
    have hb23 : Below w2.heap.size w2 (w2.alloc (.cells #[.int .i64 0, .bool false, .int .i64 0, .slice none 0 0] 24)) := (Below.refl _ _).alloc (Nat.le_refl _) _
    refine (same_yes 0 false 0 [] _ _ _ (srd_nil _) (srd_nil _)).mono ?_
    rintro e w4 ⟨rfl, hb4⟩
    go_wp2_with fail
    go_ret
    exact ⟨rfl, below_step (below_step hbw2 hb23) hb4⟩
end Go.Proofs.YtefhgikpghpijaaDoor
