/- The walk of the law HeadFlags. -/
import Derived.Test.YtefhgikpghpijaaDoorHeadMake
import Derived.Test.YtefhgikpghpijaaDoorHeadOnlyW
import Derived.Test.YtefhgikpghpijaaDoorHeadLaid
import Derived.Test.YtefhgikpghpijaaDoorTell2
namespace Go.Proofs.YtefhgikpghpijaaDoor
open Go.ChangeShapes Go.WideShapes Go.ChangeAt Go.RowKit
set_option linter.unusedVariables false
theorem rangeGo_zero : ∀ (fs : FieldL) (i : Nat), rangeGo fs (List.replicate fs.length 0) i = none
  | [], i => rfl
  | f :: fs, i => by
    rw [List.length_cons, List.replicate_succ, rangeGo, if_neg (by rw [Nat.zero_div]; exact fun h => h.2 rfl)]
    exact rangeGo_zero fs (i + 1)
def zerosL (r : HeadR) : List Nat := List.replicate r.2.2.2.length 0
theorem right_zero (op fl : Int) (r : HeadR) (hr : headRow op = some r) : rightR op false fl (zerosL r) = if decide (fl < 0) || offM fl r.2.2.1 then some (3, none) else none := by
  rw [rightR, hr]
  have hb : badR r op false fl = (decide (fl < 0) || offM fl r.2.2.1) := by unfold badR; simp
  simp only [hb]
  split
  · rfl
  · rw [if_neg (fun h => h (by simp [zerosL])), zerosL, rangeGo_zero]
theorem srd_none (w : World) : SRd w (.slice none 0 0) 1 ([] : List ByteArray).length (([] : List ByteArray).map .string) := ⟨rfl, none, 0, rfl, Nat.le_refl _, by unfold maxLen; omega, fun h => absurd h (Nat.lt_irrefl _)⟩
theorem make_none (op fl : Int) (hr : headRow op = none) (w : World) (h0 : -9223372036854775808 ≤ op ∧ op ≤ 9223372036854775807) (hf : -9223372036854775808 ≤ fl ∧ fl ≤ 9223372036854775807) (T : Tabs w) (hS : w.ShapedOpen Tryd.prog) :
    Calls Tryd.prog 20 #[.int .i64 op, .int .i64 fl, .slice none 0 0, .slice none 0 0] w fun e w' => e = .returned (.tuple #[zeroH, .iface 60 (.int .i64 1)]) ∧ Below w.heap.size w w' := by
  refine (make_any op fl [] [] _ _ w h0 hf (srd_none w) (srd_nil w) (fun _ h => by cases h) T hS).mono ?_
  rintro e w' ⟨hm, hb⟩
  rw [makeR, hr] at hm
  obtain ⟨er, rfl, rfl⟩ := hm
  exact ⟨rfl, hb⟩
theorem make_bad (op fl : Int) (r : HeadR) (hr : headRow op = some r) (hbad : (decide (fl < 0) || offM fl r.2.2.1) = true) (w : World) (h0 : -9223372036854775808 ≤ op ∧ op ≤ 9223372036854775807) (hf : -9223372036854775808 ≤ fl ∧ fl ≤ 9223372036854775807) (T : Tabs w) (hS : w.ShapedOpen Tryd.prog) :
    Calls Tryd.prog 20 #[.int .i64 op, .int .i64 fl, .slice none 0 0, .slice none 0 0] w fun e w' => e = .returned (.tuple #[zeroH, .iface 60 (.int .i64 3)]) ∧ Below w.heap.size w w' := by
  refine (make_any op fl [] [] _ _ w h0 hf (srd_none w) (srd_nil w) (fun _ h => by cases h) T hS).mono ?_
  rintro e w' ⟨hm, hb⟩
  have hR := right_zero op fl r hr
  rw [hbad, if_pos rfl] at hR
  have hmr : makeR op fl [] [] = .inl (3, none) := by
    rw [makeR, hr]
    simp only [mkGo]
    rw [show List.replicate r.2.2.2.length 0 = zerosL r from rfl, hR]
  change makeIs w' w.heap.size op fl e (makeR op fl [] []) at hm
  rw [hmr] at hm
  obtain ⟨er, rfl, rfl⟩ := hm
  exact ⟨rfl, hb⟩
theorem make_zero (op fl : Int) (r : HeadR) (hr : headRow op = some r) (hbad : (decide (fl < 0) || offM fl r.2.2.1) = false) (w : World) (h0 : -9223372036854775808 ≤ op ∧ op ≤ 9223372036854775807) (hf : -9223372036854775808 ≤ fl ∧ fl ≤ 9223372036854775807) (T : Tabs w) (hS : w.ShapedOpen Tryd.prog) :
    Calls Tryd.prog 20 #[.int .i64 op, .int .i64 fl, .slice none 0 0, .slice none 0 0] w fun e w' => ∃ v, e = .returned (.tuple #[.agg #[.int .i64 op, .bool false, .int .i64 fl, v], .nilIface]) ∧ SRd w' v 1 (zerosL r).length ((zerosL r).map u64V) ∧ Below w.heap.size w w' := by
  refine (make_any op fl [] [] _ _ w h0 hf (srd_none w) (srd_nil w) (fun _ h => by cases h) T hS).mono ?_
  rintro e w' ⟨hm, hb⟩
  have hR := right_zero op fl r hr
  rw [hbad, if_neg (by decide)] at hR
  have hmr : makeR op fl [] [] = .inr (zerosL r) := by
    rw [makeR, hr]
    simp only [mkGo]
    rw [show List.replicate r.2.2.2.length 0 = zerosL r from rfl, hR]
  change makeIs w' w.heap.size op fl e (makeR op fl [] []) at hm
  rw [hmr] at hm
  obtain ⟨v, rfl, hv⟩ := hm
  exact ⟨v, rfl, hv, hb⟩
theorem flags_none (op : Int) (h : headRow op = none) (w : World) (h0 : -9223372036854775808 ≤ op ∧ op ≤ 9223372036854775807) (T : Tabs w) : Calls Tryd.prog 23 #[.int .i64 op] w fun e w' => e = .returned (.tuple #[.int .i64 0, .iface 60 (.int .i64 1)]) ∧ Below w.heap.size w w' := by
  have := flags_any op w h0 T
  rw [h] at this
  exact this
theorem flags_some (op : Int) (r : HeadR) (h : headRow op = some r) (w : World) (h0 : -9223372036854775808 ≤ op ∧ op ≤ 9223372036854775807) (T : Tabs w) : Calls Tryd.prog 23 #[.int .i64 op] w fun e w' => e = .returned (.tuple #[.int .i64 r.2.2.1, .nilIface]) ∧ Below w.heap.size w w' := by
  have := flags_any op w h0 T
  rw [h] at this
  exact this
set_option maxRecDepth 20000 in
set_option maxHeartbeats 2000000 in
theorem flagsHead (op fl : Int) (w : World) (h0 : -9223372036854775808 ≤ op ∧ op ≤ 9223372036854775807) (hf : -9223372036854775808 ≤ fl ∧ fl ≤ 9223372036854775807) (hL : LaidE w) (T : Tabs w) (hS : w.ShapedOpen Tryd.prog) :
    Calls Tryd.prog 10 #[.int .i64 op, .int .i64 fl] w fun e w' => e = .returned (.bool true) ∧ Below w.heap.size w w' := by
  go_enter Tryd.func10, Tryd.ntmps10
  go_wp2_with fail
  refine (headed_fact _ T hS).mono ?_
  rintro e w1 ⟨rfl, hb1⟩
  rcases hr : headRow op with _ | r
  · have HR := Lib.hid hr
    clear hr
    go_wp2_with fail
    refine (flags_none op HR.out _ h0 (T.on hb1)).mono ?_
    rintro e w2 ⟨rfl, hb2⟩
    have hbw2 := below_step hb1 hb2
    go_wp2_with fail
    refine (make_none op fl HR.out _ h0 hf (T.on hbw2) (shaped_ons hS hbw2)).mono ?_
    rintro e w3 ⟨rfl, hb3⟩
    unfold zeroH
    have hbw3 := below_step hbw2 hb3
    have hL3 := (hL.on hbw3).alloc (.cells #[.int .i64 0, .bool false, .int .i64 0, .slice none 0 0] 24)
    have hbw3a := hbw3.alloc hbw3.size (.cells #[.int .i64 0, .bool false, .int .i64 0, .slice none 0 0] 24)
    go_wp2_with fail
    refine (tell_errno 1 _ hL3).mono ?_
    rintro e w4 ⟨rfl, hb4⟩
    go_wp2_with fail
    go_ret
    exact ⟨rfl, below_step hbw3a hb4⟩
  · have hrm := headRow_mem hr
    have hmk := headT_mask r hrm
    have HR := Lib.hid hr
    clear hr
    go_wp2_with fail
    refine (flags_some op r HR.out _ h0 (T.on hb1)).mono ?_
    rintro e w2 ⟨rfl, hb2⟩
    have hbw2 := below_step hb1 hb2
    obtain ⟨M, hM⟩ : ∃ M, r.2.2.1 = M := ⟨_, rfl⟩
    rw [hM] at hmk ⊢
    have f1 : (bits .andNot .i64 fl (M : Int) != 0) = offM fl M := rfl
    have f2 : (bits .andNot .i64 fl (M : Int) == 0) = !offM fl M := by unfold offM; rw [bne, Bool.not_not]
    by_cases hbad : (decide (fl < 0) || offM fl M) = true
    · have HB := Lib.hid hbad
      have hor : fl < 0 ∨ offM fl M = true := by simpa using hbad
      clear hbad
      go_wp2_with fail
      refine (make_bad op fl r HR.out (by rw [hM]; exact HB.out) _ h0 hf (T.on hbw2) (shaped_ons hS hbw2)).mono ?_
      rintro e w3 ⟨rfl, hb3⟩
      unfold zeroH
      have hbw3 := below_step hbw2 hb3
      have hbw3a := hbw3.alloc hbw3.size (.cells #[.int .i64 0, .bool false, .int .i64 0, .slice none 0 0] 24)
      by_cases hneg : fl < 0
      · go_wp2_with fail
        go_ret
        exact ⟨rfl, hbw3a⟩
      · have ho : offM fl M = true := hor.resolve_left hneg
        rw [ho] at f1 f2
        have f2 : (bits .andNot .i64 fl (M : Int) == 0) = false := f2
        clear hor ho
        go_wp2_with fail
        go_ret
        exact ⟨rfl, hbw3a⟩
    · have hbad : (decide (fl < 0) || offM fl M) = false := by simpa using hbad
      have hand : ¬ fl < 0 ∧ offM fl M = false := by simpa using hbad
      have hneg := hand.1
      rw [hand.2] at f1 f2
      have f2 : (bits .andNot .i64 fl (M : Int) == 0) = true := f2
      have HB := Lib.hid hbad
      clear hbad hand
      go_wp2_with fail
      refine (make_zero op fl r HR.out (by rw [hM]; exact HB.out) _ h0 hf (T.on hbw2) (shaped_ons hS hbw2)).mono ?_
      rintro e w3 ⟨v, rfl, hv, hb3⟩
      have hbw3 := below_step hbw2 hb3
      obtain ⟨A, cap, rfl⟩ : ∃ A cap, v = .slice A (zerosL r).length cap := by obtain ⟨_, A, cap, hv, _⟩ := hv; exact ⟨A, cap, hv⟩
      have hbw3a := hbw3.alloc hbw3.size (.cells #[.int .i64 0, .bool false, .int .i64 fl, .slice A (zerosL r).length cap] 24)
      go_wp2_with fail
      go_ret
      exact ⟨by simp, by first | exact hbw3a | exact hbw3.alloc hbw3.size _⟩
end Go.Proofs.YtefhgikpghpijaaDoor
