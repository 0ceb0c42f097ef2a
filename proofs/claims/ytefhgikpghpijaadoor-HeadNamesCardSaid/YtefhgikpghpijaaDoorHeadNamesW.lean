/- The walk of the law HeadNames. -/
import Derived.Test.YtefhgikpghpijaaDoorHeadSame
import Derived.Test.YtefhgikpghpijaaDoorHeadLaid
namespace Go.Proofs.YtefhgikpghpijaaDoor
open Go.ChangeShapes Go.WideShapes Go.ChangeAt Go.RowKit
set_option linter.unusedVariables false
def cntH : Nat → Nat
  | 0 => 0
  | k + 1 => cntH k + if (headRow (k : Int)).isSome then 1 else 0
theorem cntH_all : cntH 64 = 18 := by decide +kernel
theorem cntH_le (k : Nat) : cntH k ≤ k := by
  induction k with
  | zero => exact Nat.le_refl _
  | succ k ih => rw [cntH]; split <;> omega
theorem names_one : ∀ r ∈ headT, ∀ q ∈ headT, r.2.1 = q.2.1 → r.1 = q.1 := by decide +kernel
theorem name_none (op : Int) (h : headRow op = none) (w : World) (h0 : -9223372036854775808 ≤ op ∧ op ≤ 9223372036854775807) (T : Tabs w) : Calls Tryd.prog 19 #[.int .i64 op] w fun e w' => e = .returned (.tuple #[.string ⟨#[]⟩, .iface 60 (.int .i64 1)]) ∧ Below w.heap.size w w' := by
  have := name_any op w h0 T
  rw [h] at this
  exact this
theorem name_some (op : Int) (r : HeadR) (S : ByteArray) (hS : S = ⟨r.2.1.toArray⟩) (h : headRow op = some r) (w : World) (h0 : -9223372036854775808 ≤ op ∧ op ≤ 9223372036854775807) (T : Tabs w) : Calls Tryd.prog 19 #[.int .i64 op] w fun e w' => e = .returned (.tuple #[.string S, .nilIface]) ∧ Below w.heap.size w w' := by
  have := name_any op w h0 T
  rw [h] at this
  rw [hS]
  exact this
set_option maxRecDepth 20000 in
set_option maxHeartbeats 2000000 in
theorem namesHead (a b : Int) (w : World) (ha : -9223372036854775808 ≤ a ∧ a ≤ 9223372036854775807) (hb : -9223372036854775808 ≤ b ∧ b ≤ 9223372036854775807) (T : Tabs w) (hS : w.ShapedOpen Tryd.prog) :
    Calls Tryd.prog 7 #[.int .i64 a, .int .i64 b] w fun e w' => e = .returned (.bool true) ∧ Below w.heap.size w w' := by
  go_enter Tryd.func7, Tryd.ntmps7
  go_wp2_with fail
  refine (headed_fact _ T hS).mono ?_
  rintro e w1 ⟨rfl, hb1⟩
  go_wp2_with fail
  go_loopw [5, 15] (fun n i wr => ∃ k : Nat, k ≤ 64 ∧ i = .int .i64 k ∧ n = .int .i64 (cntH k) ∧ Below w.heap.size w wr) (fun _ i _ => 64 - (intOf i).toNat)
  case atStart => exact ⟨0, Nat.zero_le _, rfl, rfl, hb1⟩
  case round =>
    obtain ⟨k, hk, rfl, rfl, hbw⟩ := hrel
    have hcl := cntH_le k
    by_cases hlt : k < 64
    · have hcs : cntH (k + 1) = cntH k + if (headRow (k : Int)).isSome then 1 else 0 := rfl
      rcases hr : headRow (k : Int) with _ | r
      · have hc : cntH (k + 1) = cntH k := by rw [hcs, hr]; rfl
        have HC := Lib.hid hc
        have HR := Lib.hid hr
        clear hc hcs hr
        go_wp2_with fail
        refine (name_none _ HR.out _ (by omega) (T.on hbw)).mono ?_
        rintro e w2 ⟨rfl, hb2⟩
        have hbw2 := below_step hbw hb2
        go_wp2_with fail
        go_roundw
        case rel => exact ⟨k + 1, by omega, by go_num, by rw [HC.out], hbw2⟩
        case measure => simp [intOf]; omega
      · have hc : cntH (k + 1) = cntH k + 1 := by rw [hcs, hr]; rfl
        have HC := Lib.hid hc
        have HR := Lib.hid hr
        clear hc hcs hr
        go_wp2_with fail
        refine (name_some _ r _ rfl HR.out _ (by omega) (T.on hbw)).mono ?_
        rintro e w2 ⟨rfl, hb2⟩
        have hbw2 := below_step hbw hb2
        go_wp2_with fail
        go_roundw
        case rel => exact ⟨k + 1, by omega, by go_num, by rw [HC.out]; go_num, hbw2⟩
        case measure => simp [intOf]; omega
    · have hk64 : k = 64 := by omega
      subst hk64
      rw [cntH_all]
      clear hcl hlt hk
      have hpa := pick_rng a 64 (by omega)
      have hpb := pick_rng b 64 (by omega)
      obtain ⟨x, hx⟩ : ∃ x, pickI a 64 = x := ⟨_, rfl⟩
      obtain ⟨y, hy⟩ : ∃ y, pickI b 64 = y := ⟨_, rfl⟩
      rw [hx] at hpa
      rw [hy] at hpb
      have HX := Lib.hid hx
      have HY := Lib.hid hy
      clear hx hy
      go_wp2_with fail
      refine (pick_any _ _ _ (by omega) (by omega)).mono ?_
      rintro e w' ⟨rfl, rfl⟩
      rw [HX.out]
      go_wp2_with fail
      refine (pick_any _ _ _ (by omega) (by omega)).mono ?_
      rintro e w' ⟨rfl, rfl⟩
      rw [HY.out]
      rcases hr : headRow x with _ | r
      · have HR := Lib.hid hr
        clear hr
        go_wp2_with fail
        refine (name_none _ HR.out _ (by omega) (T.on hbw)).mono ?_
        rintro e w2 ⟨rfl, hb2⟩
        have hbw2 := below_step hbw hb2
        rcases hq : headRow y with _ | q
        · have HQ := Lib.hid hq
          clear hq
          go_wp2_with fail
          refine (name_none _ HQ.out _ (by omega) (T.on hbw2)).mono ?_
          rintro e w3 ⟨rfl, hb3⟩
          go_wp2_with fail
          go_ret
          exact ⟨by simp, below_step hbw2 hb3⟩
        · have HQ := Lib.hid hq
          clear hq
          go_wp2_with fail
          refine (name_some _ q _ rfl HQ.out _ (by omega) (T.on hbw2)).mono ?_
          rintro e w3 ⟨rfl, hb3⟩
          go_wp2_with fail
          go_ret
          exact ⟨by simp, below_step hbw2 hb3⟩
      · have HR := Lib.hid hr
        obtain ⟨SR, hSR⟩ : ∃ S : ByteArray, S = ⟨r.2.1.toArray⟩ := ⟨_, rfl⟩
        have HSR := Lib.hid hSR
        clear hr
        go_wp2_with fail
        refine (name_some _ r SR HSR.out HR.out _ (by omega) (T.on hbw)).mono ?_
        rintro e w2 ⟨rfl, hb2⟩
        have hbw2 := below_step hbw hb2
        rcases hq : headRow y with _ | q
        · have HQ := Lib.hid hq
          clear hq hSR
          go_wp2_with fail
          refine (name_none _ HQ.out _ (by omega) (T.on hbw2)).mono ?_
          rintro e w3 ⟨rfl, hb3⟩
          go_wp2_with fail
          go_ret
          exact ⟨by simp, below_step hbw2 hb3⟩
        · have HQ := Lib.hid hq
          obtain ⟨SQ, hSQ⟩ : ∃ S : ByteArray, S = ⟨q.2.1.toArray⟩ := ⟨_, rfl⟩
          have HSQ := Lib.hid hSQ
          have hxy : (SR.toList == SQ.toList) = (x == y) := by
            have e1 : SR.data.toList = r.2.1 := by rw [hSR]
            have e2 : SQ.data.toList = q.2.1 := by rw [hSQ]
            have o1 := headRow_op HR.out
            have o2 := headRow_op HQ.out
            rw [toList_of, toList_of, e1, e2]
            by_cases h : x = y
            · subst h
              have : r = q := Option.some.inj (HR.out.symm.trans HQ.out)
              rw [this]; simp
            · have hne : r.2.1 ≠ q.2.1 := fun h2 => h (by
                have := names_one r (headRow_mem HR.out) q (headRow_mem HQ.out) h2
                omega)
              have f1 : (r.2.1 == q.2.1) = false := by simpa using hne
              have f2 : (x == y) = false := by simpa using h
              rw [f1, f2]
          have HXY := Lib.hid hxy
          clear hq hSR hSQ hxy
          go_wp2_with fail
          refine (name_some _ q SQ HSQ.out HQ.out _ (by omega) (T.on hbw2)).mono ?_
          rintro e w3 ⟨rfl, hb3⟩
          go_wp2_with fail
          go_ret
          exact ⟨by simp [HXY.out], below_step hbw2 hb3⟩
end Go.Proofs.YtefhgikpghpijaaDoor
