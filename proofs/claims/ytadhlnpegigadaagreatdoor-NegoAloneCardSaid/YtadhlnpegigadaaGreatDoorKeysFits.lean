/- keys.Fits. -/
import Derived.Test.YtadhlnpegigadaaGreatDoorKeysOf
import Derived.Test.YtadhlnpegigadaaGreatDoorKeysNum2
import Derived.Test.YtadhlnpegigadaaGreatDoorGkeys
namespace Go.Proofs.YtadhlnpegigadaaGreatDoor
open Go.ChangeShapes Go.WideShapes Go.ChangeAt Go.RowKit Go.Shelf
set_option linter.unusedVariables false
set_option linter.unusedSimpArgs false
theorem shapedK {w w' : World} (h : w.ShapedOpen Tryz.prog) (hb : Below w.heap.size w w') : w'.ShapedOpen Tryz.prog :=
  h.keptBut (hb.frame (fun _ => False)) (fun _ h => h.elim)
theorem of_none (n : ByteArray) (w : World) (h : keyRow n.data.toList = none) (T : Tabs w) : Calls Tryz.prog 35 #[.string n] w fun e w' => e = .returned (.tuple #[zeroK, .iface 53 (.int .i64 5)]) ∧ Below w.heap.size w w' := by
  refine (keysOf_any n w T).mono ?_
  rintro e w' ⟨rfl, hb⟩
  unfold ofV
  rw [h]
  exact ⟨rfl, hb⟩
theorem of_kind (n : ByteArray) (r : KeyR) (K : Int) (w : World) (h : keyRow n.data.toList = some r) (hK : (r.kind : Int) = K) (T : Tabs w) : Calls Tryz.prog 35 #[.string n] w fun e w' =>
    e = .returned (.tuple #[.agg #[.string ⟨r.name.toArray⟩, .int .i64 K, .int .i64 r.low, .int .i64 r.high, .string ⟨(dfl r).toArray⟩, .bool r.noth, .bool r.lonly], .nilIface]) ∧ Below w.heap.size w w' := by
  refine (keysOf_any n w T).mono ?_
  rintro e w' ⟨rfl, hb⟩
  unfold ofV
  rw [h]
  subst hK
  exact ⟨rfl, hb⟩
theorem numeral_to (s : ByteArray) (low high : Int) (hs : s.size ≤ 1000000) (w : World) (E : Errs w) : Calls Tryz.prog 64 #[.string s, .int .i64 low, .int .i64 high] w fun e w' =>
    ∃ x : Int, e = .returned (.tuple #[.int .i64 x, errv (numeralE s.data.toList low high)]) ∧ Below w.heap.size w w' := by
  refine (numeral_any s low high hs w E).mono ?_
  rintro e w' ⟨rfl, hb⟩
  unfold numeralV numeralE
  rcases numP s.data.toList with _ | n
  · exact ⟨_, rfl, hb⟩
  · simp only
    split
    · exact ⟨_, rfl, hb⟩
    · exact ⟨_, rfl, hb⟩
theorem list_to (s : ByteArray) (w : World) (hs : s.size ≤ 1000000) (hS : w.ShapedOpen Tryz.prog) : Calls Tryz.prog 65 #[.string s] w fun e w' =>
    ∃ v, e = .returned (.tuple #[v, errv (if (listP s.data.toList).isSome then 0 else 3)]) ∧ Below w.heap.size w w' := by
  refine (list_any s w hs hS).mono ?_
  rintro e w' ⟨hl, hb⟩
  unfold ListIs at hl
  rcases hp : listP s.data.toList with _ | ws
  · rw [hp] at hl
    exact ⟨_, hl, hb⟩
  · rw [hp] at hl
    exact ⟨_, hl.1, hb⟩
theorem kinds_of (r : KeyR) (h : r.kind ≤ 7) : (r.kind : Int) = 0 ∨ (r.kind : Int) = 1 ∨ (r.kind : Int) = 2 ∨ (r.kind : Int) = 3 ∨ (r.kind : Int) = 4 ∨ (r.kind : Int) = 5 ∨ (r.kind : Int) = 6 ∨ (r.kind : Int) = 7 := by omega
theorem eq_facts (v : ByteArray) (l : List UInt8) (h : v.data.toList = l) : (v.toList == l) = true ∧ (v.toList != l) = false := by
  rw [toList_of, h]
  simp
theorem ne_facts (v : ByteArray) (l : List UInt8) (h : ¬ v.data.toList = l) : (v.toList == l) = false ∧ (v.toList != l) = true := by
  rw [toList_of]
  simp [h]
theorem isYN_yes {l : List UInt8} (h : l = [89, 101, 115] ∨ l = [78, 111]) : isYN l = true := by rcases h with rfl | rfl <;> rfl
theorem isYN_no {l : List UInt8} (h1 : ¬ l = [89, 101, 115]) (h2 : ¬ l = [78, 111]) : isYN l = false := by unfold isYN; simp [h1, h2]
set_option maxRecDepth 20000 in
set_option maxHeartbeats 4000000 in
theorem fits_any (n v : ByteArray) (w : World) (hv : v.size ≤ 1000000) (T : Tabs w) (E : Errs w) (hS : w.ShapedOpen Tryz.prog) : Calls Tryz.prog 36 #[.string n, .string v] w fun e w' => e = .returned (errv (fitsE n.data.toList v.data.toList)) ∧ Below w.heap.size w w' := by
  unfold fitsE
  rcases hr : keyRow n.data.toList with _ | r
  · have HR := Lib.hid hr
    clear hr
    go_enter Tryz.func36, Tryz.ntmps36
    go_wp2_with fail
    refine (of_none n _ HR.out T).mono ?_
    rintro e w1 ⟨rfl, hb1⟩
    unfold zeroK
    go_wp2_with fail
    go_ret
    exact ⟨rfl, below_step hb1 ((Below.refl _ _).alloc (Nat.le_refl _) _)⟩
  · have HR := Lib.hid hr
    have hm := keyRow_mem hr
    have hk7 := keyT_len r hm
    have hlo : (r.low : Int) ≤ 16777215 := by omega
    have hhi : (r.high : Int) ≤ 16777215 := by omega
    clear hr hm
    simp only
    unfold fitsR
    rcases kinds_of r hk7.2.2.2.1 with hK | hK | hK | hK | hK | hK | hK | hK
    · have HK := Lib.hid hK
      rw [if_neg (by omega), if_neg (by omega), if_neg (by omega)]
      clear hK hk7
      by_cases h0 : v.data.toList = []
      · have f1 : v.toList = [] := (toList_of v).trans h0
        have f2 : v.toList.isEmpty = true := by rw [f1]; rfl
        rw [if_pos h0]
        clear h0
        go_enter Tryz.func36, Tryz.ntmps36
        go_wp2_with fail
        refine (of_kind n r _ _ HR.out HK.out T).mono ?_
        rintro e w1 ⟨rfl, hb1⟩
        go_wp2_with fail
        go_ret
        exact ⟨rfl, below_step hb1 ((Below.refl _ _).alloc (Nat.le_refl _) _)⟩
      · have f1 : ¬ v.toList = [] := by rw [toList_of]; exact h0
        have f2 : v.toList.isEmpty = false := by
          rcases hl : v.toList with _ | ⟨y, l⟩
          · exact absurd hl f1
          · rfl
        rw [if_neg h0]
        clear h0
        go_enter Tryz.func36, Tryz.ntmps36
        go_wp2_with fail
        refine (of_kind n r _ _ HR.out HK.out T).mono ?_
        rintro e w1 ⟨rfl, hb1⟩
        go_wp2_with fail
        go_ret
        exact ⟨rfl, below_step hb1 ((Below.refl _ _).alloc (Nat.le_refl _) _)⟩
    · have HK := Lib.hid hK
      rw [if_pos (by omega)]
      clear hK hk7
      by_cases h1 : v.data.toList = [89, 101, 115]
      · obtain ⟨f1, f2⟩ := eq_facts v _ h1
        rw [isYN_yes (.inl h1), if_pos rfl]
        clear h1
        go_enter Tryz.func36, Tryz.ntmps36
        go_wp2_with fail
        refine (of_kind n r _ _ HR.out HK.out T).mono ?_
        rintro e w1 ⟨rfl, hb1⟩
        go_wp2_with fail
        go_ret
        exact ⟨rfl, below_step hb1 ((Below.refl _ _).alloc (Nat.le_refl _) _)⟩
      · obtain ⟨f1, f2⟩ := ne_facts v _ h1
        by_cases h2 : v.data.toList = [78, 111]
        · obtain ⟨f3, f4⟩ := eq_facts v _ h2
          rw [isYN_yes (.inr h2), if_pos rfl]
          clear h1 h2
          go_enter Tryz.func36, Tryz.ntmps36
          go_wp2_with fail
          refine (of_kind n r _ _ HR.out HK.out T).mono ?_
          rintro e w1 ⟨rfl, hb1⟩
          go_wp2_with fail
          go_ret
          exact ⟨rfl, below_step hb1 ((Below.refl _ _).alloc (Nat.le_refl _) _)⟩
        · obtain ⟨f3, f4⟩ := ne_facts v _ h2
          rw [isYN_no h1 h2, if_neg (by simp)]
          clear h1 h2
          go_enter Tryz.func36, Tryz.ntmps36
          go_wp2_with fail
          refine (of_kind n r _ _ HR.out HK.out T).mono ?_
          rintro e w1 ⟨rfl, hb1⟩
          go_wp2_with fail
          go_ret
          exact ⟨rfl, below_step hb1 ((Below.refl _ _).alloc (Nat.le_refl _) _)⟩
    · have HK := Lib.hid hK
      rw [if_pos (by omega)]
      clear hK hk7
      by_cases h1 : v.data.toList = [89, 101, 115]
      · obtain ⟨f1, f2⟩ := eq_facts v _ h1
        rw [isYN_yes (.inl h1), if_pos rfl]
        clear h1
        go_enter Tryz.func36, Tryz.ntmps36
        go_wp2_with fail
        refine (of_kind n r _ _ HR.out HK.out T).mono ?_
        rintro e w1 ⟨rfl, hb1⟩
        go_wp2_with fail
        go_ret
        exact ⟨rfl, below_step hb1 ((Below.refl _ _).alloc (Nat.le_refl _) _)⟩
      · obtain ⟨f1, f2⟩ := ne_facts v _ h1
        by_cases h2 : v.data.toList = [78, 111]
        · obtain ⟨f3, f4⟩ := eq_facts v _ h2
          rw [isYN_yes (.inr h2), if_pos rfl]
          clear h1 h2
          go_enter Tryz.func36, Tryz.ntmps36
          go_wp2_with fail
          refine (of_kind n r _ _ HR.out HK.out T).mono ?_
          rintro e w1 ⟨rfl, hb1⟩
          go_wp2_with fail
          go_ret
          exact ⟨rfl, below_step hb1 ((Below.refl _ _).alloc (Nat.le_refl _) _)⟩
        · obtain ⟨f3, f4⟩ := ne_facts v _ h2
          rw [isYN_no h1 h2, if_neg (by simp)]
          clear h1 h2
          go_enter Tryz.func36, Tryz.ntmps36
          go_wp2_with fail
          refine (of_kind n r _ _ HR.out HK.out T).mono ?_
          rintro e w1 ⟨rfl, hb1⟩
          go_wp2_with fail
          go_ret
          exact ⟨rfl, below_step hb1 ((Below.refl _ _).alloc (Nat.le_refl _) _)⟩
    · have HK := Lib.hid hK
      rw [if_neg (by omega), if_pos (by omega)]
      clear hK hk7
      go_enter Tryz.func36, Tryz.ntmps36
      go_wp2_with fail
      refine (of_kind n r _ _ HR.out HK.out T).mono ?_
      rintro e w1 ⟨rfl, hb1⟩
      go_wp2_with fail
      have hb2 : Below w.heap.size w (w1.alloc (.cells #[.string ⟨r.name.toArray⟩, .int .i64 3, .int .i64 r.low, .int .i64 r.high, .string ⟨(dfl r).toArray⟩, .bool r.noth, .bool r.lonly] 58)) := below_step hb1 ((Below.refl _ _).alloc (Nat.le_refl _) _)
      refine (numeral_to v _ _ hv _ (E.on hb2)).mono ?_
      rintro e w3 ⟨x, rfl, hb3⟩
      go_wp2_with fail
      go_ret
      exact ⟨rfl, below_step hb2 hb3⟩
    · have HK := Lib.hid hK
      rw [if_neg (by omega), if_pos (by omega)]
      clear hK hk7
      go_enter Tryz.func36, Tryz.ntmps36
      go_wp2_with fail
      refine (of_kind n r _ _ HR.out HK.out T).mono ?_
      rintro e w1 ⟨rfl, hb1⟩
      go_wp2_with fail
      have hb2 : Below w.heap.size w (w1.alloc (.cells #[.string ⟨r.name.toArray⟩, .int .i64 4, .int .i64 r.low, .int .i64 r.high, .string ⟨(dfl r).toArray⟩, .bool r.noth, .bool r.lonly] 58)) := below_step hb1 ((Below.refl _ _).alloc (Nat.le_refl _) _)
      refine (numeral_to v _ _ hv _ (E.on hb2)).mono ?_
      rintro e w3 ⟨x, rfl, hb3⟩
      go_wp2_with fail
      go_ret
      exact ⟨rfl, below_step hb2 hb3⟩
    · have HK := Lib.hid hK
      rw [if_neg (by omega), if_neg (by omega), if_pos (by omega)]
      clear hK hk7
      go_enter Tryz.func36, Tryz.ntmps36
      go_wp2_with fail
      refine (of_kind n r _ _ HR.out HK.out T).mono ?_
      rintro e w1 ⟨rfl, hb1⟩
      go_wp2_with fail
      have hb2 : Below w.heap.size w (w1.alloc (.cells #[.string ⟨r.name.toArray⟩, .int .i64 5, .int .i64 r.low, .int .i64 r.high, .string ⟨(dfl r).toArray⟩, .bool r.noth, .bool r.lonly] 58)) := below_step hb1 ((Below.refl _ _).alloc (Nat.le_refl _) _)
      refine (list_to v _ hv (shapedK hS hb2)).mono ?_
      rintro e w3 ⟨x, rfl, hb3⟩
      go_wp2_with fail
      all_goals
        go_ret
        exact ⟨rfl, below_step hb2 hb3⟩
    · have HK := Lib.hid hK
      rw [if_neg (by omega), if_neg (by omega), if_neg (by omega)]
      clear hK hk7
      by_cases h0 : v.data.toList = []
      · have f1 : v.toList = [] := (toList_of v).trans h0
        have f2 : v.toList.isEmpty = true := by rw [f1]; rfl
        rw [if_pos h0]
        clear h0
        go_enter Tryz.func36, Tryz.ntmps36
        go_wp2_with fail
        refine (of_kind n r _ _ HR.out HK.out T).mono ?_
        rintro e w1 ⟨rfl, hb1⟩
        go_wp2_with fail
        go_ret
        exact ⟨rfl, below_step hb1 ((Below.refl _ _).alloc (Nat.le_refl _) _)⟩
      · have f1 : ¬ v.toList = [] := by rw [toList_of]; exact h0
        have f2 : v.toList.isEmpty = false := by
          rcases hl : v.toList with _ | ⟨y, l⟩
          · exact absurd hl f1
          · rfl
        rw [if_neg h0]
        clear h0
        go_enter Tryz.func36, Tryz.ntmps36
        go_wp2_with fail
        refine (of_kind n r _ _ HR.out HK.out T).mono ?_
        rintro e w1 ⟨rfl, hb1⟩
        go_wp2_with fail
        go_ret
        exact ⟨rfl, below_step hb1 ((Below.refl _ _).alloc (Nat.le_refl _) _)⟩
    · have HK := Lib.hid hK
      rw [if_neg (by omega), if_pos (by omega)]
      clear hK hk7
      go_enter Tryz.func36, Tryz.ntmps36
      go_wp2_with fail
      refine (of_kind n r _ _ HR.out HK.out T).mono ?_
      rintro e w1 ⟨rfl, hb1⟩
      go_wp2_with fail
      have hb2 : Below w.heap.size w (w1.alloc (.cells #[.string ⟨r.name.toArray⟩, .int .i64 7, .int .i64 r.low, .int .i64 r.high, .string ⟨(dfl r).toArray⟩, .bool r.noth, .bool r.lonly] 58)) := below_step hb1 ((Below.refl _ _).alloc (Nat.le_refl _) _)
      refine (numeral_to v _ _ hv _ (E.on hb2)).mono ?_
      rintro e w3 ⟨x, rfl, hb3⟩
      go_wp2_with fail
      go_ret
      exact ⟨rfl, below_step hb2 hb3⟩
end Go.Proofs.YtadhlnpegigadaaGreatDoor
