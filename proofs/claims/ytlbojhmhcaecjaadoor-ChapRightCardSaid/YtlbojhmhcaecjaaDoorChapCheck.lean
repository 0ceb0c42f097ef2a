/- The contract of chap.Check: what it tells of a value. -/
import Derived.Test.YtlbojhmhcaecjaaDoorChap
import Derived.Test.YtlbojhmhcaecjaaDoorChapFind
import Derived.Test.YtlbojhmhcaecjaaDoorBinRead
namespace Go.Proofs.YtlbojhmhcaecjaaDoor
open Go.ChangeShapes Go.WideShapes Go.ChangeAt Go.RowKit
set_option linter.unusedVariables false
theorem readB_inl (s : List UInt8) (k : Nat) (o : Option Nat) (h : readB s = .inl (k, o)) : (o = none ∧ (k = 3 ∨ k = 7)) ∨ (k = 3 ∧ ∃ p, o = some p) := by
  have hb : ∀ x, binAt x = .inl (k, o) → (o = none ∧ (k = 3 ∨ k = 7)) ∨ (k = 3 ∧ ∃ p, o = some p) := by
    intro x hx
    unfold binAt at hx
    split at hx
    · injection hx with hx; injection hx with h1 h2; exact .inr ⟨h1.symm, _, h2.symm⟩
    · cases hx
  unfold readB at h
  split at h
  · injection h with h; injection h with h h2; exact .inl ⟨h2.symm, .inl h.symm⟩
  · split at h
    · unfold unhexR at h
      split at h
      · injection h with h; injection h with h h2; exact .inl ⟨h2.symm, .inr h.symm⟩
      · exact hb _ h
    · split at h
      · unfold unbaseR at h
        split at h
        · injection h with h; injection h with h h2; exact .inl ⟨h2.symm, .inr h.symm⟩
        · exact hb _ h
      · injection h with h; injection h with h h2; exact .inl ⟨h2.symm, .inl h.symm⟩
def checkR (s : ByteArray) (g : List UInt8) (id : Int) (ch : ByteArray) : Nat :=
  if id < 0 ∨ 255 < id then 2 else if 100 < s.size ∨ ch.size = 0 ∨ 100 < ch.size then 4 else if g = respL id s ch then 0 else 13
def checkN (l : PairL) (name value : ByteArray) (id : Int) (ch : ByteArray) : Nat :=
  match findU l name with
  | none => 8
  | some u => match readB value.data.toList with
    | .inl (k, _) => k
    | .inr g => checkR u.2 g id ch
set_option maxRecDepth 20000 in
set_option maxHeartbeats 2000000 in
theorem check_any (l : PairL) (v : Value) (name value ch : ByteArray) (id : Int) (w : World) (hL : LaidE w) (hv : SRd w v 2 l.length (pairCells l)) (hl : ∀ p ∈ l, p.2.size ≤ 1000000) (hval : value.size ≤ 1000000) (hch : ch.size ≤ 1000000) :
    Calls Tryd.prog 24 #[v, .string name, .string value, .agg #[.int .i64 id, .string ch]] w fun e w' => e = .returned (errv (checkN l name value id ch)) ∧ Below w.heap.size w w' := by
  have HL2 := Lib.hid hl
  clear hl
  have hbA : Below w.heap.size w (w.alloc (.cells #[.int .i64 id, .string ch] 44)) := (Below.refl _ _).alloc (Nat.le_refl _) _
  have hv1 := hv.on hbA
  obtain ⟨N, hN⟩ : ∃ N, checkN l name value id ch = N := ⟨_, rfl⟩
  rw [hN]
  go_enter Tryd.func24, Tryd.ntmps24
  go_wp2_with fail
  refine (findU_any l v name _ hv1).mono ?_
  rintro e w1 ⟨rfl, hb1⟩
  cases hf : findU l name with
  | none =>
    have hz : N = 8 := by rw [← hN, checkN, hf]
    subst hz
    unfold findUV
    go_wp2_with fail
    go_ret
    exact ⟨rfl, (below_step hbA hb1).alloc (below_step hbA hb1).size _⟩
  | some u =>
    obtain ⟨p1, p2⟩ := u
    have hz : N = (match readB value.data.toList with | .inl (k, _) => k | .inr g => checkR p2 g id ch) := by rw [← hN, checkN, hf]
    have hp2 : p2.size ≤ 1000000 := by
      have : ∀ l : PairL, (∀ p ∈ l, p.2.size ≤ 1000000) → findU l name = some (p1, p2) → p2.size ≤ 1000000 := by
        intro l
        induction l with
        | nil => intro _ h; simp [findU] at h
        | cons q r ih =>
          intro h1 h2
          rw [findU] at h2
          split at h2
          · injection h2 with h2; subst h2; exact h1 _ (List.mem_cons_self ..)
          · exact ih (fun p hp => h1 p (List.mem_cons_of_mem _ hp)) h2
      exact this l HL2.out hf
    clear HL2 hN hv hv1
    have hbw1 := below_step hbA hb1
    have hbw1a := hbw1.alloc hbw1.size (.cells #[.string p1, .string p2] 46)
    have hBd : Blk w1 w.heap.size 44 #[.int .i64 id, .string ch] := (Blk.new w _ _).below hb1 (by simp)
    have hBd1 := hBd.alloc (.cells #[.string p1, .string p2] 46)
    have hBu1 := Blk.new w1 46 #[.string p1, .string p2]
    unfold findUV
    simp only
    cases hr : readB value.data.toList with
    | inl e =>
      obtain ⟨k, o⟩ := e
      rw [hr] at hz
      simp only at hz
      subst hz
      rcases readB_inl _ _ _ hr with ⟨rfl, rfl | rfl⟩ | ⟨rfl, p, rfl⟩
      · go_wp2_with fail
        refine (read_no value 3 _ (by omega) hr).mono ?_
        rintro e w2 ⟨rfl, hb2⟩
        rw [show errv 3 = .iface 32 (.int .i64 3) from rfl]
        have hbw2 := below_step hbw1a hb2
        have hL2 := hL.on hbw2
        go_wp2_with fail
        refine (tell_errno 3 _ hL2).mono ?_
        rintro e w3 ⟨rfl, hb3⟩
        go_wp2_with fail
        go_ret
        exact ⟨rfl, below_step hbw2 hb3⟩
      · go_wp2_with fail
        refine (read_no value 7 _ (by omega) hr).mono ?_
        rintro e w2 ⟨rfl, hb2⟩
        rw [show errv 7 = .iface 32 (.int .i64 7) from rfl]
        have hbw2 := below_step hbw1a hb2
        have hL2 := hL.on hbw2
        go_wp2_with fail
        refine (tell_errno 7 _ hL2).mono ?_
        rintro e w3 ⟨rfl, hb3⟩
        go_wp2_with fail
        go_ret
        exact ⟨rfl, below_step hbw2 hb3⟩
      · go_wp2_with fail
        refine (read_at value p _ (by omega) hr).mono ?_
        rintro e w2 ⟨g, rfl, hB, hb2⟩
        have hbw2 := below_step hbw1a hb2
        have hL2 := hL.on hbw2
        go_wp2_with fail
        refine (tell_at g _ _ _ hL2 hB).mono ?_
        rintro e w3 ⟨rfl, hb3⟩
        go_wp2_with fail
        go_ret
        exact ⟨rfl, below_step hbw2 hb3⟩
    | inr g =>
      rw [hr] at hz
      simp only at hz
      go_wp2_with fail
      refine (read_ok value g _ (by omega) hr).mono ?_
      rintro e w2 ⟨rfl, hb2⟩
      have hbw2 := below_step hbw1a hb2
      have hBd2 := hBd1.below hb2 hBd1.lt
      have hBu2 := hBu1.below hb2 hBu1.lt
      have d0 := hBd2.cell 0
      have d1 := hBd2.cell 1
      have q0 := hBu2.cell 0
      have q1 := hBu2.cell 1
      obtain ⟨G, hG⟩ : ∃ G : ByteArray, (⟨g.toArray⟩ : ByteArray) = G := ⟨_, rfl⟩
      rw [hG]
      have HZ := Lib.hid hz
      clear hz
      by_cases hi : id < 0 ∨ 255 < id
      · have hz : N = 2 := by rw [HZ.out, checkR, if_pos hi]
        subst hz
        go_wp2_with fail
        refine (resp_range id p2 ch _ hi).mono ?_
        rintro e w3 ⟨rfl, rfl⟩
        rw [show errv 2 = .iface 32 (.int .i64 2) from rfl]
        go_wp2_with fail
        go_ret
        exact ⟨rfl, hbw2⟩
      · by_cases hm : 100 < p2.size ∨ ch.size = 0 ∨ 100 < ch.size
        · have hz : N = 4 := by rw [HZ.out, checkR, if_neg hi, if_pos hm]
          subst hz
          go_wp2_with fail
          refine (resp_limit id p2 ch _ (by omega) (by omega) hp2 hch hm).mono ?_
          rintro e w3 ⟨rfl, rfl⟩
          rw [show errv 4 = .iface 32 (.int .i64 4) from rfl]
          go_wp2_with fail
          go_ret
          exact ⟨rfl, hbw2⟩
        · have hz : N = if g = respL id p2 ch then 0 else 13 := by rw [HZ.out, checkR, if_neg hi, if_neg hm]
          have HZ2 := Lib.hid hz
          clear hz
          have hN2 : ∃ R : ByteArray, (⟨(respL id p2 ch).toArray⟩ : ByteArray) = R := ⟨_, rfl⟩
          obtain ⟨R, hR⟩ := hN2
          go_wp2_with fail
          refine (resp_ok id p2 ch _ (by omega) (by omega) (by omega) (by omega) (by omega)).mono ?_
          rintro e w3 ⟨rfl, hb3⟩
          rw [hR]
          have hbw3 := below_step hbw2 hb3
          by_cases hq : g = respL id p2 ch
          · have hz : N = 0 := by rw [HZ2.out, if_pos hq]
            subst hz
            have f1 : (G.toList == R.toList) = true := by rw [← hG, ← hR, hq]; simp
            have f2 : (G.toList != R.toList) = false := by rw [bne, f1]; rfl
            clear HZ2
            go_wp2_with fail
            go_ret
            exact ⟨rfl, hbw3⟩
          · have hz : N = 13 := by rw [HZ2.out, if_neg hq]
            subst hz
            have f1 : (G.toList == R.toList) = false := by
              rw [← hG, ← hR, toList_of, toList_of]
              simpa using hq
            have f2 : (G.toList != R.toList) = true := by rw [bne, f1]; rfl
            clear HZ2
            go_wp2_with fail
            go_ret
            exact ⟨rfl, hbw3⟩
end Go.Proofs.YtlbojhmhcaecjaaDoor
