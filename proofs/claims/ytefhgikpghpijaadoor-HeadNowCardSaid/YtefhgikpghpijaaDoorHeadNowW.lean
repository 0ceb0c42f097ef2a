/- The walk of the law HeadNow. -/
import Derived.Test.YtefhgikpghpijaaDoorHeadBackW
import Derived.Deep.Cut
namespace Go.Proofs.YtefhgikpghpijaaDoor
open Go.ChangeShapes Go.WideShapes Go.ChangeAt Go.RowKit
set_option linter.unusedVariables false
theorem layAt_cons (x : UInt8) (b : List UInt8) (p : Nat) (s : List UInt8) (hp : 1 ≤ p) : layAt (x :: b) p s = x :: layAt b (p - 1) s := by
  obtain ⟨q, rfl⟩ : ∃ q, p = q + 1 := ⟨p - 1, by omega⟩
  unfold layAt
  rw [show q + 1 + s.length = (q + s.length) + 1 by omega]
  simp
theorem layAll_cons : ∀ (fs : FieldL) (vs : List Nat) (x : UInt8) (b : List UInt8), okAll fs = true → layAll (x :: b) fs vs = x :: layAll b (fs.map fun f => (f.1, f.2.1 - 1, f.2.2)) vs
  | [], vs, x, b, _ => by cases vs <;> rfl
  | f :: fs, [], x, b, _ => rfl
  | f :: fs, v :: vs, x, b, h => by
    simp only [okAll, okF, Bool.and_eq_true, decide_eq_true_eq] at h
    rw [layAll, layAt_cons _ _ _ _ (by omega), layAll_cons fs vs _ _ h.2]
    rfl
theorem right_now (op fl : Int) (vals : List Nat) (h : op < 32) : rightR op true fl vals = rightR op false fl vals := by
  unfold rightR badR
  rw [decide_eq_false (show ¬ 32 ≤ op by omega)]
  simp only [Bool.and_false]
theorem right_late (op fl : Int) (vals : List Nat) (h : 32 ≤ op) : ∃ E, rightR op true fl vals = some E := by
  unfold rightR
  cases headRow op with
  | none => exact ⟨_, rfl⟩
  | some r =>
    have hb : badR r op true fl = true := by unfold badR; rw [decide_eq_true h]; simp
    simp only [hb, if_true]
    exact ⟨_, rfl⟩
theorem or64i : ∀ k : Fin 64, bits .or .u8 ((k.val : Nat) : Int) 64 = ((k.val + 64 : Nat) : Int) := by decide +kernel
set_option maxRecDepth 20000 in
set_option maxHeartbeats 2000000 in
theorem nowHead (op : Int) (now : Bool) (fl : Int) (l : List Nat) (u : Value) (words data : Int) (w : World) (h0 : -9223372036854775808 ≤ op ∧ op ≤ 9223372036854775807) (hf : -9223372036854775808 ≤ fl ∧ fl ≤ 9223372036854775807)
    (hu : SRd w u 1 l.length (l.map u64V)) (hl : ∀ x ∈ l, x < 18446744073709551616) (hw : -9223372036854775808 ≤ words ∧ words ≤ 9223372036854775807) (hd : -9223372036854775808 ≤ data ∧ data ≤ 9223372036854775807) (T : Tabs w) (hS : w.ShapedOpen Tryd.prog) :
    Calls Tryd.prog 5 #[.agg #[.int .i64 op, .bool now, .int .i64 fl, u], .int .i64 words, .int .i64 data] w fun e w' => e = .returned (.bool true) ∧ Below w.heap.size w w' := by
  obtain ⟨A, cap, rfl⟩ : ∃ A cap, u = .slice A l.length cap := by obtain ⟨_, A, cap, hv, _⟩ := hu; exact ⟨A, cap, hv⟩
  have hb0 : Below w.heap.size w (w.alloc (.cells #[.int .i64 op, .bool now, .int .i64 fl, .slice A l.length cap] 24)) := (Below.refl _ _).alloc (Nat.le_refl _) _
  have hB0 := Blk.new w 24 #[.int .i64 op, .bool now, .int .i64 fl, .slice A l.length cap]
  obtain ⟨g, hg⟩ : ∃ g, w.heap.size = g := ⟨_, rfl⟩
  go_enter Tryd.func5, Tryd.ntmps5
  go_wp2_with fail
  obtain ⟨w0, hw0⟩ : ∃ w0 : World, w.alloc (.cells #[.int .i64 op, .bool now, .int .i64 fl, .slice A l.length cap] 24) = w0 := ⟨_, rfl⟩
  rw [hw0] at hb0 hB0 ⊢
  clear hw0
  rw [hg] at hB0
  try rw [hg]
  refine (headed_fact _ (T.on hb0) (shaped_ons hS hb0)).mono ?_
  rintro e w1 ⟨rfl, hb1⟩
  have hbw1 := below_step hb0 hb1
  have hB1 := hB0.below hb1 hB0.lt
  have c0 := hB1.cell 0
  have c1 := hB1.cell 1
  have c2 := hB1.cell 2
  have c3 := hB1.cell 3
  have hmax : l.length ≤ cap ∧ cap ≤ maxLen := by
    obtain ⟨_, A2, cap2, hv, h1, h2, _⟩ := hu
    injection hv with k1 k2 k3
    subst k3
    exact ⟨h1, h2⟩
  unfold maxLen at hmax
  by_cases h3 : 50 < l.length
  · go_wp2_with fail
    go_ret
    exact ⟨rfl, hbw1⟩
  have hpa := pick_rng words 256 (by omega)
  have hpb := pick_rng data 16777216 (by omega)
  obtain ⟨x, hx⟩ : ∃ x, pickI words 256 = x := ⟨_, rfl⟩
  obtain ⟨y, hy⟩ : ∃ y, pickI data 16777216 = y := ⟨_, rfl⟩
  rw [hx] at hpa
  rw [hy] at hpb
  have HX := Lib.hid hx
  have HY := Lib.hid hy
  clear hx hy
  go_wp2_with fail
  refine (pick_any _ _ _ (by omega) (by omega)).mono ?_
  rintro e w' ⟨rfl, rfl⟩
  rw [HX.out]
  go_wp2_with fail
  refine (pick_any _ _ _ (by omega) (by omega)).mono ?_
  rintro e w' ⟨rfl, rfl⟩
  rw [HY.out]
  have hu1 := hu.on hbw1
  have T1 := T.on hbw1
  have S1 := shaped_ons hS hbw1
  have hBl := hB1.lt
  obtain ⟨W2, hW2⟩ : ∃ W2 : World, ((w1.alloc (.cells #[.int .i64 op, .bool now, .int .i64 fl, .slice A l.length cap] 24)).alloc (.cells #[.int .i64 op, .bool now, .int .i64 fl, .slice A l.length cap] 24)).drew = W2 := ⟨_, rfl⟩
  have hP1 : Blk W2 w1.heap.size 24 #[.int .i64 op, .bool now, .int .i64 fl, .slice A l.length cap] := by
    rw [← hW2]; exact ((Blk.new w1 _ _).alloc _).drew
  have hP2 : Blk W2 (w1.heap.size + 1) 24 #[.int .i64 op, .bool now, .int .i64 fl, .slice A l.length cap] := by
    rw [← hW2]
    have := Blk.new (w1.alloc (.cells #[.int .i64 op, .bool now, .int .i64 fl, .slice A l.length cap] 24)) 24 #[.int .i64 op, .bool now, .int .i64 fl, .slice A l.length cap]
    have e : (w1.alloc (.cells #[.int .i64 op, .bool now, .int .i64 fl, .slice A l.length cap] 24)).heap.size = w1.heap.size + 1 := by simp
    rw [e] at this
    exact this.drew
  have hb12 : Below w1.heap.size w1 W2 := by
    rw [← hW2]; exact (((Below.refl _ _).alloc (Nat.le_refl _) _).alloc (by simp) _).drew
  have hP0 := hB1.below hb12 hBl
  go_wp2_with fail
  go_region
  obtain ⟨n1, hn1⟩ : ∃ n1, w1.heap.size = n1 := ⟨_, rfl⟩
  obtain ⟨QA, hQA⟩ : ∃ q, w1.heap.size = q := ⟨_, rfl⟩
  obtain ⟨QB, hQB⟩ : ∃ q, QA + 1 = q := ⟨_, rfl⟩
  try rw [hn1]
  try rw [hn1] at hQA hP1 hP2
  try rw [hQA]
  try rw [hQB]
  have hA : Blk W2 QA 24 #[.int .i64 op, .bool now, .int .i64 fl, .slice A l.length cap] := by rw [← hQA]; exact hP1
  have hB : Blk W2 QB 24 #[.int .i64 op, .bool now, .int .i64 fl, .slice A l.length cap] := by rw [← hQB, ← hQA]; exact hP2
  have hne : QA ≠ QB ∧ n1 ≤ QA ∧ n1 ≤ QB := by omega
  rotate_left
  obtain ⟨n1, hn1⟩ : ∃ n1, w1.heap.size = n1 := ⟨_, rfl⟩
  obtain ⟨QB, hQB⟩ : ∃ q, w1.heap.size = q := ⟨_, rfl⟩
  obtain ⟨QA, hQA⟩ : ∃ q, QB + 1 = q := ⟨_, rfl⟩
  try rw [hn1]
  try rw [hn1] at hQB hP1 hP2
  try rw [hQB]
  try rw [hQA]
  have hB : Blk W2 QB 24 #[.int .i64 op, .bool now, .int .i64 fl, .slice A l.length cap] := by rw [← hQB]; exact hP1
  have hA : Blk W2 QA 24 #[.int .i64 op, .bool now, .int .i64 fl, .slice A l.length cap] := by rw [← hQA, ← hQB]; exact hP2
  have hne : QA ≠ QB ∧ n1 ≤ QA ∧ n1 ≤ QB := by omega
  all_goals
    try rw [hW2]
    clear hW2 hP1 hP2 hQA hQB
    obtain ⟨W3, hW3⟩ : ∃ W3 : World, (W2.setCell ⟨QA, 1, none⟩ (.bool false)).setCell ⟨QB, 1, none⟩ (.bool true) = W3 := ⟨_, rfl⟩
    have hA3 : Blk W3 QA 24 #[.int .i64 op, .bool false, .int .i64 fl, .slice A l.length cap] := by
      rw [← hW3]; exact (hA.put 1 _).far hne.1 _
    have hB3 : Blk W3 QB 24 #[.int .i64 op, .bool true, .int .i64 fl, .slice A l.length cap] := by
      rw [← hW3]; exact (hB.far (Ne.symm hne.1) _).put 1 _
    have hG3 : Blk W3 g 24 #[.int .i64 op, .bool now, .int .i64 fl, .slice A l.length cap] := by
      rw [← hW3]; exact (hP0.far (by show g ≠ QA; omega) _).far (by show g ≠ QB; omega) _
    have hb23 : Below n1 W2 W3 := by
      rw [← hW3]
      refine ((Step.setCell QA 1 W2 _).below hne.2.1 ?_).trans ((Step.setCell QB 1 _ _).below hne.2.2 ?_)
      · rw [← hn1]; exact hb12.size
      · rw [← hn1]; exact Nat.le_trans hb12.size (Step.setCell QA 1 W2 (.bool false)).size
    rw [← hn1] at hb23
    have hbw3 : Below w.heap.size w W3 := below_step hbw1 (hb12.trans hb23)
    have a1 := hA.cell 1
    have b1 := hB.cell 1
    have fa := hA.frozen 1
    have fb := hB.frozen 1
    have hBm := hB.far (p := ⟨QA, 1, none⟩) (Ne.symm hne.1) (.bool false)
    have fm := hBm.frozen 1
    have bm := hBm.cell 1
    have hne1 := hne.1
    go_upto_region 8 with fail
    try rw [hW3]
    have a0 := hA3.cell 0
    have a1 := hA3.cell 1
    have a2 := hA3.cell 2
    have a3 := hA3.cell 3
    have b0 := hB3.cell 0
    have b1 := hB3.cell 1
    have b2 := hB3.cell 2
    have b3 := hB3.cell 3
    have g0 := hG3.cell 0
    have hlA := hA3.lt
    have hlB := hB3.lt
    have hlG := hG3.lt
    clear hW3 fa fb hBm fm bm c0 c1 c2 c3 hA3 hB3 hG3 hA hB hP0 hB1 hb12 hb23 hn1
    have T3 := T.on hbw3
    have S3 := shaped_ons hS hbw3
    have hu3 := hu.on hbw3
    rcases hr : rightR op false fl l with _ | E
    · obtain ⟨r, hrow⟩ := right_row hr
      obtain ⟨F, rfl, hF⟩ := right_flags hrow hr (by omega)
      obtain ⟨X, rfl⟩ := Int.eq_ofNat_of_zero_le hpa.1
      obtain ⟨Y, rfl⟩ := Int.eq_ofNat_of_zero_le hpb.1
      have hro := headRow_op hrow
      have hrm := headRow_mem hrow
      have h64 := headT_small r hrm
      obtain ⟨S, hSS⟩ : ∃ S : ByteArray, S = ⟨(layAll (headB r.1 false F X Y) r.2.2.2 l).toArray⟩ := ⟨_, rfl⟩
      have hSz : S.size = 48 := by rw [hSS, size_mkl]; exact layAll_len _ _ _ (headT_ok r hrm) rfl
      have HS := Lib.hid hSS
      have HR := Lib.hid hr
      have HROW := Lib.hid hrow
      clear hSS hr
      go_wp2_with fail
      refine (write_ok op false F l _ X Y r _ h0 hF hu3 hl T3 S3 HROW.out HR.out (by omega) (by omega)).mono ?_
      rintro e w4 ⟨rfl, hb4⟩
      rw [← HS.out]
      have hbw4 := below_step hbw3 hb4
      have b04 := (hb4.cell (p := ⟨QB, 0, none⟩) hlB).trans b0
      have b14 := (hb4.cell (p := ⟨QB, 1, none⟩) hlB).trans b1
      have b24 := (hb4.cell (p := ⟨QB, 2, none⟩) hlB).trans b2
      have b34 := (hb4.cell (p := ⟨QB, 3, none⟩) hlB).trans b3
      have g04 := (hb4.cell (p := ⟨g, 0, none⟩) hlG).trans g0
      have hlG4 := Nat.lt_of_lt_of_le hlG hb4.size
      have T4 := T.on hbw4
      have S4 := shaped_ons hS hbw4
      have hu4 := hu.on hbw4
      clear a0 a1 a2 a3 b0 b1 b2 b3 g0 hb4 T3 S3 hu3
      by_cases h32 : 32 ≤ op
      · obtain ⟨E, hE⟩ := right_late op F l h32
        have HE := Lib.hid hE
        clear hE
        go_wp2_with fail
        refine (write_wrong op true F l _ _ _ E _ h0 hf hu4 hl T4 S4 HE.out).mono ?_
        rintro e w5 ⟨er, rfl, her, hb5⟩
        obtain ⟨et, ex, rfl⟩ := her.value
        have hbw5 := below_step hbw4 hb5
        have g05 := (hb5.cell (p := ⟨g, 0, none⟩) hlG4).trans g04
        clear her
        go_wp2_with fail
        go_ret
        exact ⟨rfl, hbw5⟩
      · have hrt : rightR op true F l = none := by rw [right_now op F l (by omega)]; exact HR.out
        obtain ⟨T', hTT⟩ : ∃ S : ByteArray, S = ⟨(layAll (headB r.1 true F X Y) r.2.2.2 l).toArray⟩ := ⟨_, rfl⟩
        have hTz : T'.size = 48 := by rw [hTT, size_mkl]; exact layAll_len _ _ _ (headT_ok r hrm) rfl
        have HT := Lib.hid hTT
        have HRT := Lib.hid hrt
        obtain ⟨tl, hs1, ht1⟩ : ∃ tl, S.data.toList = UInt8.ofNat r.1 :: tl ∧ T'.data.toList = UInt8.ofNat (r.1 + 64) :: tl := by
          rw [HS.out, hTT]
          exact ⟨_, layAll_cons _ _ _ _ (headT_ok r hrm), layAll_cons _ _ _ _ (headT_ok r hrm)⟩
        have q0 : S[0].toNat = r.1 := by
          rw [rB_at S 0 (by omega), rB, hs1]
          show (UInt8.ofNat r.1).toNat = _
          rw [UInt8.toNat_ofNat']
          exact Nat.mod_eq_of_lt (by omega)
        have q1 : T'[0].toNat = r.1 + 64 := by
          rw [rB_at T' 0 (by omega), rB, ht1]
          show (UInt8.ofNat (r.1 + 64)).toNat = _
          rw [UInt8.toNat_ofNat']
          exact Nat.mod_eq_of_lt (by omega)
        have q2 : ((S.extract 1 48).toList == (T'.extract 1 48).toList) = true := by
          rw [toList_of, toList_of, ext_of, ext_of, hs1, ht1]
          simp
        have q3 : bits .or .u8 ((S[0].toNat : Nat) : Int) 64 = ((T'[0].toNat : Nat) : Int) := by
          rw [q0, q1]; exact or64i ⟨r.1, h64⟩
        have HQ2 := Lib.hid q2
        have HQ3 := Lib.hid q3
        clear hTT hrt hs1 ht1 q2 q3
        go_wp2_with fail
        refine (write_ok op true F l _ X Y r _ h0 hF hu4 hl T4 S4 HROW.out HRT.out (by omega) (by omega)).mono ?_
        rintro e w5 ⟨rfl, hb5⟩
        rw [← HT.out]
        have hbw5 := below_step hbw4 hb5
        have g05 := (hb5.cell (p := ⟨g, 0, none⟩) hlG4).trans g04
        have f1 : ((S.size : Int) == 48) = true := by rw [hSz]; rfl
        have f2 : ((T'.size : Int) == 48) = true := by rw [hTz]; rfl
        have f3 : (bits .or .u8 ((S[0].toNat : Nat) : Int) 64 == ((T'[0].toNat : Nat) : Int)) = true := by rw [HQ3.out]; simp
        have f4 : (((S[0].toNat : Nat) : Int) != ((T'[0].toNat : Nat) : Int)) = true := by rw [q0, q1]; simp; omega
        have f5 : ((S.extract 1 S.size).toList == (T'.extract 1 T'.size).toList) = true := by rw [hSz, hTz]; exact HQ2.out
        have f6 : ((S.extract 1 48).toList == (T'.extract 1 48).toList) = true := HQ2.out
        clear q0 q1 hro
        go_wp2_with fail
        go_quiet (fail)
        go_wp2_with fail
        go_ret
        exact ⟨by simp, below_dN hbw5 _⟩
    · have HR := Lib.hid hr
      clear hr
      go_wp2_with fail
      refine (write_wrong op false fl l _ _ _ E _ h0 hf hu3 hl T3 S3 HR.out).mono ?_
      rintro e w4 ⟨er, rfl, her, hb4⟩
      obtain ⟨et, ex, rfl⟩ := her.value
      have hbw4 := below_step hbw3 hb4
      have b04 := (hb4.cell (p := ⟨QB, 0, none⟩) hlB).trans b0
      have b14 := (hb4.cell (p := ⟨QB, 1, none⟩) hlB).trans b1
      have b24 := (hb4.cell (p := ⟨QB, 2, none⟩) hlB).trans b2
      have b34 := (hb4.cell (p := ⟨QB, 3, none⟩) hlB).trans b3
      have g04 := (hb4.cell (p := ⟨g, 0, none⟩) hlG).trans g0
      have hlG4 := Nat.lt_of_lt_of_le hlG hb4.size
      obtain ⟨E2, hE2⟩ : ∃ E2, rightR op true fl l = some E2 := by
        by_cases h32 : 32 ≤ op
        · exact right_late op fl l h32
        · exact ⟨E, by rw [right_now op fl l (by omega)]; exact HR.out⟩
      have HE := Lib.hid hE2
      clear hE2 her a0 a1 a2 a3 b0 b1 b2 b3 g0
      go_wp2_with fail
      refine (write_wrong op true fl l _ _ _ E2 _ h0 hf (hu.on hbw4) hl (T.on hbw4) (shaped_ons hS hbw4) HE.out).mono ?_
      rintro e w5 ⟨er, rfl, her, hb5⟩
      obtain ⟨et2, ex2, rfl⟩ := her.value
      have hbw5 := below_step hbw4 hb5
      have g05 := (hb5.cell (p := ⟨g, 0, none⟩) hlG4).trans g04
      clear her
      by_cases h32 : 32 ≤ op
      · go_wp2_with fail
        go_ret
        exact ⟨rfl, hbw5⟩
      · go_wp2_with fail
        go_ret
        exact ⟨rfl, hbw5⟩
end Go.Proofs.YtefhgikpghpijaaDoor
