/- The contracts of what the laws on PDUs ask: Read of what was written, same, large. -/
import Derived.Test.YtehellmpghfopaaGreatDoorPduRd
import Derived.Test.YtehellmpghfopaaGreatDoorHeadSame
namespace Go.Proofs.YtehellmpghfopaaGreatDoor
open Go.ChangeShapes Go.WideShapes Go.ChangeAt Go.RowKit Go.Shelf
set_option linter.unusedVariables false
theorem rightR_parts {op : Int} {now : Bool} {fl : Int} {vals : List Nat} {l : AhsL} {n : Nat} (h : pduR op now fl vals l n = none) : rightR op now fl vals = none ∧ rightGo l 0 0 = none ∧ n ≤ 100000 := by
  unfold pduR at h
  rcases h1 : rightR op now fl vals with _ | E
  · rw [h1] at h
    rcases h2 : rightGo l 0 0 with _ | E2
    · rw [h2] at h
      simp only at h
      split at h
      · cases h
      · exact ⟨rfl, rfl, by omega⟩
    · rw [h2] at h
      cases h
  · rw [h1] at h
    cases h
/- what a PDU that is right is as bytes, with its parts -/
theorem pdu_parts (r : HeadR) (now : Bool) (F : Nat) (vals : List Nat) (l : AhsL) (data R : List UInt8) (hd dd : Bool) (hrow : headRow (r.1 : Int) = some r) (hF : F < 256) (hl : ∀ x ∈ vals, x < 18446744073709551616) (h1 : rightR (r.1 : Int) now F vals = none) (h2 : rightGo l 0 0 = none) (h5 : data.length ≤ 100000) :
    ∃ X, X = pduB (layAll (headB r.1 now F ((ahsB l).length / 4) data.length) r.2.2.2 vals) (ahsB l) data hd dd ++ R ∧ prE X hd dd = none ∧ allN X hd dd = (pduB (layAll (headB r.1 now F ((ahsB l).length / 4) data.length) r.2.2.2 vals) (ahsB l) data hd dd).length ∧
      rB X 0 % 64 = r.1 ∧ decide (64 ≤ rB X 0) = now ∧ rB X 1 = F ∧ readV r.2.2.2 (X.take 48) = vals ∧ readGo 1021 (moreS X) 0 = .inr l ∧ bodyS X hd = data ∧ 48 ≤ X.length := by
  have hall := right_none l 0 0 (by omega) h2
  have hml : (ahsB l).length = sumLen l := ahsB_len l
  have hmod := sumLen_mod l
  have hrd := readGo_ahsB l 1021 0 hall.1 (by omega)
  obtain ⟨e1, e2, e3, e4, e5, e6, e7⟩ := write_read r now F ((ahsB l).length / 4) data.length vals hrow hF (by omega) (by omega) hl h1
  obtain ⟨hb, hhb⟩ : ∃ hb, layAll (headB r.1 now F ((ahsB l).length / 4) data.length) r.2.2.2 vals = hb := ⟨_, rfl⟩
  rw [hhb] at e1 e2 e3 e4 e5 e6 e7 ⊢
  have hlen := readE_len e1
  obtain ⟨p1, p2, p3⟩ := pdu_back hb (ahsB l) data R l hd dd e1 (by omega) e7 hrd h5
  have hX : pduB hb (ahsB l) data hd dd ++ R = hb ++ (ahsB l ++ (dg4 hd (hb ++ ahsB l) ++ (padded data ++ (dg4 (dd && decide (0 < data.length)) (padded data) ++ R)))) := by unfold pduB; simp
  have r0 : ∀ j, j < 48 → rB (pduB hb (ahsB l) data hd dd ++ R) j = rB hb j := fun j hj => by rw [hX]; exact rB_append hb _ j (by omega)
  have ht : (pduB hb (ahsB l) data hd dd ++ R).take 48 = hb := by rw [hX]; exact take_at hlen
  have hdl : dataN (pduB hb (ahsB l) data hd dd ++ R) = data.length := by unfold dataN; rw [r0 5 (by omega), r0 6 (by omega), r0 7 (by omega)]; exact e7
  refine ⟨_, rfl, p1, p2, ?_, ?_, ?_, ?_, ?_, ?_, ?_⟩
  · rw [r0 0 (by omega)]; exact e3
  · rw [r0 0 (by omega)]; exact e4
  · rw [r0 1 (by omega)]; exact e5
  · rw [ht]; exact e2
  · have : moreS (pduB hb (ahsB l) data hd dd ++ R) = ahsB l := by
      unfold moreS
      rw [r0 4 (by omega), e6, hX, take_2 hlen (by omega)]
      exact drop_at hlen
    rw [this]; exact hrd
  · unfold bodyS
    have h3 := congrArg (List.take (dataN (pduB hb (ahsB l) data hd dd ++ R))) p3
    rw [List.take_take, Nat.min_eq_left (by omega)] at h3
    rw [h3, hdl, padded, List.take_left]
  · rw [hX]; simp; omega
theorem pduRead_back (s : ByteArray) (r : HeadR) (now : Bool) (F : Nat) (vals : List Nat) (l : AhsL) (d : ByteArray) (R : List UInt8) (k : Nat) (w : World) (hk : k < 4) (hrow : headRow (r.1 : Int) = some r) (hF : F < 256) (hl : ∀ x ∈ vals, x < 18446744073709551616) (h1 : rightR (r.1 : Int) now F vals = none) (h2 : rightGo l 0 0 = none) (h5 : d.size ≤ 100000)
    (hs : s.data.toList = pduB (layAll (headB r.1 now F ((ahsB l).length / 4) d.size) r.2.2.2 vals) (ahsB l) d.data.toList (hdM k) (ddM k) ++ R) (hz : s.size ≤ 1000000) (hL : LaidE w) (T : Tabs w) (hS : w.ShapedOpen Tryz.prog) :
    Calls Tryz.prog 18 #[.string s, .int .i64 k] w fun e w' => ∃ A cap B bcap, e = .returned (.tuple #[.agg #[.int .i64 r.1, .bool now, .int .i64 F, .slice A vals.length cap, .slice B l.length bcap, .string d], .int .i64 ((pduB (layAll (headB r.1 now F ((ahsB l).length / 4) d.size) r.2.2.2 vals) (ahsB l) d.data.toList (hdM k) (ddM k)).length : Nat), .nilIface]) ∧
      SRd w' (.slice A vals.length cap) 1 vals.length (vals.map u64V) ∧ SRd w' (.slice B l.length bcap) 2 l.length (ahsCells l) ∧ Below w.heap.size w w' := by
  obtain ⟨X, hX, p1, p2, p3, p4, p5, p6, p7, p8, _⟩ := pdu_parts r now F vals l d.data.toList R (hdM k) (ddM k) hrow hF hl h1 h2 (by rw [len_of]; exact h5)
  rw [len_of] at hX p2
  have hsX : s.data.toList = X := by rw [hX]; exact hs
  refine (pduRead_any s k w hk hz hL T hS).mono ?_
  rintro e w' ⟨hp, hb⟩
  unfold pduIs at hp
  rw [hsX, p1] at hp
  obtain ⟨r2, A, cap, al, B, bcap, q1, q2, rfl, q4, q5⟩ := hp
  rw [p3] at q1
  obtain rfl : r = r2 := Option.some.inj (hrow.symm.trans q1)
  rw [p7] at q2
  obtain rfl : l = al := Sum.inr.inj q2
  rw [p6] at q4
  refine ⟨A, cap, B, bcap, ?_, q4, SRd.of_m q5, hb⟩
  rw [p2, p3, p4, p5, p6, p8]
def LargeIs (n m : Nat) (e : Ending) : Prop := ∃ b : Bool, e = .returned (.bool b) ∧ (b = false → n ≤ 50 ∧ m ≤ 2500)
set_option maxRecDepth 20000 in
set_option maxHeartbeats 2000000 in
theorem large_any (op : Int) (now : Bool) (fl : Int) (vals : List Nat) (v : Value) (l : AhsL) (av : Value) (s : ByteArray) (w : World) (hv : SRd w v 1 vals.length (vals.map u64V))
    (ha : SRd w av 2 l.length (ahsCells l)) (hd : ∀ p ∈ l, p.2.size ≤ 140737488351232) (hs : s.size ≤ 140737488351232) :
    Calls Tryz.prog 14 #[.agg #[.int .i64 op, .bool now, .int .i64 fl, v, av, .string s]] w fun e w' => LargeIs vals.length s.size e ∧ Below w.heap.size w w' := by
  obtain ⟨A, cap, rfl⟩ : ∃ A cap, v = .slice A vals.length cap := by obtain ⟨_, A, cap, hv, _⟩ := hv; exact ⟨A, cap, hv⟩
  obtain ⟨B, bcap, rfl⟩ : ∃ A cap, av = .slice A l.length cap := by obtain ⟨_, A, cap, hv, _⟩ := ha; exact ⟨A, cap, hv⟩
  have hmax : vals.length ≤ 9223372036854775807 := by
    obtain ⟨_, A2, cap2, hv, h1, h2, _⟩ := hv
    injection hv with k1 k2 k3
    unfold maxLen at h2
    omega
  have hB0 := Blk.new w 27 #[.int .i64 op, .bool now, .int .i64 fl, .slice A vals.length cap, .slice B l.length bcap, .string s]
  have hb0 : Below w.heap.size w (w.alloc (.cells #[.int .i64 op, .bool now, .int .i64 fl, .slice A vals.length cap, .slice B l.length bcap, .string s] 27)) := (Below.refl _ _).alloc (Nat.le_refl _) _
  obtain ⟨g, hg⟩ : ∃ g, w.heap.size = g := ⟨_, rfl⟩
  go_enter Tryz.func14, Tryz.ntmps14
  go_wp2_with fail
  obtain ⟨w0, hw0⟩ : ∃ w0 : World, w.alloc (.cells #[.int .i64 op, .bool now, .int .i64 fl, .slice A vals.length cap, .slice B l.length bcap, .string s] 27) = w0 := ⟨_, rfl⟩
  rw [hw0] at hb0 hB0 ⊢
  rw [hg] at hB0
  try rw [hg]
  clear hw0
  refine (wide_any l _ _ (ha.on hb0) hd).mono ?_
  rintro e w1 ⟨b, rfl, hb1⟩
  have hbw1 := below_step hb0 hb1
  have hbg : Below g w w1 := by rw [← hg]; exact hbw1
  have hB1 := hB0.below hb1 hB0.lt
  have c3 := hB1.cell 3
  have c5 := hB1.cell 5
  rcases b with _ | _
  · by_cases h1 : 50 < vals.length
    · go_wp2_with fail
      go_ret
      first | exact ⟨⟨true, rfl, fun h => by cases h⟩, hbw1⟩ | exact ⟨⟨true, rfl, fun h => by cases h⟩, hbg⟩
    · by_cases h2 : 2500 < s.size
      · go_wp2_with fail
        go_ret
        exact ⟨⟨true, by simp; omega, fun h => by cases h⟩, by first | exact hbw1 | exact hbg⟩
      · go_wp2_with fail
        go_ret
        exact ⟨⟨false, by simp; omega, fun _ => ⟨by omega, by omega⟩⟩, by first | exact hbw1 | exact hbg⟩
  · go_wp2_with fail
    go_ret
    first | exact ⟨⟨true, rfl, fun h => by cases h⟩, hbw1⟩ | exact ⟨⟨true, rfl, fun h => by cases h⟩, hbg⟩
set_option maxRecDepth 20000 in
set_option maxHeartbeats 2000000 in
theorem samePdu_yes (op : Int) (now : Bool) (fl : Int) (vals : List Nat) (l : AhsL) (x y u v : Value) (s : ByteArray) (w : World) (hx : SRd w x 1 vals.length (vals.map u64V)) (hy : SRd w y 1 vals.length (vals.map u64V))
    (hu : SRd w u 2 l.length (ahsCells l)) (hv : SRd w v 2 l.length (ahsCells l)) :
    Calls Tryz.prog 20 #[.agg #[.int .i64 op, .bool now, .int .i64 fl, x, u, .string s], .agg #[.int .i64 op, .bool now, .int .i64 fl, y, v, .string s]] w fun e w' => e = .returned (.bool true) ∧ Below w.heap.size w w' := by
  obtain ⟨A, cap, rfl⟩ : ∃ A cap, x = .slice A vals.length cap := by obtain ⟨_, A, cap, hv, _⟩ := hx; exact ⟨A, cap, hv⟩
  obtain ⟨A2, cap2, rfl⟩ : ∃ A cap, y = .slice A vals.length cap := by obtain ⟨_, A, cap, hv, _⟩ := hy; exact ⟨A, cap, hv⟩
  obtain ⟨B, bcap, rfl⟩ : ∃ A cap, u = .slice A l.length cap := by obtain ⟨_, A, cap, hv, _⟩ := hu; exact ⟨A, cap, hv⟩
  obtain ⟨B2, bcap2, rfl⟩ : ∃ A cap, v = .slice A l.length cap := by obtain ⟨_, A, cap, hv, _⟩ := hv; exact ⟨A, cap, hv⟩
  have hb0 : Below w.heap.size w ((w.alloc (.cells #[.int .i64 op, .bool now, .int .i64 fl, .slice A vals.length cap, .slice B l.length bcap, .string s] 27)).alloc (.cells #[.int .i64 op, .bool now, .int .i64 fl, .slice A2 vals.length cap2, .slice B2 l.length bcap2, .string s] 27)) := ((Below.refl _ _).alloc (Nat.le_refl _) _).alloc (by simp) _
  have hB1 := (Blk.new w 27 #[.int .i64 op, .bool now, .int .i64 fl, .slice A vals.length cap, .slice B l.length bcap, .string s]).alloc (.cells #[.int .i64 op, .bool now, .int .i64 fl, .slice A2 vals.length cap2, .slice B2 l.length bcap2, .string s] 27)
  have hB2 : Blk ((w.alloc (.cells #[.int .i64 op, .bool now, .int .i64 fl, .slice A vals.length cap, .slice B l.length bcap, .string s] 27)).alloc (.cells #[.int .i64 op, .bool now, .int .i64 fl, .slice A2 vals.length cap2, .slice B2 l.length bcap2, .string s] 27)) (w.heap.size + 1) 27 #[.int .i64 op, .bool now, .int .i64 fl, .slice A2 vals.length cap2, .slice B2 l.length bcap2, .string s] := by
    have := Blk.new (w.alloc (.cells #[.int .i64 op, .bool now, .int .i64 fl, .slice A vals.length cap, .slice B l.length bcap, .string s] 27)) 27 #[.int .i64 op, .bool now, .int .i64 fl, .slice A2 vals.length cap2, .slice B2 l.length bcap2, .string s]
    simpa using this
  go_enter Tryz.func20, Tryz.ntmps20
  go_wp2_with fail
  obtain ⟨w0, hw0⟩ : ∃ w0 : World, (w.alloc (.cells #[.int .i64 op, .bool now, .int .i64 fl, .slice A vals.length cap, .slice B l.length bcap, .string s] 27)).alloc (.cells #[.int .i64 op, .bool now, .int .i64 fl, .slice A2 vals.length cap2, .slice B2 l.length bcap2, .string s] 27) = w0 := ⟨_, rfl⟩
  obtain ⟨g, hg⟩ : ∃ g, w.heap.size = g := ⟨_, rfl⟩
  rw [hw0] at hb0 hB1 hB2 ⊢
  rw [hg] at hB1 hB2
  try rw [hg]
  clear hw0
  refine (same_yes op now fl vals _ _ _ (hx.on hb0) (hy.on hb0)).mono ?_
  rintro e w1 ⟨rfl, hb1⟩
  have hbw1 := below_step hb0 hb1
  have hB11 := hB1.below hb1 hB1.lt
  have hB21 := hB2.below hb1 hB2.lt
  have c4 := hB11.cell 4
  have c5 := hB11.cell 5
  have d4 := hB21.cell 4
  have d5 := hB21.cell 5
  go_wp2_with fail
  refine (equal_same l _ _ _ (hu.on hbw1) (hv.on hbw1)).mono ?_
  rintro e w' ⟨rfl, kq, rfl⟩
  have hbw2 : Below w.heap.size w (w1.drewN kq) := below_dN hbw1 kq
  obtain ⟨w2, hw2⟩ : ∃ w2, w1.drewN kq = w2 := ⟨_, rfl⟩
  have hB12 := hB11.drewN kq
  have hB22 := hB21.drewN kq
  rw [hw2] at hbw2 hB12 hB22 ⊢
  clear c4 c5 d4 d5 hw2
  have c5 := hB12.cell 5
  have d5 := hB22.cell 5
  have e1 : (s.toList == s.toList) = true := by simp
  go_wp2_with fail
  all_goals
    try go_region
    try go_wp2_with fail
    go_ret
    exact ⟨by simp, by first | exact hbw2 | (rw [hg] at hbw2; exact hbw2) | exact hbw2.drew⟩
end Go.Proofs.YtehellmpghfopaaGreatDoor
