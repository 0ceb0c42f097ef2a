/- The walk of the law FeedBack. -/
import Derived.Test.YtifniblffjgfkaaGreatDoorFeedStream
import Derived.Test.YtifniblffjgfkaaGreatDoorOpenInts
namespace Go.Proofs.YtifniblffjgfkaaGreatDoor
open Go.ChangeShapes Go.WideShapes Go.ChangeAt Go.RowKit Go.Shelf
set_option linter.unusedVariables false
set_option maxRecDepth 20000 in
set_option maxHeartbeats 2000000 in
theorem backf_yes (op : Int) (now : Bool) (fl : Int) (vals : List Nat) (l : AhsL) (A A2 B B2 : Option Addr) (cap cap2 bcap bcap2 : Nat) (s : ByteArray) (w : World) (hx : SRd w (.slice A vals.length cap) 1 vals.length (vals.map u64V)) (hy : SRd w (.slice A2 vals.length cap2) 1 vals.length (vals.map u64V))
    (hu : SRd w (.slice B l.length bcap) 2 l.length (ahsCells l)) (hv : SRd w (.slice B2 l.length bcap2) 2 l.length (ahsCells l)) :
    Calls Tryz.prog 30 #[.agg #[.int .i64 op, .bool now, .int .i64 fl, .slice A vals.length cap, .slice B l.length bcap, .string s], .agg #[.int .i64 op, .bool now, .int .i64 fl, .slice A2 vals.length cap2, .slice B2 l.length bcap2, .string s, .string ⟨#[]⟩]] w
      fun e w' => e = .returned (.bool true) ∧ Below w.heap.size w w' := by
  have hb0 : Below w.heap.size w ((w.alloc (.cells #[.int .i64 op, .bool now, .int .i64 fl, .slice A vals.length cap, .slice B l.length bcap, .string s] 38)).alloc (.cells #[.int .i64 op, .bool now, .int .i64 fl, .slice A2 vals.length cap2, .slice B2 l.length bcap2, .string s, .string ⟨#[]⟩] 40)) := ((Below.refl _ _).alloc (Nat.le_refl _) _).alloc (by simp) _
  go_enter Tryz.func30, Tryz.ntmps30
  go_wp2_with fail
  obtain ⟨w0, hw0⟩ : ∃ w0 : World, (w.alloc (.cells #[.int .i64 op, .bool now, .int .i64 fl, .slice A vals.length cap, .slice B l.length bcap, .string s] 38)).alloc (.cells #[.int .i64 op, .bool now, .int .i64 fl, .slice A2 vals.length cap2, .slice B2 l.length bcap2, .string s, .string ⟨#[]⟩] 40) = w0 := ⟨_, rfl⟩
  rw [hw0] at hb0 ⊢
  refine (samePdu_yes op now fl vals l _ _ _ _ s _ (hx.on hb0) (hy.on hb0) (hu.on hb0) (hv.on hb0)).mono ?_
  rintro e w1 ⟨rfl, hb1⟩
  go_wp2_with fail
  go_ret
  exact ⟨rfl, below_step hb0 hb1⟩
set_option maxRecDepth 20000 in
set_option maxHeartbeats 2000000 in
theorem eqf_pdus (M : List (PD × PdPart)) (x y : Value) (w : World) (hx : PdsRd w x M) (hg : ∀ p ∈ M.map (·.1), PdGood p) (hy : PcsRd w y ((M.map (·.1)).map pdP)) (hl : M.length ≤ 1000000) :
    Calls Tryz.prog 29 #[x, y, .func (.func 30) #[] #[]] w fun e w' => e = .returned (.bool true) ∧ Below w.heap.size w w' := by
  obtain ⟨L, hL1, hL2, hL3⟩ := hy
  obtain ⟨hM2, hM3⟩ := hx
  obtain ⟨N, hN⟩ : ∃ N, M.length = N := ⟨_, rfl⟩
  have hLN : L.length = N := by rw [← hN, ← List.length_map (f := (·.1)), hL1, List.length_map, List.length_map]
  have hN6 : N ≤ 1000000 := by omega
  obtain ⟨A2, cap2, rfl⟩ : ∃ A cap, y = .slice A N cap := by obtain ⟨_, A, cap, hv, _⟩ := hL2; exact ⟨A, cap, by rw [hv, hLN]⟩
  obtain ⟨A, cap, rfl⟩ : ∃ A cap, x = .slice A N cap := by obtain ⟨_, A, cap, hv, _⟩ := hM2; exact ⟨A, cap, by rw [hv, hN]⟩
  have HL1 := Lib.hid hL1
  have HL2 := Lib.hid hL2
  have HM2 := Lib.hid hM2
  have HL3 := Lib.hid hL3
  have HM3 := Lib.hid hM3
  have HLN := Lib.hid hLN
  have HN := Lib.hid hN
  have HG := Lib.hid hg
  clear hL1 hL2 hM2 hL3 hM3 hLN hN hl hg
  go_enter Tryz.func29, Tryz.ntmps29
  go_wp2_with fail
  go_loopw [17] (fun i wr => ∃ k : Nat, k ≤ N ∧ i = .int .i64 k ∧ Below w.heap.size w wr) (fun i _ => N - (intOf i).toNat)
  case atStart => exact ⟨0, Nat.zero_le _, rfl, Below.refl _ _⟩
  case round =>
    obtain ⟨k, hk, rfl, hbw⟩ := hrel
    by_cases hlt : k < N
    · obtain ⟨p, hp⟩ : ∃ p, M[k]? = some p := ⟨_, List.getElem?_eq_getElem (by rw [HN.out]; exact hlt)⟩
      obtain ⟨q, hq⟩ : ∃ q, L[k]? = some q := ⟨_, List.getElem?_eq_getElem (by rw [HLN.out]; exact hlt)⟩
      have hpq : q.1 = pdP p.1 := by
        have h2 : (L.map (·.1))[k]? = some q.1 := by rw [List.getElem?_map, hq]; rfl
        rw [HL1.out, List.getElem?_map, List.getElem?_map, hp] at h2
        exact (Option.some.inj h2).symm
      obtain ⟨b, o, cp, hv, hbl, c0, c1, c2, c3, c4, c5⟩ := PdsRd.pdu (HM2.out.on hbw) hp
      obtain ⟨b2, o2, cp2, hv2, hbl2, d0, d1, d2, d3, d4, d5, d6⟩ := (HL2.out.on hbw).piece hq
      injection hv with e1 e2 e3
      injection hv2 with f1 f2 f3
      subst e1
      subst e3
      subst f1
      subst f3
      have hP := (HM3.out p (List.mem_of_getElem? hp)).on hbw
      have hQ := (HL3.out q (List.mem_of_getElem? hq)).on hbw
      have hgd := HG.out p.1 (List.mem_map.2 ⟨p, List.mem_of_getElem? hp, rfl⟩)
      obtain ⟨q, QA, qcap, QB, qbcap⟩ := q
      obtain ⟨p, u, a⟩ := p
      obtain rfl : q = pdP p := hpq
      obtain ⟨op, now, fl, vals, al, data⟩ := p
      obtain ⟨k1, k2, k3, k4, k5, k6, k7, k8⟩ := hP
      simp only at k1 k2 k3 k4 k5 k6 k7 k8 c0 c1 c2 c3 c4 c5
      obtain ⟨UA, ucap, rfl⟩ : ∃ A cap, u = .slice A vals.length cap := by obtain ⟨_, A, cap, hv, _⟩ := k3; exact ⟨A, cap, hv⟩
      obtain ⟨AA, acap, rfl⟩ : ∃ A cap, a = .slice A al.length cap := by obtain ⟨_, A, cap, hv, _⟩ := k5; exact ⟨A, cap, hv⟩
      have d0' : wr.cell? ⟨b2, o2 + k * 7, none⟩ = some (.int .i64 op) := by rw [d0]; exact congrArg (fun z => some (Value.int .i64 z)) hgd.op
      have d2' : wr.cell? ⟨b2, o2 + k * 7 + 2, none⟩ = some (.int .i64 fl) := by rw [d2]; exact congrArg (fun z => some (Value.int .i64 z)) hgd.fl
      have d1' : wr.cell? ⟨b2, o2 + k * 7 + 1, none⟩ = some (.bool now) := d1
      have d3' : wr.cell? ⟨b2, o2 + k * 7 + 3, none⟩ = some (.slice QA vals.length qcap) := d3
      have d4' : wr.cell? ⟨b2, o2 + k * 7 + 4, none⟩ = some (.slice QB al.length qbcap) := d4
      have d5' : wr.cell? ⟨b2, o2 + k * 7 + 5, none⟩ = some (.string data) := by rw [d5]; exact congrArg (fun z => some (Value.string z)) (str_of data).symm
      have d6' : wr.cell? ⟨b2, o2 + k * 7 + 6, none⟩ = some (.string ⟨#[]⟩) := d6
      obtain ⟨hQ1, hQ2⟩ := hQ
      have hQ1' : SRd wr (.slice QA vals.length qcap) 1 vals.length (vals.map u64V) := hQ1
      have hQ2' : SRd wr (.slice QB al.length qbcap) 2 al.length (ahsCells al) := hQ2
      clear hp hq e2 f2 d0 d1 d2 d3 d4 d5 d6 hQ1 hQ2 hgd k4 k6 k7 k8
      have hb2 : Below wr.heap.size wr ((wr.alloc (.cells #[.int .i64 op, .bool now, .int .i64 fl, .slice UA vals.length ucap, .slice AA al.length acap, .string data] 38)).alloc (.cells #[.int .i64 op, .bool now, .int .i64 fl, .slice QA vals.length qcap, .slice QB al.length qbcap, .string data, .string ⟨#[]⟩] 40)) := ((Below.refl _ _).alloc (Nat.le_refl _) _).alloc (by simp) _
      go_wp2_with fail
      refine (backf_yes op now fl vals al UA QA AA QB ucap qcap acap qbcap data _ (k3.on hb2) (hQ1'.on hb2) (k5.on hb2) (hQ2'.on hb2)).mono ?_
      rintro e w1 ⟨rfl, hb1⟩
      go_wp2_with fail
      go_roundw
      case rel => exact ⟨k + 1, by omega, by go_num, below_step hbw (below_step hb2 hb1)⟩
      case measure => simp [intOf]; omega
    · go_wp2_with fail
      go_ret
      exact ⟨rfl, hbw⟩
set_option maxRecDepth 20000 in
set_option maxHeartbeats 8000000 in
theorem backFeed (L : List (PD × PdPart)) (v : Value) (mode : Int) (cs : List Int) (vc : Value) (w : World) (hv : PdsRd w v L) (hm : -9223372036854775808 ≤ mode ∧ mode ≤ 9223372036854775807) (hc : SRd w vc 1 cs.length (cs.map (Value.int .i64))) (hq : ∀ q ∈ cs, -9223372036854775808 ≤ q ∧ q ≤ 9223372036854775807) (hL : LaidE w) (T : Tabs w) (hS : w.ShapedOpen Tryz.prog) :
    Calls Tryz.prog 6 #[v, .int .i64 mode, vc] w fun e w' => e = .returned (.bool true) ∧ Below w.heap.size w w' := by
  clear hq
  obtain ⟨md, hmd, hmd2⟩ := pickN mode 4 (by omega)
  have HM := Lib.hid hmd
  clear hmd
  obtain ⟨N, hN⟩ : ∃ N, L.length = N := ⟨_, rfl⟩
  obtain ⟨C, hC⟩ : ∃ C, cs.length = C := ⟨_, rfl⟩
  obtain ⟨A, cap, rfl⟩ : ∃ A cap, v = .slice A N cap := by obtain ⟨_, A, cap, hv, _⟩ := hv.1; exact ⟨A, cap, by rw [hv, hN]⟩
  obtain ⟨CA, ccap, rfl⟩ : ∃ A cap, vc = .slice A C cap := by obtain ⟨_, A, cap, hv, _⟩ := hc; exact ⟨A, cap, by rw [hv, hC]⟩
  have HV := Lib.hid hv
  have HCS := Lib.hid hc
  have HN := Lib.hid hN
  have HC := Lib.hid hC
  clear hv hc hN hC
  go_enter Tryz.func6, Tryz.ntmps6
  go_wp2_with fail
  refine (fed_fact w hL T hS).mono ?_
  rintro e w1 ⟨rfl, hb1⟩
  by_cases h20 : 20 < N
  · go_wp2_with fail
    go_ret
    exact ⟨rfl, hb1⟩
  by_cases h60 : 60 < C
  · go_wp2_with fail
    go_ret
    exact ⟨rfl, hb1⟩
  go_wp2_with fail
  refine (pick_to mode 4 md HM.out (by omega) (by omega) _).mono ?_
  rintro e w' ⟨rfl, rfl⟩
  go_wp2_with fail
  refine (stream_any L _ md _ (HV.out.on hb1) (by rw [HN.out]; omega) hmd2 (hL.on hb1) (T.on hb1) (shaped_ons hS hb1)).mono ?_
  rintro e w2 ⟨⟨S, bb, rfl, hst⟩, hb2⟩
  have hb2w := below_step hb1 hb2
  go_wp2_with fail
  refine (fnew_ok 100000 _ (by omega)).mono ?_
  rintro e w3 ⟨rfl, hF3, hb3⟩
  have hb3w := below_step hb2w hb3
  rcases bb with _ | _
  · go_wp2_with fail
    go_ret
    exact ⟨rfl, hb3w⟩
  obtain ⟨hSl, hSg, hSz⟩ := hst rfl
  clear hst
  obtain ⟨G, hG⟩ : ∃ G, w2.heap.size = G := ⟨_, rfl⟩
  have hwG : w.heap.size ≤ G := by rw [← hG]; exact hb2w.size
  rw [hG] at hF3 ⊢
  clear hG
  go_wp2_with fail
  refine (fmode_ok G ⟨#[]⟩ 100000 0 md _ hF3 hmd2).mono ?_
  rintro e w4 ⟨rfl, hF4, hs4⟩
  have hb4w := below_stepG hb3w hs4 hwG
  have hall := all_pds md [] (L.map (·.1)) hSg
  rw [List.append_nil, allF_no (nextP_nil _ _ _), ← hSl] at hall
  simp only [List.append_nil] at hall
  have HALL := Lib.hid hall
  have HSG := Lib.hid hSg
  clear hall hSl hSg
  have hGl : G < w4.heap.size := hF4.lt
  have hNlen : (L.map (·.1)).length ≤ 20 := by rw [List.length_map, HN.out]; omega
  go_wp2_with fail
  go_loopw [7, 11, 55] (fun s o i wr => ∃ (j : Nat) (X P R : ByteArray) (qs : List Pc), j ≤ C + 1 ∧ i = .int .i64 j ∧ s = .string X ∧ P.data.toList ++ X.data.toList = S.data.toList ∧ (j = C + 1 → X.size = 0) ∧ FBlk wr G R 100000 md .nilIface ∧ PcsAt wr w4.heap.size o qs ∧ allF 100000 (hdM md) (ddM md) P.data.toList = (qs, 0, R.data.toList) ∧ Step G w4 wr) (fun _ _ i _ => C + 1 - (intOf i).toNat)
  case atStart => exact ⟨0, S, ⟨#[]⟩, ⟨#[]⟩, [], Nat.zero_le _, rfl, rfl, rfl, (fun h => by omega), hF4, PcsAt.nil _ _, allF_no (nextP_nil _ _ _), Step.refl _ _⟩
  case round =>
    obtain ⟨j, X, P, R, qs, hj, rfl, rfl, hPX, hend, hF, hPs, hA, hst⟩ := hrel
    have hbrw := below_stepG hb4w hst hwG
    have hrl := hF.lt
    have hPz : P.size + X.size = S.size := by rw [← len_of, ← len_of, ← len_of, ← hPX, List.length_append]
    by_cases hlt : j < C + 1
    · clear hend
      have hjI : (j : Int) < (C : Int) + 1 := by omega
      have hXb : X.size ≤ 5000 := by omega
      -- the piece that is put: n bytes
      have hstep : ∀ n : Nat, n ≤ X.size → (P ++ X.extract 0 n).data.toList ++ (X.extract n X.size).data.toList = S.data.toList ∧ (allF 100000 (hdM md) (ddM md) (P ++ X.extract 0 n).data.toList = (qs ++ (allF 100000 (hdM md) (ddM md) (R ++ X.extract 0 n).data.toList).1, 0, (allF 100000 (hdM md) (ddM md) (R ++ X.extract 0 n).data.toList).2.2)) ∧ (allF 100000 (hdM md) (ddM md) (R ++ X.extract 0 n).data.toList).2.1 = 0 ∧ R.size ≤ P.size ∧ qs.length + (allF 100000 (hdM md) (ddM md) (R ++ X.extract 0 n).data.toList).1.length ≤ 1000000 := by
        intro n hn
        have hx1 : (X.extract 0 n).data.toList = X.data.toList.take n := take_ext X n
        have hx2 : (X.extract n X.size).data.toList = X.data.toList.drop n := by rw [ext_of, List.take_of_length_le (by rw [List.length_drop, len_of]; omega)]
        have hall : (P ++ X.extract 0 n).data.toList ++ (X.extract n X.size).data.toList = S.data.toList := by rw [cat_l, hx1, hx2, List.append_assoc, List.take_append_drop, hPX]
        obtain ⟨q1, _⟩ := allF_cut 100000 (hdM md) (ddM md) P.data.toList.length P.data.toList (X.extract 0 n).data.toList (Nat.le_refl _)
        rw [hA] at q1
        have q2 := q1 rfl (next_nz _ _ _)
        simp only at q2
        rw [← cat_l, ← cat_l] at q2
        have q3 := allF_part 100000 (hdM md) (ddM md) (P ++ X.extract 0 n).data.toList (X.extract n X.size).data.toList (by rw [hall, HALL.out])
        rw [q2] at q3
        simp only at q3
        have hl1 := allF_left 100000 (hdM md) (ddM md) P.data.toList.length P.data.toList (Nat.le_refl _)
        rw [hA] at hl1
        simp only [len_of] at hl1
        have hl2 := allF_left 100000 (hdM md) (ddM md) (R ++ X.extract 0 n).data.toList.length (R ++ X.extract 0 n).data.toList (Nat.le_refl _)
        have hl3 : (R ++ X.extract 0 n).size ≤ 10000 := by rw [ByteArray.size_append]; have := size_ext X 0 n; omega
        have hl4 := hl2.2
        rw [len_of] at hl4
        exact ⟨hall, by rw [q2, q3], q3, hl1.1, by omega⟩
      have HST := Lib.hid hstep
      have hRz : R.size ≤ 5000 := by have := (hstep 0 (Nat.zero_le _)).2.2.2.1; omega
      have HA := Lib.hid hA
      have HPX := Lib.hid hPX
      clear hstep hA hPX hPz
      by_cases hlc : j < C
      · have hjC : (j : Int) < (C : Int) := by omega
        obtain ⟨c, hc⟩ : ∃ c, cs[j]? = some c := ⟨_, List.getElem?_eq_getElem (by rw [HC.out]; exact hlc)⟩
        obtain ⟨_, A', cap', hvv, _, _, h4⟩ := HCS.out.on hbrw
        injection hvv with g1 g2 g3
        obtain ⟨b, o, hA', hbl, hcc⟩ := h4 (by rw [HC.out]; omega)
        have hCA : CA = some ⟨b, o, none⟩ := g1.trans hA'
        subst hCA
        have c0 : wr.cell? ⟨b, o + j, none⟩ = some (.int .i64 c) := hcc j (.int .i64 c) (by rw [List.getElem?_map, hc]; rfl)
        obtain ⟨n, hpn, hn1⟩ := pickN c (X.size + 1) (by omega)
        have hn : n ≤ X.size := by omega
        have hpk := pick_to c (X.size + 1) n hpn (by omega) (by omega) wr
        rw [show ((X.size + 1 : Nat) : Int) = (X.size : Int) + 1 from by omega] at hpk
        have HPK := Lib.hid hpk
        clear hcc hc g1 g2 g3 hA' h4 hpn hpk
        go_wp2_with fail
        refine HPK.out.mono ?_
        rintro e w' ⟨rfl, rfl⟩
        obtain ⟨p1, p2, p3, p4, p5⟩ := HST.out n hn
        obtain ⟨F2, hF2⟩ : ∃ F2, allF 100000 (hdM md) (ddM md) (R ++ X.extract 0 n).data.toList = F2 := ⟨_, rfl⟩
        rw [hF2] at p2 p3 p5
        obtain ⟨us, c2, r2⟩ := F2
        simp only at p2 p3 p5
        subst p3
        have hz1 : R.size + (X.extract 0 n).size ≤ 10000 := by have := size_ext X 0 n; omega
        have hz2 : (R ++ X.extract 0 n).size ≤ 1000000 := by rw [ByteArray.size_append]; omega
        have hnI : (n : Int) ≤ X.size := by omega
        have HF2 := Lib.hid hF2
        have P1 := Lib.hid p1
        have P2 := Lib.hid p2
        clear hF2 p1 p2
        go_wp2_with fail
        refine (fput_ok G R (X.extract 0 n) 100000 md _ hF (by omega)).mono ?_
        rintro e w5 ⟨rfl, hF5, hs5⟩
        have hb5w := below_stepG hbrw hs5 hwG
        go_wp2_with fail
        refine (fall_any G (R ++ X.extract 0 n) 100000 md _ w hF5 hmd2 hz2 hb5w hwG hL T hS).mono ?_
        rw [HF2.out]
        rintro e w6 ⟨v6, R2, rfl, hP6, hR6, hF6, hs6⟩
        simp only at hP6 hR6 hF6
        rw [errv0] at hF6
        simp only [errv0]
        have hb6w := below_stepG hb5w hs6 hwG
        have hst6 : Step G w4 w6 := (hst.trans hs5).trans hs6
        have hPs6 := (hPs.step hs5 hGl).step hs6 hGl
        have hrow : ∀ q, u11.ownBlock = some q → w4.heap.size ≤ q ∧ q < w5.heap.size := by
          obtain ⟨L0, _, ho, _⟩ := hPs
          intro q hq
          have := ownsRow_lt ho q hq
          exact ⟨this.1, Nat.lt_of_lt_of_le this.2 hs5.size⟩
        have hw45 : w4.heap.size ≤ w5.heap.size := Nat.le_trans hst.size hs5.size
        have HR6 := Lib.hid hR6
        clear hR6
        go_wp2_with (at_builtin; refine wpList_append_pcs _ rfl _ _ rfl w4.heap.size w5.heap.size u11 v6 qs us rfl hPs6 rfl hP6 hw45 (fun q hq => (hrow q hq).2) p5 (Nat.le_trans hw45 hs6.size) ?_)
        intro v7 w7 hP7 hg7
        have hst7 : Step G w4 w7 := Step.grown hst6 hg7 (fun q hq => (hrow q hq).1)
        have hF7 : FBlk w7 G R2 100000 md .nilIface := Blk.grown hF6 hg7 (by intro h; have := (hrow G h.symm).1; omega)
        have hA7 : allF 100000 (hdM md) (ddM md) (P ++ X.extract 0 n).data.toList = (qs ++ us, 0, R2.data.toList) := by rw [P2.out, HR6.out]
        have HA7 := Lib.hid hA7
        clear hA7
        go_wp2_with fail
        go_roundw
        case rel => exact ⟨j + 1, _, _, R2, qs ++ us, by omega, by go_num, rfl, P1.out, (fun h => by omega), hF7, hP7, HA7.out, hst7⟩
        case measure => simp [intOf] <;> omega
      · obtain rfl : j = C := by omega
        obtain ⟨n, hnX⟩ : ∃ n, X.size = n := ⟨_, rfl⟩
        have hn : n ≤ X.size := by omega
        have hx0 : (X.extract n X.size).size = 0 := by rw [ByteArray.size_extract]; omega
        have HX0 := Lib.hid hx0
        have hjC : decide ((j : Int) < (j : Int)) = false := by simp
        have hnXI : (X.size : Int) = (n : Int) := by omega
        clear hx0 hnX
        go_upto_region 19 with (fail)
        clear hnXI
        obtain ⟨p1, p2, p3, p4, p5⟩ := HST.out n hn
        obtain ⟨F2, hF2⟩ : ∃ F2, allF 100000 (hdM md) (ddM md) (R ++ X.extract 0 n).data.toList = F2 := ⟨_, rfl⟩
        rw [hF2] at p2 p3 p5
        obtain ⟨us, c2, r2⟩ := F2
        simp only at p2 p3 p5
        subst p3
        have hz1 : R.size + (X.extract 0 n).size ≤ 10000 := by have := size_ext X 0 n; omega
        have hz2 : (R ++ X.extract 0 n).size ≤ 1000000 := by rw [ByteArray.size_append]; omega
        have hnI : (n : Int) ≤ X.size := by omega
        have HF2 := Lib.hid hF2
        have P1 := Lib.hid p1
        have P2 := Lib.hid p2
        clear hF2 p1 p2
        go_wp2_with fail
        refine (fput_ok G R (X.extract 0 n) 100000 md _ hF (by omega)).mono ?_
        rintro e w5 ⟨rfl, hF5, hs5⟩
        have hb5w := below_stepG hbrw hs5 hwG
        go_wp2_with fail
        refine (fall_any G (R ++ X.extract 0 n) 100000 md _ w hF5 hmd2 hz2 hb5w hwG hL T hS).mono ?_
        rw [HF2.out]
        rintro e w6 ⟨v6, R2, rfl, hP6, hR6, hF6, hs6⟩
        simp only at hP6 hR6 hF6
        rw [errv0] at hF6
        simp only [errv0]
        have hb6w := below_stepG hb5w hs6 hwG
        have hst6 : Step G w4 w6 := (hst.trans hs5).trans hs6
        have hPs6 := (hPs.step hs5 hGl).step hs6 hGl
        have hrow : ∀ q, u11.ownBlock = some q → w4.heap.size ≤ q ∧ q < w5.heap.size := by
          obtain ⟨L0, _, ho, _⟩ := hPs
          intro q hq
          have := ownsRow_lt ho q hq
          exact ⟨this.1, Nat.lt_of_lt_of_le this.2 hs5.size⟩
        have hw45 : w4.heap.size ≤ w5.heap.size := Nat.le_trans hst.size hs5.size
        have HR6 := Lib.hid hR6
        clear hR6
        go_wp2_with (at_builtin; refine wpList_append_pcs _ rfl _ _ rfl w4.heap.size w5.heap.size u11 v6 qs us rfl hPs6 rfl hP6 hw45 (fun q hq => (hrow q hq).2) p5 (Nat.le_trans hw45 hs6.size) ?_)
        intro v7 w7 hP7 hg7
        have hst7 : Step G w4 w7 := Step.grown hst6 hg7 (fun q hq => (hrow q hq).1)
        have hF7 : FBlk w7 G R2 100000 md .nilIface := Blk.grown hF6 hg7 (by intro h; have := (hrow G h.symm).1; omega)
        have hA7 : allF 100000 (hdM md) (ddM md) (P ++ X.extract 0 n).data.toList = (qs ++ us, 0, R2.data.toList) := by rw [P2.out, HR6.out]
        have HA7 := Lib.hid hA7
        clear hA7
        go_wp2_with fail
        go_roundw
        case rel => exact ⟨j + 1, _, _, R2, qs ++ us, by omega, by go_num, rfl, P1.out, (fun _ => HX0.out), hF7, hP7, HA7.out, hst7⟩
        case measure => simp [intOf] <;> omega
    · obtain rfl : j = C + 1 := by omega
      have hX0 := hend rfl
      have hPS : P.data.toList = S.data.toList := by
        have : X.data.toList = [] := List.eq_nil_of_length_eq_zero (by rw [len_of]; exact hX0)
        rw [← hPX, this, List.append_nil]
      rw [hPS, HALL.out] at hA
      injection hA with e1 e2
      injection e2 with _ e3
      have hR0 : ((R.size : Int) == 0) = true := by
        have h0 : R.size = 0 := by rw [← len_of, ← e3, List.length_nil]
        rw [h0]
        decide
      have hPs' : PcsAt wr w4.heap.size u11 ((L.map (·.1)).map pdP) := by rw [e1]; exact hPs
      clear e1 e3 hend hPX hPS hPs hPz
      go_wp2_with fail
      refine (fkept G R 100000 md _ _ hF).mono ?_
      rintro e w' ⟨rfl, rfl⟩
      go_wp2_with fail
      refine (eqf_pdus L _ _ _ (HV.out.on hbrw) HSG.out hPs'.rd (by rw [HN.out]; omega)).mono ?_
      rintro e w5 ⟨rfl, hb5⟩
      go_wp2_with fail
      go_ret
      exact ⟨rfl, below_step hbrw hb5⟩
end Go.Proofs.YtifniblffjgfkaaGreatDoor
