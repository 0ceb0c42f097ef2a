/- The walk of the law FullCounts. -/
import Derived.Test.YtamlepacljjpiaaGreatDoorFullPlays
import Derived.Test.YtamlepacljjpiaaGreatDoorFullCountP
namespace Go.Proofs.YtamlepacljjpiaaGreatDoor
open Go.ChangeShapes Go.WideShapes Go.ChangeAt Go.RowKit Go.Shelf
set_option linter.unusedVariables false
set_option linter.unusedSimpArgs false
theorem after_k (a k : Nat) (w : World) (hk : k ≤ 31) : Calls Tryz.prog 16 #[.int .u32 a, .int .i64 k] w fun e w' => e = .returned (.int .u32 (aft a k)) ∧ w = w' := by
  have e1 : IntKind.u32.wrap (k : Int) = k := by rw [IntKind.wrap_u32]; omega
  go_enter Tryz.func16, Tryz.ntmps16
  go_wp2_with fail
  go_ret
  refine ⟨?_, rfl⟩
  simp [aft]
theorem aft_ne (a : Nat) (h : a < 4294967296) : ¬ ((aft a 1 : Nat) : Int) = (a : Int) := by
  unfold aft
  omega
/- what a take does to the numbers -/
def NumsOk (Y : FP) (now : Bool) (er : Value) (l : List AP) (Z : FP) : Prop :=
  (er = .nilIface ∨ (l = [] ∧ Z = Y ∧ ∃ x y, er = .iface x y)) ∧ Z.stat = aft Y.stat l.length ∧ ((Z.cmd = Y.cmd) ∨ (Z.cmd = aft Y.cmd 1 ∧ now = false ∧ er = .nilIface)) ∧ (l = [] ∨ ∃ q, l = [q] ∧ AnsOk Y.stat Z.cmd q) ∧ PcsOk Z
theorem nums_ok {Y : FP} {p : PD} (hs : Y.stat < 4294967296) (hc : Y.cmd < 4294967296) (hp : PcsOk Y) (hv : ∀ y ∈ p.vals, y < 18446744073709551616) (hf : p.fl ≤ 9223372036854775807) : NumsOk Y p.now (codeV (wrongP Y p)) (takeP Y p).1 (takeP Y p).2 := by
  rcases hw : wrongP Y p with _ | c
  · have hg := take_goes hs hc hp hv hf hw
    have hl : ∀ Y', Goes Y' (takeP Y p) → ((takeP Y p).1 = [] ∨ ∃ q, (takeP Y p).1 = [q] ∧ AnsOk Y'.stat Y'.cmd q) := by
      intro Y' h
      obtain ⟨h1, _, _, h4, _⟩ := h
      rcases hx : (takeP Y p).1 with _ | ⟨q, _ | ⟨q2, l⟩⟩
      · exact .inl rfl
      · exact .inr ⟨q, rfl, h4 q (by rw [hx]; simp)⟩
      · rw [hx] at h1
        simp at h1
    rcases hg with h | ⟨hn, h⟩
    · have h2 := hl _ h
      rw [← h.2.1] at h2
      exact ⟨.inl rfl, h.2.2.1, .inl h.2.1, h2, h.2.2.2.2⟩
    · have h2 := hl _ h
      have h3 : (takeP Y p).2.cmd = aft Y.cmd 1 := h.2.1
      have h4 : ((takeP Y p).1 = [] ∨ ∃ q, (takeP Y p).1 = [q] ∧ AnsOk Y.stat (takeP Y p).2.cmd q) := by
        rw [h3]
        exact h2
      exact ⟨.inl rfl, h.2.2.1, .inr ⟨h3, hn, rfl⟩, h4, h.2.2.2.2⟩
  · have ht : takeP Y p = ([], Y) := by unfold takeP; rw [hw]
    rw [ht]
    exact ⟨.inr ⟨rfl, rfl, _, _, rfl⟩, (aft_zero hs).symm, .inl rfl, .inl rfl, hp⟩
set_option maxRecDepth 20000 in
set_option maxHeartbeats 16000000 in
theorem countsFull (c : Cfg) (tv pv uv ov : Value) (L : List (PD × PdPart)) (v : Value) (disc : Bool) (stat cmd : Int) (w : World) (hc : CfgAt w tv pv uv ov c) (hsm : c.Small) (hlen : c.tg.length * 16 ≤ 140737488351232 ∧ c.po.length * 24 ≤ 140737488351232 ∧ c.us.length * 32 ≤ 140737488351232 ∧ c.own.length * 32 ≤ 140737488351232)
    (hv : PdsRd w v L) (hst : 0 ≤ stat ∧ stat ≤ 4294967295) (hcm : 0 ≤ cmd ∧ cmd ≤ 4294967295) (V : Env w) :
    Calls Tryz.prog 3 #[cfgV tv pv uv ov c, v, .bool disc, .int .u32 stat, .int .u32 cmd] w fun e w' => e = .returned (.bool true) ∧ Below w.heap.size w w' := by
  obtain ⟨tg, po, us, sn, ss, lim, own⟩ := c
  obtain ⟨ST, rfl⟩ := Int.eq_ofNat_of_zero_le hst.1
  obtain ⟨CM, rfl⟩ := Int.eq_ofNat_of_zero_le hcm.1
  have hST : ST < 4294967296 := by omega
  have hCM : CM < 4294967296 := by omega
  obtain ⟨N, hN⟩ : ∃ N, L.length = N := ⟨_, rfl⟩
  obtain ⟨A, cap, rfl⟩ : ∃ A cap, v = .slice A N cap := by obtain ⟨_, A, cap, hv, _⟩ := hv.1; exact ⟨A, cap, by rw [hv, hN]⟩
  have hmax : N ≤ 9223372036854775807 := by
    obtain ⟨_, A2, cap2, hv, h1, h2, _⟩ := hv.1
    unfold maxLen at h2
    omega
  have HV := Lib.hid hv
  have HN := Lib.hid hN
  clear hv hN hlen
  have hsess := fun (W : World) (h : Below w.heap.size w W) => session_any ⟨tg, po, us, sn, ss, lim, own⟩ tv pv uv ov [] (.slice none 0 0) disc ST CM hc hsm h (rd_nil _ _) (fun p hp => by cases hp) V hST hCM (fun _ => True) (fun _ => True)
    (fun W hW => (crowded_any ⟨tg, po, us, sn, ss, lim, own⟩ tv pv uv ov W (hc.on hW) hsm).mono fun e w' h => by
      obtain ⟨⟨b, hb⟩, h2⟩ := h
      exact ⟨⟨b, trivial, hb⟩, h2⟩)
    (fun W hv => (thick_any [] _ W hv (fun p hp => by cases hp)).mono fun e w' h => by
      obtain ⟨b, hb, h2⟩ := h
      exact ⟨⟨b, trivial, hb⟩, h2⟩)
  have HSESS := Lib.hid hsess
  obtain ⟨G0, hG0⟩ : ∃ G0, w.heap.size = G0 := ⟨_, rfl⟩
  have hb0 : Below w.heap.size w (w.alloc (.cells #[tv, pv, uv, .string sn, .string ss, .int .i64 lim, ov] 29)) := (Below.refl _ _).alloc (Nat.le_refl _) _
  have hB0 := Blk.new w 29 #[tv, pv, uv, .string sn, .string ss, .int .i64 lim, ov]
  obtain ⟨W0, hW0⟩ : ∃ W : World, w.alloc (.cells #[tv, pv, uv, .string sn, .string ss, .int .i64 lim, ov] 29) = W := ⟨_, rfl⟩
  rw [hW0] at hb0 hB0
  rw [hG0] at hB0
  have V0 := V.on hb0
  have VV := Lib.hid V
  clear hsess hc
  unfold cfgV at HSESS ⊢
  simp only at HSESS ⊢
  go_enter Tryz.func3, Tryz.ntmps3
  go_upto_region 1 with (fail)
  try refine wp_worldN hW0 ?_
  try rw [hG0]
  go_wp2_with fail
  refine (opened_any _ V0).mono ?_
  rintro e w1 ⟨rfl, hb1⟩
  have hB1 := hB0.below hb1 hB0.lt
  have hb1 := below_step hb0 hb1
  have c0 := hB1.cell 0
  have c1 := hB1.cell 1
  have c2 := hB1.cell 2
  have c3 := hB1.cell 3
  have c4 := hB1.cell 4
  have c5 := hB1.cell 5
  have c6 := hB1.cell 6
  clear hB0 hB1 hW0
  go_wp2_with fail
  refine (HSESS.out _ hb1).mono ?_
  rintro e w2 ⟨hE, hb2⟩
  have hb2w := below_step hb1 hb2
  clear c0 c1 c2 c3 c4 c5 c6
  rcases hE with ⟨_, rfl⟩ | ⟨f, S, rfl, hI2, hS2⟩
  · go_wp2_with fail
    go_ret
    exact ⟨rfl, hb2w⟩
  have HI2 := Lib.hid hI2
  clear hI2
  go_wp2_with fail
  refine (some_any L _ _ (HV.out.on hb2w)).mono ?_
  rintro e w3 ⟨⟨b5, rfl⟩, hb3⟩
  rcases b5 with _ | _
  · go_wp2_with fail
    go_ret
    exact ⟨rfl, below_step hb2w hb3⟩
  have hI3 := HI2.out.on hb3
  have HI3 := Lib.hid hI3
  clear hI3
  go_wp2_with fail
  go_loopw [38] (fun i wr => ∃ (k : Nat) (Y : FP) (S' : List Nat), k ≤ N ∧ i = .int .i64 k ∧ FullI w wr S' f Y ∧ PcsOk Y) (fun i _ => N - (intOf i).toNat)
  case atStart => exact ⟨0, _, S, Nat.zero_le _, rfl, HI3.out, fun s hs => absurd hs (List.not_mem_nil)⟩
  case round =>
    obtain ⟨k, Y, S', hk, rfl, hI, hpc⟩ := hrel
    by_cases hlt : k < N
    rotate_left
    · have HI9 := Lib.hid hI
      clear hI
      go_wp2_with fail
      go_ret
      exact ⟨rfl, HI9.out.b⟩
    obtain ⟨p, hp⟩ : ∃ p, L[k]? = some p := ⟨_, List.getElem?_eq_getElem (by rw [HN.out]; exact hlt)⟩
    have hPds := HV.out.on hI.b
    have hmem := List.mem_of_getElem? hp
    obtain ⟨bb, o, cp, hv, hbl, c0, c1, c2, c3, c4, c5⟩ := PdsRd.pdu hPds.1 hp
    injection hv with e1 e2 e3
    subst e1
    subst e3
    have hP := hPds.2 p hmem
    have hfar : PdFar S' p := PdFar.above (HV.out.2 p hmem) (fun j hj => (hI.lt j hj).2)
    obtain ⟨A', cap', hu⟩ := pd_form hP
    obtain ⟨B', bcap', hua⟩ := pd_form2 hP
    obtain ⟨⟨op, now, fl, vals, al, data⟩, ⟨u, a⟩⟩ := p
    simp only at hu hua c0 c1 c2 c3 c4 c5
    subst hu
    subst hua
    have hst := hI.ok.st
    have hcm := hI.ok.cm
    have hnums := nums_ok (p := ⟨op, now, fl, vals, al, data⟩) hst hcm hpc hP.2.2.2.1 hP.2.1.2
    have hba : Below wr.heap.size wr (wr.alloc (.cells #[.int .i64 op, .bool now, .int .i64 fl, .slice A' vals.length cap', .slice B' al.length bcap', .string data] 41)) := (Below.refl _ _).alloc (Nat.le_refl _) _
    have hBa := Blk.new wr 41 #[.int .i64 op, .bool now, .int .i64 fl, .slice A' vals.length cap', .slice B' al.length bcap', .string data]
    obtain ⟨g, hg⟩ : ∃ g, wr.heap.size = g := ⟨_, rfl⟩
    obtain ⟨Wa, hWa⟩ : ∃ W : World, wr.alloc (.cells #[.int .i64 op, .bool now, .int .i64 fl, .slice A' vals.length cap', .slice B' al.length bcap', .string data] 41) = W := ⟨_, rfl⟩
    rw [hWa] at hba hBa
    rw [hg] at hBa
    have hgS : g ∉ S' := fun hm => by have := (hI.lt g hm).1; omega
    have HIA := Lib.hid (hI.on hba)
    have HPA := Lib.hid (hP.on hba)
    have HF := Lib.hid hfar
    have HBA := Lib.hid hBa
    have HWA := Lib.hid hWa
    have HG := Lib.hid hg
    have HNU := Lib.hid hnums
    clear hp e2 hP hPds hI hfar hba hBa hmem hWa hg hnums
    go_upto_region 9 with (fail)
    try refine wp_worldN HWA.out ?_
    try rw [HG.out]
    clear c0 c1 c2 c3 c4 c5
    go_wp2_with fail
    refine (fnext_any HIA.out).mono ?_
    rintro e w4 ⟨rfl, hb4⟩
    have htake := ftake_any (HIA.out.on hb4) VV.out (⟨op, now, fl, vals, al, data⟩, ⟨.slice A' vals.length cap', .slice B' al.length bcap'⟩) (HPA.out.on hb4) HF.out
    have hB4 := HBA.out.below hb4 HBA.out.lt
    have HB4 := Lib.hid hB4
    have d0 : w4.cell? ⟨g, 0, none⟩ = some (.int .i64 op) := hB4.cell 0
    have d1 : w4.cell? ⟨g, 1, none⟩ = some (.bool now) := hB4.cell 1
    have d2 : w4.cell? ⟨g, 2, none⟩ = some (.int .i64 fl) := hB4.cell 2
    have d3 : w4.cell? ⟨g, 3, none⟩ = some (.slice A' vals.length cap') := hB4.cell 3
    have d4 : w4.cell? ⟨g, 4, none⟩ = some (.slice B' al.length bcap') := hB4.cell 4
    have d5 : w4.cell? ⟨g, 5, none⟩ = some (.string data) := hB4.cell 5
    have HT := Lib.hid htake
    clear htake hB4
    go_wp2_with fail
    refine HT.out.mono ?_
    rintro e w5 ⟨v5, rfl, S5, hI5, hN5, hS5, hO5⟩
    have hnu := HNU.out
    try simp only at hnu
    obtain ⟨ER, hER⟩ : ∃ x, codeV (wrongP Y ⟨op, now, fl, vals, al, data⟩) = x := ⟨_, rfl⟩
    obtain ⟨LL, hLL⟩ : ∃ x, (takeP Y ⟨op, now, fl, vals, al, data⟩).1 = x := ⟨_, rfl⟩
    obtain ⟨Z, hZ⟩ : ∃ x, (takeP Y ⟨op, now, fl, vals, al, data⟩).2 = x := ⟨_, rfl⟩
    rw [hER, hLL, hZ] at hnu
    rw [hZ] at hI5
    rw [hLL] at hO5
    rw [hER]
    obtain ⟨h1, h2, h3, h4, h5⟩ := hnu
    have hB5 : Blk w5 g 41 #[.int .i64 op, .bool now, .int .i64 fl, .slice A' vals.length cap', .slice B' al.length bcap', .string data] := (hN5.block g HB4.out.lt hgS).trans HB4.out
    have HI5 := Lib.hid hI5
    have HO5 := Lib.hid hO5
    have HB5 := Lib.hid hB5
    have HN5 := Lib.hid hN5
    clear hI5 hO5 hB5 hN5 hER hLL hZ d0 d1 d2 d3 d4 d5 hS5
    go_wp2_with fail
    refine (fnext_any HI5.out).mono ?_
    rintro e w6 ⟨rfl, hb6⟩
    have hI6 := HI5.out.on hb6
    have hB6 := HB5.out.below hb6 HB5.out.lt
    have k1 : w6.cell? ⟨g, 1, none⟩ = some (.bool now) := hB6.cell 1
    have HI6 := Lib.hid hI6
    clear hI6 hB6
    have hZb : PcsOk Z := h5
    have hbump := aft_ne Y.cmd hcm
    rcases h4 with rfl | ⟨q, rfl, hq⟩
    · obtain rfl : v5 = .slice none 0 0 := HO5.out
      have hsz : aft Y.stat 0 = Y.stat := aft_zero hst
      have h2 : Z.stat = Y.stat := h2.trans hsz
      rw [h2]
      have hcase : (Z.cmd = Y.cmd ∧ (ER = .nilIface ∨ ∃ x y, ER = .iface x y)) ∨ (Z.cmd = aft Y.cmd 1 ∧ now = false ∧ ER = .nilIface) := by
        rcases h3 with h3 | h3
        · refine .inl ⟨h3, ?_⟩
          rcases h1 with h1 | ⟨_, _, h1⟩
          · exact .inl h1
          · exact .inr h1
        · exact .inr h3
      clear h1 h3
      rcases hcase with ⟨h3, rfl | ⟨x, y, rfl⟩⟩ | ⟨h3, rfl, rfl⟩
      · rw [h3]
        rcases now with _ | _
        · go_wp2_with fail
          go_loopw [103] (fun i wr => i = .int .i64 0 ∧ wr = w6) (fun _ _ => 0)
          case atStart => exact ⟨rfl, rfl⟩
          case round =>
            obtain ⟨rfl, rfl⟩ := hrel
            go_wp2_with fail
            refine (after_k Y.stat 0 _ (by decide)).mono ?_
            rintro e w9 ⟨rfl, rfl⟩
            try rw [hsz]
            go_wp2_with fail
            go_roundw
            case rel => exact ⟨k + 1, Z, S5, by omega, by go_num, HI6.out, hZb⟩
            case measure => simp [intOf]; omega
        · go_wp2_with fail
          go_loopw [103] (fun i wr => i = .int .i64 0 ∧ wr = w6) (fun _ _ => 0)
          case atStart => exact ⟨rfl, rfl⟩
          case round =>
            obtain ⟨rfl, rfl⟩ := hrel
            go_wp2_with fail
            refine (after_k Y.stat 0 _ (by decide)).mono ?_
            rintro e w9 ⟨rfl, rfl⟩
            try rw [hsz]
            go_wp2_with fail
            go_roundw
            case rel => exact ⟨k + 1, Z, S5, by omega, by go_num, HI6.out, hZb⟩
            case measure => simp [intOf]; omega
      · rw [h3]
        rcases now with _ | _
        · go_wp2_with fail
          go_loopw [103] (fun i wr => i = .int .i64 0 ∧ wr = w6) (fun _ _ => 0)
          case atStart => exact ⟨rfl, rfl⟩
          case round =>
            obtain ⟨rfl, rfl⟩ := hrel
            go_wp2_with fail
            refine (after_k Y.stat 0 _ (by decide)).mono ?_
            rintro e w9 ⟨rfl, rfl⟩
            try rw [hsz]
            go_wp2_with fail
            go_roundw
            case rel => exact ⟨k + 1, Z, S5, by omega, by go_num, HI6.out, hZb⟩
            case measure => simp [intOf]; omega
        · go_wp2_with fail
          go_loopw [103] (fun i wr => i = .int .i64 0 ∧ wr = w6) (fun _ _ => 0)
          case atStart => exact ⟨rfl, rfl⟩
          case round =>
            obtain ⟨rfl, rfl⟩ := hrel
            go_wp2_with fail
            refine (after_k Y.stat 0 _ (by decide)).mono ?_
            rintro e w9 ⟨rfl, rfl⟩
            try rw [hsz]
            go_wp2_with fail
            go_roundw
            case rel => exact ⟨k + 1, Z, S5, by omega, by go_num, HI6.out, hZb⟩
            case measure => simp [intOf]; omega
      · rw [h3]
        go_wp2_with fail
        refine (after_k Y.cmd 1 _ (by decide)).mono ?_
        rintro e w7 ⟨rfl, rfl⟩
        go_wp2_with fail
        go_loopw [103] (fun i wr => i = .int .i64 0 ∧ wr = w6) (fun _ _ => 0)
        case atStart => exact ⟨rfl, rfl⟩
        case round =>
          obtain ⟨rfl, rfl⟩ := hrel
          go_wp2_with fail
          refine (after_k Y.stat 0 _ (by decide)).mono ?_
          rintro e w9 ⟨rfl, rfl⟩
          try rw [hsz]
          go_wp2_with fail
          go_roundw
          case rel => exact ⟨k + 1, Z, S5, by omega, by go_num, HI6.out, hZb⟩
          case measure => simp [intOf]; omega
    · rcases h3 with h3 | ⟨h3, hnw, _⟩
      · rw [h3] at hq ⊢
        obtain ⟨b, hv, rfl, hB, hbb, hbS, hA⟩ := HO5.out
        obtain ⟨A5, cap5, rfl⟩ : ∃ A cap, hv = .slice A q.vals.length cap := by
          obtain ⟨_, A, cap, hv, _⟩ := hA.1
          exact ⟨A, cap, hv⟩
        have hER : ER = .nilIface := by
          rcases h1 with h1 | ⟨h1, _⟩
          · exact h1
          · cases h1
        subst hER
        have h2 : Z.stat = aft Y.stat 1 := h2
        rw [h2]
        have hsz : aft Y.stat 0 = Y.stat := aft_zero hst
        have hpq := ap_ok hA hq.vs hq.op hq.fl (by have := hq.sz; omega)
        have hpr : pduR q.op false q.fl q.vals [] q.data.size = none := by
          unfold pduR
          rw [hq.rt]
          have := hq.sz
          simp [rightGo]
          omega
        obtain ⟨r, hrow, hv1, hv2, hv3⟩ := hq.num
        obtain ⟨qop, qfl, qv, qd⟩ := q
        simp only at hB hpq hpr hrow hv1 hv2 hv3
        have hB6 : Blk w6 b 41 #[.int .i64 qop, .bool false, .int .i64 qfl, .slice A5 qv.length cap5, .slice none 0 0, .string qd] := hB.below hb6 hB.lt
        have hpq6 := hpq.on hb6
        have V6 := VV.out.on HI6.out.b
        have hS := fun (W : World) (h : Below w6.heap.size w6 W) => fwhat_any _ r nStat Y.stat hrow hv1 W (hpq6.on h) (V6.on h).T (V6.on h).S
        have hE := fun (W : World) (h : Below w6.heap.size w6 W) => fwhat_any _ r nExp Y.cmd hrow hv2 W (hpq6.on h) (V6.on h).T (V6.on h).S
        have hX := fun (W : World) (h : Below w6.heap.size w6 W) => fwhat_any _ r nMax (aft Y.cmd 31) hrow hv3 W (hpq6.on h) (V6.on h).T (V6.on h).S
        have hR := fun (W : World) (h : Below w6.heap.size w6 W) => pduRight_any (qop : Nat) false (qfl : Nat) qv (.slice A5 qv.length cap5) [] (.slice none 0 0) qd W hpq6.1 hpq6.2.1 (hpq6.on h).2.2.1 hpq6.2.2.2.1 (rd_nil _ _) (fun p hp => by cases hp) hpq6.2.2.2.2.2.2.2 (V6.on h).L (V6.on h).T (V6.on h).S
        rw [hpr] at hR
        have HWS := Lib.hid (show ∀ (W : World) (h : Below w6.heap.size w6 W), Calls Tryz.prog 17 #[.agg #[.int .i64 qop, .bool false, .int .i64 qfl, .slice A5 qv.length cap5, .slice none 0 0, .string qd], .string ⟨#[83, 116, 97, 116, 83, 78]⟩] W fun e w' => e = .returned (.int .u64 (Y.stat : Nat)) ∧ Below W.heap.size W w' from hS)
        have HWE := Lib.hid (show ∀ (W : World) (h : Below w6.heap.size w6 W), Calls Tryz.prog 17 #[.agg #[.int .i64 qop, .bool false, .int .i64 qfl, .slice A5 qv.length cap5, .slice none 0 0, .string qd], .string ⟨#[69, 120, 112, 67, 109, 100, 83, 78]⟩] W fun e w' => e = .returned (.int .u64 (Y.cmd : Nat)) ∧ Below W.heap.size W w' from hE)
        have HWX := Lib.hid (show ∀ (W : World) (h : Below w6.heap.size w6 W), Calls Tryz.prog 17 #[.agg #[.int .i64 qop, .bool false, .int .i64 qfl, .slice A5 qv.length cap5, .slice none 0 0, .string qd], .string ⟨#[77, 97, 120, 67, 109, 100, 83, 78]⟩] W fun e w' => e = .returned (.int .u64 (aft Y.cmd 31 : Nat)) ∧ Below W.heap.size W w' from hX)
        have HWR := Lib.hid (show ∀ (W : World) (h : Below w6.heap.size w6 W), Calls Tryz.prog 18 #[.agg #[.int .i64 qop, .bool false, .int .i64 qfl, .slice A5 qv.length cap5, .slice none 0 0, .string qd]] W fun e w' => e = .returned .nilIface ∧ Below W.heap.size W w' from hR)
        have HBQ := Lib.hid hB6
        have hzc : Y.cmd < 4294967296 := hcm
        have hmx := aft_small Y.cmd 31
        have w1e : IntKind.u64.wrap (Y.stat : Int) = Y.stat := by rw [IntKind.wrap_u64]; omega
        have w2e : IntKind.u64.wrap (Y.cmd : Int) = Y.cmd := by rw [IntKind.wrap_u64]; omega
        have w3e : IntKind.u64.wrap ((aft Y.cmd 31 : Nat) : Int) = (aft Y.cmd 31 : Nat) := by rw [IntKind.wrap_u64]; omega
        clear h1 h2 hq hS hE hX hR hpq hpq6 hpr hrow hv1 hv2 hv3 hB6 hB hA
        rcases now with _ | _
        · skip
          go_wp2_with fail
          go_loopw [103] (fun i wr => ∃ j : Nat, j ≤ 1 ∧ i = .int .i64 j ∧ Below w6.heap.size w6 wr) (fun i _ => 1 - (intOf i).toNat)
          case atStart => exact ⟨0, Nat.zero_le _, rfl, Below.refl _ _⟩
          case round =>
            obtain ⟨j, hj, rfl, hbr⟩ := hrel
            rcases (show j = 0 ∨ j = 1 by omega) with rfl | rfl
            · have hBr := HBQ.out.below hbr HBQ.out.lt
              have q0 : wr.cell? ⟨b, 0, none⟩ = some (.int .i64 qop) := hBr.cell 0
              have q1 : wr.cell? ⟨b, 1, none⟩ = some (.bool false) := hBr.cell 1
              have q2 : wr.cell? ⟨b, 2, none⟩ = some (.int .i64 qfl) := hBr.cell 2
              have q3 : wr.cell? ⟨b, 3, none⟩ = some (.slice A5 qv.length cap5) := hBr.cell 3
              have q4 : wr.cell? ⟨b, 4, none⟩ = some (.slice none 0 0) := hBr.cell 4
              have q5 : wr.cell? ⟨b, 5, none⟩ = some (.string qd) := hBr.cell 5
              obtain ⟨Wq, hWq⟩ : ∃ W : World, wr.alloc (.cells #[.int .i64 qop, .bool false, .int .i64 qfl, .slice A5 qv.length cap5, .slice none 0 0, .string qd] 41) = W := ⟨_, rfl⟩
              have hbq : Below wr.heap.size wr Wq := by rw [← hWq]; exact (Below.refl _ _).alloc (Nat.le_refl _) _
              obtain ⟨gq, hgq⟩ : ∃ x, wr.heap.size = x := ⟨_, rfl⟩
              have hBq : Blk Wq gq 41 #[.int .i64 qop, .bool false, .int .i64 qfl, .slice A5 qv.length cap5, .slice none 0 0, .string qd] := by rw [← hWq, ← hgq]; exact Blk.new _ _ _
              have HCQ := Lib.hid (fun (W : World) (h : Below Wq.heap.size Wq W) => hBq.below h hBq.lt)
              have hbrq := below_step hbr hbq
              have x0 : Wq.cell? ⟨gq, 0, none⟩ = some (.int .i64 qop) := hBq.cell 0
              have x1 : Wq.cell? ⟨gq, 1, none⟩ = some (.bool false) := hBq.cell 1
              have x2 : Wq.cell? ⟨gq, 2, none⟩ = some (.int .i64 qfl) := hBq.cell 2
              have x3 : Wq.cell? ⟨gq, 3, none⟩ = some (.slice A5 qv.length cap5) := hBq.cell 3
              have x4 : Wq.cell? ⟨gq, 4, none⟩ = some (.slice none 0 0) := hBq.cell 4
              have x5 : Wq.cell? ⟨gq, 5, none⟩ = some (.string qd) := hBq.cell 5
              have HWQ := Lib.hid hWq
              have HGQ := Lib.hid hgq
              clear hBr hBq hWq hgq
              go_upto_region 17 with (fail)
              try refine wp_worldN HWQ.out ?_
              try rw [HGQ.out]
              go_wp2_with fail
              refine (HWS.out _ hbrq).mono ?_
              rintro e y1 ⟨rfl, hy1⟩
              go_wp2_with fail
              refine (after_k Y.stat 0 _ (by decide)).mono ?_
              rintro e y2 ⟨rfl, rfl⟩
              try rw [hsz]
              have hB1 := HCQ.out y1 hy1
              have s0 : y1.cell? ⟨gq, 0, none⟩ = some (.int .i64 qop) := hB1.cell 0
              have s1 : y1.cell? ⟨gq, 1, none⟩ = some (.bool false) := hB1.cell 1
              have s2 : y1.cell? ⟨gq, 2, none⟩ = some (.int .i64 qfl) := hB1.cell 2
              have s3 : y1.cell? ⟨gq, 3, none⟩ = some (.slice A5 qv.length cap5) := hB1.cell 3
              have s4 : y1.cell? ⟨gq, 4, none⟩ = some (.slice none 0 0) := hB1.cell 4
              have s5 : y1.cell? ⟨gq, 5, none⟩ = some (.string qd) := hB1.cell 5
              clear x0 x1 x2 x3 x4 x5 hB1
              go_wp2_with fail
              refine (HWR.out _ (below_step hbrq hy1)).mono ?_
              rintro e y3 ⟨rfl, hy3⟩
              have hy13 := below_step hy1 hy3
              have hB3 := HCQ.out y3 hy13
              have x0 : y3.cell? ⟨gq, 0, none⟩ = some (.int .i64 qop) := hB3.cell 0
              have x1 : y3.cell? ⟨gq, 1, none⟩ = some (.bool false) := hB3.cell 1
              have x2 : y3.cell? ⟨gq, 2, none⟩ = some (.int .i64 qfl) := hB3.cell 2
              have x3 : y3.cell? ⟨gq, 3, none⟩ = some (.slice A5 qv.length cap5) := hB3.cell 3
              have x4 : y3.cell? ⟨gq, 4, none⟩ = some (.slice none 0 0) := hB3.cell 4
              have x5 : y3.cell? ⟨gq, 5, none⟩ = some (.string qd) := hB3.cell 5
              clear s0 s1 s2 s3 s4 s5 hB3
              go_wp2_with fail
              refine (HWE.out _ (below_step hbrq hy13)).mono ?_
              rintro e y4 ⟨rfl, hy4⟩
              have hy14 := below_step hy13 hy4
              have hB4 := HCQ.out y4 hy14
              have s0 : y4.cell? ⟨gq, 0, none⟩ = some (.int .i64 qop) := hB4.cell 0
              have s1 : y4.cell? ⟨gq, 1, none⟩ = some (.bool false) := hB4.cell 1
              have s2 : y4.cell? ⟨gq, 2, none⟩ = some (.int .i64 qfl) := hB4.cell 2
              have s3 : y4.cell? ⟨gq, 3, none⟩ = some (.slice A5 qv.length cap5) := hB4.cell 3
              have s4 : y4.cell? ⟨gq, 4, none⟩ = some (.slice none 0 0) := hB4.cell 4
              have s5 : y4.cell? ⟨gq, 5, none⟩ = some (.string qd) := hB4.cell 5
              clear x0 x1 x2 x3 x4 x5 hB4
              go_wp2_with fail
              refine (HWX.out _ (below_step hbrq hy14)).mono ?_
              rintro e y5 ⟨rfl, hy5⟩
              go_wp2_with fail
              refine (after_k Y.cmd 31 _ (by decide)).mono ?_
              rintro e y6 ⟨rfl, rfl⟩
              go_wp2_with fail
              go_roundw
              case rel => exact ⟨1, by omega, by go_num, below_step hbrq (below_step hy14 hy5)⟩
              case measure => simp [intOf]
            · go_wp2_with fail
              refine (after_k Y.stat 1 _ (by decide)).mono ?_
              rintro e w9 ⟨rfl, rfl⟩
              go_wp2_with fail
              go_roundw
              case rel => exact ⟨k + 1, Z, S5, by omega, by go_num, HI6.out.on hbr, hZb⟩
              case measure => simp [intOf]; omega
        · skip
          go_wp2_with fail
          go_loopw [103] (fun i wr => ∃ j : Nat, j ≤ 1 ∧ i = .int .i64 j ∧ Below w6.heap.size w6 wr) (fun i _ => 1 - (intOf i).toNat)
          case atStart => exact ⟨0, Nat.zero_le _, rfl, Below.refl _ _⟩
          case round =>
            obtain ⟨j, hj, rfl, hbr⟩ := hrel
            rcases (show j = 0 ∨ j = 1 by omega) with rfl | rfl
            · have hBr := HBQ.out.below hbr HBQ.out.lt
              have q0 : wr.cell? ⟨b, 0, none⟩ = some (.int .i64 qop) := hBr.cell 0
              have q1 : wr.cell? ⟨b, 1, none⟩ = some (.bool false) := hBr.cell 1
              have q2 : wr.cell? ⟨b, 2, none⟩ = some (.int .i64 qfl) := hBr.cell 2
              have q3 : wr.cell? ⟨b, 3, none⟩ = some (.slice A5 qv.length cap5) := hBr.cell 3
              have q4 : wr.cell? ⟨b, 4, none⟩ = some (.slice none 0 0) := hBr.cell 4
              have q5 : wr.cell? ⟨b, 5, none⟩ = some (.string qd) := hBr.cell 5
              obtain ⟨Wq, hWq⟩ : ∃ W : World, wr.alloc (.cells #[.int .i64 qop, .bool false, .int .i64 qfl, .slice A5 qv.length cap5, .slice none 0 0, .string qd] 41) = W := ⟨_, rfl⟩
              have hbq : Below wr.heap.size wr Wq := by rw [← hWq]; exact (Below.refl _ _).alloc (Nat.le_refl _) _
              obtain ⟨gq, hgq⟩ : ∃ x, wr.heap.size = x := ⟨_, rfl⟩
              have hBq : Blk Wq gq 41 #[.int .i64 qop, .bool false, .int .i64 qfl, .slice A5 qv.length cap5, .slice none 0 0, .string qd] := by rw [← hWq, ← hgq]; exact Blk.new _ _ _
              have HCQ := Lib.hid (fun (W : World) (h : Below Wq.heap.size Wq W) => hBq.below h hBq.lt)
              have hbrq := below_step hbr hbq
              have x0 : Wq.cell? ⟨gq, 0, none⟩ = some (.int .i64 qop) := hBq.cell 0
              have x1 : Wq.cell? ⟨gq, 1, none⟩ = some (.bool false) := hBq.cell 1
              have x2 : Wq.cell? ⟨gq, 2, none⟩ = some (.int .i64 qfl) := hBq.cell 2
              have x3 : Wq.cell? ⟨gq, 3, none⟩ = some (.slice A5 qv.length cap5) := hBq.cell 3
              have x4 : Wq.cell? ⟨gq, 4, none⟩ = some (.slice none 0 0) := hBq.cell 4
              have x5 : Wq.cell? ⟨gq, 5, none⟩ = some (.string qd) := hBq.cell 5
              have HWQ := Lib.hid hWq
              have HGQ := Lib.hid hgq
              clear hBr hBq hWq hgq
              go_upto_region 17 with (fail)
              try refine wp_worldN HWQ.out ?_
              try rw [HGQ.out]
              go_wp2_with fail
              refine (HWS.out _ hbrq).mono ?_
              rintro e y1 ⟨rfl, hy1⟩
              go_wp2_with fail
              refine (after_k Y.stat 0 _ (by decide)).mono ?_
              rintro e y2 ⟨rfl, rfl⟩
              try rw [hsz]
              have hB1 := HCQ.out y1 hy1
              have s0 : y1.cell? ⟨gq, 0, none⟩ = some (.int .i64 qop) := hB1.cell 0
              have s1 : y1.cell? ⟨gq, 1, none⟩ = some (.bool false) := hB1.cell 1
              have s2 : y1.cell? ⟨gq, 2, none⟩ = some (.int .i64 qfl) := hB1.cell 2
              have s3 : y1.cell? ⟨gq, 3, none⟩ = some (.slice A5 qv.length cap5) := hB1.cell 3
              have s4 : y1.cell? ⟨gq, 4, none⟩ = some (.slice none 0 0) := hB1.cell 4
              have s5 : y1.cell? ⟨gq, 5, none⟩ = some (.string qd) := hB1.cell 5
              clear x0 x1 x2 x3 x4 x5 hB1
              go_wp2_with fail
              refine (HWR.out _ (below_step hbrq hy1)).mono ?_
              rintro e y3 ⟨rfl, hy3⟩
              have hy13 := below_step hy1 hy3
              have hB3 := HCQ.out y3 hy13
              have x0 : y3.cell? ⟨gq, 0, none⟩ = some (.int .i64 qop) := hB3.cell 0
              have x1 : y3.cell? ⟨gq, 1, none⟩ = some (.bool false) := hB3.cell 1
              have x2 : y3.cell? ⟨gq, 2, none⟩ = some (.int .i64 qfl) := hB3.cell 2
              have x3 : y3.cell? ⟨gq, 3, none⟩ = some (.slice A5 qv.length cap5) := hB3.cell 3
              have x4 : y3.cell? ⟨gq, 4, none⟩ = some (.slice none 0 0) := hB3.cell 4
              have x5 : y3.cell? ⟨gq, 5, none⟩ = some (.string qd) := hB3.cell 5
              clear s0 s1 s2 s3 s4 s5 hB3
              go_wp2_with fail
              refine (HWE.out _ (below_step hbrq hy13)).mono ?_
              rintro e y4 ⟨rfl, hy4⟩
              have hy14 := below_step hy13 hy4
              have hB4 := HCQ.out y4 hy14
              have s0 : y4.cell? ⟨gq, 0, none⟩ = some (.int .i64 qop) := hB4.cell 0
              have s1 : y4.cell? ⟨gq, 1, none⟩ = some (.bool false) := hB4.cell 1
              have s2 : y4.cell? ⟨gq, 2, none⟩ = some (.int .i64 qfl) := hB4.cell 2
              have s3 : y4.cell? ⟨gq, 3, none⟩ = some (.slice A5 qv.length cap5) := hB4.cell 3
              have s4 : y4.cell? ⟨gq, 4, none⟩ = some (.slice none 0 0) := hB4.cell 4
              have s5 : y4.cell? ⟨gq, 5, none⟩ = some (.string qd) := hB4.cell 5
              clear x0 x1 x2 x3 x4 x5 hB4
              go_wp2_with fail
              refine (HWX.out _ (below_step hbrq hy14)).mono ?_
              rintro e y5 ⟨rfl, hy5⟩
              go_wp2_with fail
              refine (after_k Y.cmd 31 _ (by decide)).mono ?_
              rintro e y6 ⟨rfl, rfl⟩
              go_wp2_with fail
              go_roundw
              case rel => exact ⟨1, by omega, by go_num, below_step hbrq (below_step hy14 hy5)⟩
              case measure => simp [intOf]
            · go_wp2_with fail
              refine (after_k Y.stat 1 _ (by decide)).mono ?_
              rintro e w9 ⟨rfl, rfl⟩
              go_wp2_with fail
              go_roundw
              case rel => exact ⟨k + 1, Z, S5, by omega, by go_num, HI6.out.on hbr, hZb⟩
              case measure => simp [intOf]; omega
      · rw [h3] at hq ⊢
        subst hnw
        obtain ⟨b, hv, rfl, hB, hbb, hbS, hA⟩ := HO5.out
        obtain ⟨A5, cap5, rfl⟩ : ∃ A cap, hv = .slice A q.vals.length cap := by
          obtain ⟨_, A, cap, hv, _⟩ := hA.1
          exact ⟨A, cap, hv⟩
        have hER : ER = .nilIface := by
          rcases h1 with h1 | ⟨h1, _⟩
          · exact h1
          · cases h1
        subst hER
        have h2 : Z.stat = aft Y.stat 1 := h2
        rw [h2]
        have hsz : aft Y.stat 0 = Y.stat := aft_zero hst
        have hpq := ap_ok hA hq.vs hq.op hq.fl (by have := hq.sz; omega)
        have hpr : pduR q.op false q.fl q.vals [] q.data.size = none := by
          unfold pduR
          rw [hq.rt]
          have := hq.sz
          simp [rightGo]
          omega
        obtain ⟨r, hrow, hv1, hv2, hv3⟩ := hq.num
        obtain ⟨qop, qfl, qv, qd⟩ := q
        simp only at hB hpq hpr hrow hv1 hv2 hv3
        have hB6 : Blk w6 b 41 #[.int .i64 qop, .bool false, .int .i64 qfl, .slice A5 qv.length cap5, .slice none 0 0, .string qd] := hB.below hb6 hB.lt
        have hpq6 := hpq.on hb6
        have V6 := VV.out.on HI6.out.b
        have hS := fun (W : World) (h : Below w6.heap.size w6 W) => fwhat_any _ r nStat Y.stat hrow hv1 W (hpq6.on h) (V6.on h).T (V6.on h).S
        have hE := fun (W : World) (h : Below w6.heap.size w6 W) => fwhat_any _ r nExp (aft Y.cmd 1) hrow hv2 W (hpq6.on h) (V6.on h).T (V6.on h).S
        have hX := fun (W : World) (h : Below w6.heap.size w6 W) => fwhat_any _ r nMax (aft (aft Y.cmd 1) 31) hrow hv3 W (hpq6.on h) (V6.on h).T (V6.on h).S
        have hR := fun (W : World) (h : Below w6.heap.size w6 W) => pduRight_any (qop : Nat) false (qfl : Nat) qv (.slice A5 qv.length cap5) [] (.slice none 0 0) qd W hpq6.1 hpq6.2.1 (hpq6.on h).2.2.1 hpq6.2.2.2.1 (rd_nil _ _) (fun p hp => by cases hp) hpq6.2.2.2.2.2.2.2 (V6.on h).L (V6.on h).T (V6.on h).S
        rw [hpr] at hR
        have HWS := Lib.hid (show ∀ (W : World) (h : Below w6.heap.size w6 W), Calls Tryz.prog 17 #[.agg #[.int .i64 qop, .bool false, .int .i64 qfl, .slice A5 qv.length cap5, .slice none 0 0, .string qd], .string ⟨#[83, 116, 97, 116, 83, 78]⟩] W fun e w' => e = .returned (.int .u64 (Y.stat : Nat)) ∧ Below W.heap.size W w' from hS)
        have HWE := Lib.hid (show ∀ (W : World) (h : Below w6.heap.size w6 W), Calls Tryz.prog 17 #[.agg #[.int .i64 qop, .bool false, .int .i64 qfl, .slice A5 qv.length cap5, .slice none 0 0, .string qd], .string ⟨#[69, 120, 112, 67, 109, 100, 83, 78]⟩] W fun e w' => e = .returned (.int .u64 ((aft Y.cmd 1) : Nat)) ∧ Below W.heap.size W w' from hE)
        have HWX := Lib.hid (show ∀ (W : World) (h : Below w6.heap.size w6 W), Calls Tryz.prog 17 #[.agg #[.int .i64 qop, .bool false, .int .i64 qfl, .slice A5 qv.length cap5, .slice none 0 0, .string qd], .string ⟨#[77, 97, 120, 67, 109, 100, 83, 78]⟩] W fun e w' => e = .returned (.int .u64 (aft (aft Y.cmd 1) 31 : Nat)) ∧ Below W.heap.size W w' from hX)
        have HWR := Lib.hid (show ∀ (W : World) (h : Below w6.heap.size w6 W), Calls Tryz.prog 18 #[.agg #[.int .i64 qop, .bool false, .int .i64 qfl, .slice A5 qv.length cap5, .slice none 0 0, .string qd]] W fun e w' => e = .returned .nilIface ∧ Below W.heap.size W w' from hR)
        have HBQ := Lib.hid hB6
        have hzc : (aft Y.cmd 1) < 4294967296 := aft_small _ _
        have hmx := aft_small (aft Y.cmd 1) 31
        have w1e : IntKind.u64.wrap (Y.stat : Int) = Y.stat := by rw [IntKind.wrap_u64]; omega
        have w2e : IntKind.u64.wrap ((aft Y.cmd 1) : Int) = (aft Y.cmd 1) := by rw [IntKind.wrap_u64]; omega
        have w3e : IntKind.u64.wrap ((aft (aft Y.cmd 1) 31 : Nat) : Int) = (aft (aft Y.cmd 1) 31 : Nat) := by rw [IntKind.wrap_u64]; omega
        clear h1 h2 hq hS hE hX hR hpq hpq6 hpr hrow hv1 hv2 hv3 hB6 hB hA
        go_wp2_with fail
        refine (after_k Y.cmd 1 _ (by decide)).mono ?_
        rintro e w7 ⟨rfl, rfl⟩
        go_wp2_with fail
        go_loopw [103] (fun i wr => ∃ j : Nat, j ≤ 1 ∧ i = .int .i64 j ∧ Below w6.heap.size w6 wr) (fun i _ => 1 - (intOf i).toNat)
        case atStart => exact ⟨0, Nat.zero_le _, rfl, Below.refl _ _⟩
        case round =>
          obtain ⟨j, hj, rfl, hbr⟩ := hrel
          rcases (show j = 0 ∨ j = 1 by omega) with rfl | rfl
          · have hBr := HBQ.out.below hbr HBQ.out.lt
            have q0 : wr.cell? ⟨b, 0, none⟩ = some (.int .i64 qop) := hBr.cell 0
            have q1 : wr.cell? ⟨b, 1, none⟩ = some (.bool false) := hBr.cell 1
            have q2 : wr.cell? ⟨b, 2, none⟩ = some (.int .i64 qfl) := hBr.cell 2
            have q3 : wr.cell? ⟨b, 3, none⟩ = some (.slice A5 qv.length cap5) := hBr.cell 3
            have q4 : wr.cell? ⟨b, 4, none⟩ = some (.slice none 0 0) := hBr.cell 4
            have q5 : wr.cell? ⟨b, 5, none⟩ = some (.string qd) := hBr.cell 5
            obtain ⟨Wq, hWq⟩ : ∃ W : World, wr.alloc (.cells #[.int .i64 qop, .bool false, .int .i64 qfl, .slice A5 qv.length cap5, .slice none 0 0, .string qd] 41) = W := ⟨_, rfl⟩
            have hbq : Below wr.heap.size wr Wq := by rw [← hWq]; exact (Below.refl _ _).alloc (Nat.le_refl _) _
            obtain ⟨gq, hgq⟩ : ∃ x, wr.heap.size = x := ⟨_, rfl⟩
            have hBq : Blk Wq gq 41 #[.int .i64 qop, .bool false, .int .i64 qfl, .slice A5 qv.length cap5, .slice none 0 0, .string qd] := by rw [← hWq, ← hgq]; exact Blk.new _ _ _
            have HCQ := Lib.hid (fun (W : World) (h : Below Wq.heap.size Wq W) => hBq.below h hBq.lt)
            have hbrq := below_step hbr hbq
            have x0 : Wq.cell? ⟨gq, 0, none⟩ = some (.int .i64 qop) := hBq.cell 0
            have x1 : Wq.cell? ⟨gq, 1, none⟩ = some (.bool false) := hBq.cell 1
            have x2 : Wq.cell? ⟨gq, 2, none⟩ = some (.int .i64 qfl) := hBq.cell 2
            have x3 : Wq.cell? ⟨gq, 3, none⟩ = some (.slice A5 qv.length cap5) := hBq.cell 3
            have x4 : Wq.cell? ⟨gq, 4, none⟩ = some (.slice none 0 0) := hBq.cell 4
            have x5 : Wq.cell? ⟨gq, 5, none⟩ = some (.string qd) := hBq.cell 5
            have HWQ := Lib.hid hWq
            have HGQ := Lib.hid hgq
            clear hBr hBq hWq hgq
            go_upto_region 17 with (fail)
            try refine wp_worldN HWQ.out ?_
            try rw [HGQ.out]
            go_wp2_with fail
            refine (HWS.out _ hbrq).mono ?_
            rintro e y1 ⟨rfl, hy1⟩
            go_wp2_with fail
            refine (after_k Y.stat 0 _ (by decide)).mono ?_
            rintro e y2 ⟨rfl, rfl⟩
            try rw [hsz]
            have hB1 := HCQ.out y1 hy1
            have s0 : y1.cell? ⟨gq, 0, none⟩ = some (.int .i64 qop) := hB1.cell 0
            have s1 : y1.cell? ⟨gq, 1, none⟩ = some (.bool false) := hB1.cell 1
            have s2 : y1.cell? ⟨gq, 2, none⟩ = some (.int .i64 qfl) := hB1.cell 2
            have s3 : y1.cell? ⟨gq, 3, none⟩ = some (.slice A5 qv.length cap5) := hB1.cell 3
            have s4 : y1.cell? ⟨gq, 4, none⟩ = some (.slice none 0 0) := hB1.cell 4
            have s5 : y1.cell? ⟨gq, 5, none⟩ = some (.string qd) := hB1.cell 5
            clear x0 x1 x2 x3 x4 x5 hB1
            go_wp2_with fail
            refine (HWR.out _ (below_step hbrq hy1)).mono ?_
            rintro e y3 ⟨rfl, hy3⟩
            have hy13 := below_step hy1 hy3
            have hB3 := HCQ.out y3 hy13
            have x0 : y3.cell? ⟨gq, 0, none⟩ = some (.int .i64 qop) := hB3.cell 0
            have x1 : y3.cell? ⟨gq, 1, none⟩ = some (.bool false) := hB3.cell 1
            have x2 : y3.cell? ⟨gq, 2, none⟩ = some (.int .i64 qfl) := hB3.cell 2
            have x3 : y3.cell? ⟨gq, 3, none⟩ = some (.slice A5 qv.length cap5) := hB3.cell 3
            have x4 : y3.cell? ⟨gq, 4, none⟩ = some (.slice none 0 0) := hB3.cell 4
            have x5 : y3.cell? ⟨gq, 5, none⟩ = some (.string qd) := hB3.cell 5
            clear s0 s1 s2 s3 s4 s5 hB3
            go_wp2_with fail
            refine (HWE.out _ (below_step hbrq hy13)).mono ?_
            rintro e y4 ⟨rfl, hy4⟩
            have hy14 := below_step hy13 hy4
            have hB4 := HCQ.out y4 hy14
            have s0 : y4.cell? ⟨gq, 0, none⟩ = some (.int .i64 qop) := hB4.cell 0
            have s1 : y4.cell? ⟨gq, 1, none⟩ = some (.bool false) := hB4.cell 1
            have s2 : y4.cell? ⟨gq, 2, none⟩ = some (.int .i64 qfl) := hB4.cell 2
            have s3 : y4.cell? ⟨gq, 3, none⟩ = some (.slice A5 qv.length cap5) := hB4.cell 3
            have s4 : y4.cell? ⟨gq, 4, none⟩ = some (.slice none 0 0) := hB4.cell 4
            have s5 : y4.cell? ⟨gq, 5, none⟩ = some (.string qd) := hB4.cell 5
            clear x0 x1 x2 x3 x4 x5 hB4
            go_wp2_with fail
            refine (HWX.out _ (below_step hbrq hy14)).mono ?_
            rintro e y5 ⟨rfl, hy5⟩
            go_wp2_with fail
            refine (after_k (aft Y.cmd 1) 31 _ (by decide)).mono ?_
            rintro e y6 ⟨rfl, rfl⟩
            go_wp2_with fail
            go_roundw
            case rel => exact ⟨1, by omega, by go_num, below_step hbrq (below_step hy14 hy5)⟩
            case measure => simp [intOf]
          · go_wp2_with fail
            refine (after_k Y.stat 1 _ (by decide)).mono ?_
            rintro e w9 ⟨rfl, rfl⟩
            go_wp2_with fail
            go_roundw
            case rel => exact ⟨k + 1, Z, S5, by omega, by go_num, HI6.out.on hbr, hZb⟩
            case measure => simp [intOf]; omega
end Go.Proofs.YtamlepacljjpiaaGreatDoor
