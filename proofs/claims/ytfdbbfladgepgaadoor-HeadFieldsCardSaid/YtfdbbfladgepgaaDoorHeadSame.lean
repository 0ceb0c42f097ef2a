/- The contracts of what the laws on heads ask: slices.Equal, sameHead, nop, Write of what is wrong. -/
import Derived.Test.YtfdbbfladgepgaaDoorHeadRead
import Derived.Deep.RegionHeld3
namespace Go.Proofs.YtfdbbfladgepgaaDoor
open Go.ChangeShapes Go.WideShapes Go.ChangeAt Go.RowKit Go.Shelf
set_option linter.unusedVariables false
set_option maxHeartbeats 2000000 in
theorem equal_any (l m : List Nat) (x y : Value) (w : World) (hx : SRd w x 1 l.length (l.map u64V)) (hy : SRd w y 1 m.length (m.map u64V)) : Calls Tryd.prog 17 #[x, y] w fun e w' =>
    e = .returned (.bool (decide (l = m))) ∧ Below w.heap.size w w' := by
  obtain ⟨_, A, cap, rfl, hcap, hmax, hcell⟩ := hx
  obtain ⟨_, A2, cap2, rfl, hcap2, hmax2, hcell2⟩ := hy
  have HC := Lib.hid hcell
  have HC2 := Lib.hid hcell2
  unfold maxLen at hmax hmax2
  clear hcell hcell2
  by_cases hlm : l.length = m.length
  · obtain ⟨N, hN⟩ : ∃ N, l.length = N := ⟨_, rfl⟩
    have hM : m.length = N := by omega
    rw [hN, hM]
    rw [hN] at hcap
    rw [hM] at hcap2
    go_enter Tryd.func17, Tryd.ntmps17
    go_wp2_with fail
    go_loopw [13] (fun i wr => ∃ k : Nat, k ≤ N ∧ i = .int .i64 k ∧ l.take k = m.take k ∧ Below w.heap.size w wr) (fun i _ => N - (intOf i).toNat)
    case atStart => exact ⟨0, Nat.zero_le _, rfl, rfl, Below.refl _ _⟩
    case round =>
      obtain ⟨k, hk, rfl, heq, hbw⟩ := hrel
      have HEQ := Lib.hid heq
      clear heq
      by_cases hlt : k < N
      · obtain ⟨b, o, rfl, hbl, hcc⟩ := HC.out (by omega)
        obtain ⟨b2, o2, rfl, hbl2, hcc2⟩ := HC2.out (by omega)
        obtain ⟨p, hp⟩ : ∃ p, l[k]? = some p := ⟨_, List.getElem?_eq_getElem (by omega)⟩
        obtain ⟨q, hq⟩ : ∃ q, m[k]? = some q := ⟨_, List.getElem?_eq_getElem (by omega)⟩
        have e0 : wr.cell? ⟨b, o + k, none⟩ = some (.int .u64 p) := (hbw.cell (p := ⟨b, o + k, none⟩) hbl).trans (hcc k (u64V p) (by rw [List.getElem?_map, hp]; rfl))
        have e1 : wr.cell? ⟨b2, o2 + k, none⟩ = some (.int .u64 q) := (hbw.cell (p := ⟨b2, o2 + k, none⟩) hbl2).trans (hcc2 k (u64V q) (by rw [List.getElem?_map, hq]; rfl))
        have HP := Lib.hid hp
        have HQ := Lib.hid hq
        clear hcc hcc2 hp hq
        by_cases hpq : p = q
        · subst hpq
          have f1 : ((p : Int) != p) = false := by simp
          go_wp2_with fail
          go_quiet (fail)
          go_wp2_with fail
          go_roundw
          case rel => exact ⟨k + 1, by omega, by go_num, by rw [List.take_add_one, List.take_add_one, HP.out, HQ.out, HEQ.out], below_dN hbw _⟩
          case measure => simp [intOf]; omega
        · have f1 : ((p : Int) != q) = true := by simp; omega
          have hd : decide (l = m) = false := by
            simp only [decide_eq_false_iff_not]
            intro h
            have := HP.out
            rw [h, HQ.out] at this
            exact hpq (Option.some.inj this).symm
          have HD := Lib.hid hd
          clear hd hpq
          go_wp2_with fail
          go_quiet (fail)
          go_wp2_with fail
          go_ret
          exact ⟨by rw [HD.out]; rfl, below_dN hbw _⟩
      · have hd : decide (l = m) = true := by
          simp only [decide_eq_true_eq]
          have := HEQ.out
          rw [List.take_of_length_le (by omega), List.take_of_length_le (by omega)] at this
          exact this
        have HD := Lib.hid hd
        clear hd
        go_wp2_with fail
        go_ret
        exact ⟨by rw [HD.out]; rfl, hbw⟩
  · have f1 : ((l.length : Int) != m.length) = true := by simp; omega
    have hd : decide (l = m) = false := by simp; intro h; exact hlm (by rw [h])
    rw [hd]
    go_enter Tryd.func17, Tryd.ntmps17
    go_wp2_with fail
    go_ret
    exact ⟨rfl, Below.refl _ _⟩
theorem equal_to (l m : List Nat) (b : Bool) (hb : decide (l = m) = b) (x y : Value) (w : World) (hx : SRd w x 1 l.length (l.map u64V)) (hy : SRd w y 1 m.length (m.map u64V)) : Calls Tryd.prog 17 #[x, y] w fun e w' =>
    e = .returned (.bool b) ∧ Below w.heap.size w w' := by
  rw [← hb]
  exact equal_any l m x y w hx hy
set_option maxRecDepth 20000 in
set_option maxHeartbeats 2000000 in
theorem same_yes (op : Int) (now : Bool) (fl : Int) (l : List Nat) (x y : Value) (w : World) (hx : SRd w x 1 l.length (l.map u64V)) (hy : SRd w y 1 l.length (l.map u64V)) :
    Calls Tryd.prog 10 #[.agg #[.int .i64 op, .bool now, .int .i64 fl, x], .agg #[.int .i64 op, .bool now, .int .i64 fl, y]] w fun e w' => e = .returned (.bool true) ∧ Below w.heap.size w w' := by
  obtain ⟨A, cap, rfl⟩ : ∃ A cap, x = .slice A l.length cap := by obtain ⟨_, A, cap, hv, _⟩ := hx; exact ⟨A, cap, hv⟩
  obtain ⟨A2, cap2, rfl⟩ : ∃ A cap, y = .slice A l.length cap := by obtain ⟨_, A, cap, hv, _⟩ := hy; exact ⟨A, cap, hv⟩
  have hb0 : Below w.heap.size w ((w.alloc (.cells #[.int .i64 op, .bool now, .int .i64 fl, .slice A l.length cap] 38)).alloc (.cells #[.int .i64 op, .bool now, .int .i64 fl, .slice A2 l.length cap2] 38)) := ((Below.refl _ _).alloc (Nat.le_refl _) _).alloc (by simp) _
  have hB1 := (Blk.new w 38 #[.int .i64 op, .bool now, .int .i64 fl, .slice A l.length cap]).alloc (.cells #[.int .i64 op, .bool now, .int .i64 fl, .slice A2 l.length cap2] 38)
  have hB2 : Blk ((w.alloc (.cells #[.int .i64 op, .bool now, .int .i64 fl, .slice A l.length cap] 38)).alloc (.cells #[.int .i64 op, .bool now, .int .i64 fl, .slice A2 l.length cap2] 38)) (w.heap.size + 1) 38 #[.int .i64 op, .bool now, .int .i64 fl, .slice A2 l.length cap2] := by
    have := Blk.new (w.alloc (.cells #[.int .i64 op, .bool now, .int .i64 fl, .slice A l.length cap] 38)) 38 #[.int .i64 op, .bool now, .int .i64 fl, .slice A2 l.length cap2]
    simpa using this
  obtain ⟨g, hg⟩ : ∃ g, w.heap.size = g := ⟨_, rfl⟩
  rw [hg] at hB1 hB2 hb0 ⊢
  go_enter Tryd.func10, Tryd.ntmps10
  go_wp2_with fail
  have hb0w := hb0
  rw [← hg] at hb0w
  refine (equal_to l l true (by simp) _ _ _ (hx.on hb0w) (hy.on hb0w)).mono ?_
  rintro e w2 ⟨rfl, hb2⟩
  have hbw2 : Below g w w2 := hb0.trans (hb2.mono hb0.size |> fun h => h.mono (by rw [← hg]; exact Nat.le_refl _))
  go_wp2_with fail
  go_ret
  exact ⟨rfl, hbw2⟩
theorem HErr.value {w : World} {base : Nat} {v : Value} {E : Nat × Option Nat} (h : HErr w base v (some E)) : ∃ t x, v = .iface t x := by
  obtain ⟨c, o⟩ := E
  exact h.iface
set_option maxRecDepth 20000 in
set_option maxHeartbeats 2000000 in
theorem write_wrong (op : Int) (now : Bool) (fl : Int) (vals : List Nat) (v : Value) (words data : Int) (E : Nat × Option Nat) (w : World) (h0 : -9223372036854775808 ≤ op ∧ op ≤ 9223372036854775807) (hf : -9223372036854775808 ≤ fl ∧ fl ≤ 9223372036854775807) (hv : SRd w v 1 vals.length (vals.map u64V)) (hl : ∀ x ∈ vals, x < 18446744073709551616) (T : Tabs w) (hS : w.ShapedOpen Tryd.prog)
    (hr : rightR op now fl vals = some E) :
    Calls Tryd.prog 7 #[.agg #[.int .i64 op, .bool now, .int .i64 fl, v], .int .i64 words, .int .i64 data] w fun e w' =>
      ∃ er, e = .returned (.tuple #[.string ⟨#[]⟩, er]) ∧ HErr w' w.heap.size er (some E) ∧ Below w.heap.size w w' := by
  obtain ⟨A, cap, rfl⟩ : ∃ A cap, v = .slice A vals.length cap := by obtain ⟨_, A, cap, hv, _⟩ := hv; exact ⟨A, cap, hv⟩
  have hb0 : Below w.heap.size w (w.alloc (.cells #[.int .i64 op, .bool now, .int .i64 fl, .slice A vals.length cap] 38)) := (Below.refl _ _).alloc (Nat.le_refl _) _
  have HR := Lib.hid hr
  clear hr
  go_enter Tryd.func7, Tryd.ntmps7
  go_wp2_with fail
  have hs0 := hb0.size
  refine (right_any op now fl vals _ _ h0 hf (hv.on hb0) hl (T.on hb0) (shaped_ons hS hb0)).mono ?_
  rintro e w1 ⟨er, rfl, her, hb1⟩
  rw [HR.out] at her
  obtain ⟨et, ex, rfl⟩ := her.value
  have hbw1 := below_step hb0 hb1
  have HH := Lib.hid (her.more hs0)
  clear her
  go_wp2_with fail
  go_ret2
  exact ⟨_, rfl, HH.out, hbw1⟩
def nopL : List Nat := [0, 7, 4294967295, 3, 4]
theorem SRd.lit5 {w : World} {g n : Nat} {t : TypeId} {cs : Array Value} {xs : List Value} (h : Blk w g t cs) (hx : cs.toList = xs := by rfl) (hn : xs.length = n * 1 := by rfl) (hm : n ≤ maxLen := by decide) : SRd w (.slice (some ⟨g, 0, none⟩) n n) 1 n xs := by
  refine ⟨hn, _, n, rfl, Nat.le_refl _, hm, fun _ => ⟨g, 0, rfl, h.lt, fun j u hu => ?_⟩⟩
  rw [Nat.zero_add, h.cell j, ← Array.getElem?_toList, hx]
  exact hu
theorem results_s1 {P : Program} {fn : Func} {p : Tmp} {ty : TypeId} (h : fn.results = #[.cell p ty]) (tmps : Array Value) (w : World) (g : Nat) (t : TypeId) (cs : Array Value) (d : TypeDesc)
    (hp : tmps.getD p undef = .pointer (some ⟨g, 0, none⟩)) (hg : Blk w g t cs)
    (hu : P.underlying ty = some d) (hd : (match d with | .struct _ | .array _ _ => true | _ => false) = true) (hi : (P.info? ty).map (·.size) = some cs.size) :
    (results fn tmps).run P w = .ok (.agg cs) w := by
  have e : (results fn tmps).run P w = ((asAddr (tmps.getD p undef)).run P w).andThen fun x w₁ => (loadVar ty x).run P w₁ := by
    simp only [results, h]
    simp [Sem.run_bind, Result.andThen]
  rw [e, hp]
  have := run_loadVar_row (P := P) w g t ty cs (0, 0) d hg hu hd hi
  simp [asAddr, this]
theorem nop_any (w : World) : Calls Tryd.prog 8 #[] w fun e w' => ∃ v, e = .returned (.agg #[.int .i64 0, .bool true, .int .i64 128, v]) ∧ SRd w' v 1 nopL.length (nopL.map u64V) ∧ Below w.heap.size w w' := by
  have hB1 := (Blk.new w 38 #[.int .i64 0, .bool true, .int .i64 128, .slice (some ⟨w.heap.size + 1, 0, none⟩) 5 5]).alloc (.cells #[.int .u64 0, .int .u64 7, .int .u64 4294967295, .int .u64 3, .int .u64 4] 53)
  have hB2 : Blk ((w.alloc (.cells #[.int .i64 0, .bool true, .int .i64 128, .slice (some ⟨w.heap.size + 1, 0, none⟩) 5 5] 38)).alloc (.cells #[.int .u64 0, .int .u64 7, .int .u64 4294967295, .int .u64 3, .int .u64 4] 53)) (w.heap.size + 1) 53 #[.int .u64 0, .int .u64 7, .int .u64 4294967295, .int .u64 3, .int .u64 4] := by
    have := Blk.new (w.alloc (.cells #[.int .i64 0, .bool true, .int .i64 128, .slice (some ⟨w.heap.size + 1, 0, none⟩) 5 5] 38)) 53 #[.int .u64 0, .int .u64 7, .int .u64 4294967295, .int .u64 3, .int .u64 4]
    simpa using this
  go_enter Tryd.func8, Tryd.ntmps8
  go_wp2_with fail
  refine bodyPost_ret (results_s1 rfl _ _ w.heap.size _ _ _ rfl hB1 Tryd.underlying38 rfl (by kernel_rfl)) rfl ⟨_, rfl, ?_, ((Below.refl _ _).alloc (Nat.le_refl _) _).alloc (by simp) _⟩
  exact SRd.lit5 hB2
def nopS : List UInt8 := layAll (headB 0 true 128 1 5) ((headT.head?.map fun r => r.2.2.2).getD []) nopL
theorem nop_facts : ∃ r, headRow 0 = some r ∧ rightR 0 true 128 nopL = none ∧ layAll (headB r.1 true 128 1 5) r.2.2.2 nopL = nopS ∧ readE nopS = none ∧ readV r.2.2.2 nopS = nopL := by
  refine ⟨headT.head (by decide), ?_, ?_, ?_, ?_, ?_⟩
  · kernel_rfl
  · decide +kernel
  · decide +kernel
  · decide +kernel
  · decide +kernel
theorem nop_bytes : rB nopS 0 % 64 = 0 ∧ decide (64 ≤ rB nopS 0) = true ∧ rB nopS 1 = 128 ∧ rB nopS 4 = 1 ∧ rB nopS 5 * 65536 + rB nopS 6 * 256 + rB nopS 7 = 5 ∧ nopS.length = 48 ∧ nopS.take 8 = [64, 128, 0, 0, 1, 0, 0, 5] ∧ (nopS.drop 16).take 8 = [0, 0, 0, 7, 255, 255, 255, 255] := by decide +kernel
set_option maxRecDepth 20000 in
set_option maxHeartbeats 2000000 in
theorem headed_fact (w : World) (T : Tabs w) (hS : w.ShapedOpen Tryd.prog) : Calls Tryd.prog 4 #[] w fun e w' => e = .returned (.bool true) ∧ Below w.heap.size w w' := by
  obtain ⟨r, hr, hrr, hlay, hE, hV⟩ := nop_facts
  obtain ⟨q1, q2, q3, q4, q5, q6, q7, q8⟩ := nop_bytes
  obtain ⟨S, hSS⟩ : ∃ S : ByteArray, (⟨nopS.toArray⟩ : ByteArray) = S := ⟨_, rfl⟩
  have hSd : S.data.toList = nopS := by rw [← hSS]
  have hSz : S.size = 48 := by rw [← len_of, hSd, q6]
  go_enter Tryd.func4, Tryd.ntmps4
  go_wp2_with fail
  refine (nop_any _).mono ?_
  rintro e w1 ⟨v, rfl, hv, hb1⟩
  have HQ := Lib.hid (And.intro hlay (And.intro hE hV))
  have HR := Lib.hid hr
  have HRR := Lib.hid hrr
  have HSD := Lib.hid hSd
  have HSS := Lib.hid hSS
  clear hlay hE hV hr hrr hSd hSS
  have HB := Lib.hid (And.intro q1 (And.intro q2 (And.intro q3 (And.intro q4 q5))))
  clear q1 q2 q3 q4 q5 q6
  have H7 := Lib.hid q7
  have H8 := Lib.hid q8
  clear q7 q8
  go_wp2_with fail
  refine (write_ok 0 true 128 nopL v 1 5 r _ (by decide) (by decide) hv (by decide) (T.on hb1) (shaped_ons hS hb1) HR.out HRR.out (by decide) (by decide)).mono ?_
  rintro e w2 ⟨rfl, hb2⟩
  rw [HQ.out.1, HSS.out]
  have hbw2 := below_step hb1 hb2
  have hv2 := hv.on hb2
  go_wp2_with fail
  refine (read_any S _ (by omega) (T.on hbw2) (shaped_ons hS hbw2)).mono ?_
  rintro e w3 ⟨⟨hv', wd, dt, er, rfl, her, _, hok⟩, hb3⟩
  rw [HSD.out] at her hok
  rw [HQ.out.2.1] at her
  obtain rfl : er = .nilIface := her
  obtain ⟨r', v3, hr', rfl, hv3, rfl, rfl, _⟩ := hok HQ.out.2.1
  rw [HB.out.1] at hr' ⊢
  obtain rfl : r = r' := Option.some.inj (HR.out.symm.trans hr')
  rw [HQ.out.2.2] at hv3
  rw [HB.out.2.1, HB.out.2.2.1, HB.out.2.2.2.1, HB.out.2.2.2.2]
  have hbw3 := below_step hbw2 hb3
  obtain ⟨A3, cap3, rfl⟩ : ∃ A cap, v3 = .slice A nopL.length cap := by obtain ⟨_, A, cap, hv, _⟩ := hv3; exact ⟨A, cap, hv⟩
  clear hr' hok hb1 hb2 hb3 hv hv2 hbw2
  go_wp2_with fail
  have hBh := Blk.new w3 38 #[.int .i64 0, .bool true, .int .i64 128, .slice A3 nopL.length cap3]
  have hb34 : Below w3.heap.size w3 (w3.alloc (.cells #[.int .i64 0, .bool true, .int .i64 128, .slice A3 nopL.length cap3] 38)) := (Below.refl _ _).alloc (Nat.le_refl _) _
  obtain ⟨w4, hw4⟩ : ∃ w4 : World, w3.alloc (.cells #[.int .i64 0, .bool true, .int .i64 128, .slice A3 nopL.length cap3] 38) = w4 := ⟨_, rfl⟩
  obtain ⟨G, hG⟩ : ∃ G, w3.heap.size = G := ⟨_, rfl⟩
  rw [hw4] at hBh hb34 ⊢
  have hbw4 := below_step hbw3 hb34
  have hv4 := hv3.on hb34
  rw [hG] at hBh ⊢
  have c0 : w4.cell? ⟨G, 0, none⟩ = some (.int .i64 0) := hBh.cell 0
  have c1 : w4.cell? ⟨G, 1, none⟩ = some (.bool true) := hBh.cell 1
  have c2 : w4.cell? ⟨G, 2, none⟩ = some (.int .i64 128) := hBh.cell 2
  have c3 : w4.cell? ⟨G, 3, none⟩ = some (.slice A3 nopL.length cap3) := hBh.cell 3
  have hGl := hBh.lt
  have g8 : ((S.extract 0 8).toList == [64, 128, 0, 0, 1, 0, 0, 5]) = true := by
    rw [toList_of, ext_of, HSD.out]
    simpa using H7.out
  have g16 : ((S.extract 16 24).toList == [0, 0, 0, 7, 255, 255, 255, 255]) = true := by
    rw [toList_of, ext_of, HSD.out]
    simpa using H8.out
  have g48 : ((S.size : Int) == 48) = true := by rw [hSz]; rfl
  clear hw4 hv3 hb34 hbw3 hG hBh
  go_region_held3 (fun w' => w'.cell? ⟨G, 0, none⟩ = some (.int .i64 0) ∧ w'.cell? ⟨G, 1, none⟩ = some (.bool true) ∧ w'.cell? ⟨G, 2, none⟩ = some (.int .i64 128) ∧ w'.cell? ⟨G, 3, none⟩ = some (.slice A3 nopL.length cap3)) (first | go_keep | exact ⟨k0, k1, k2, k3⟩)
    (first | (go_at_call 8; refine (nop_any _).mono ?_; rintro e w5 ⟨v5, rfl, hv5, hb5⟩; have hb45 := (show Below w4.heap.size w4 w5 from ((Below.refl _ w4).drew).trans hb5); have k0 := (hb45.cell (p := ⟨G, 0, none⟩) hGl).trans c0; have k1 := (hb45.cell (p := ⟨G, 1, none⟩) hGl).trans c1; have k2 := (hb45.cell (p := ⟨G, 2, none⟩) hGl).trans c2; have k3 := (hb45.cell (p := ⟨G, 3, none⟩) hGl).trans c3) | (go_at_call 10; refine (same_yes 0 true 128 nopL _ _ _ (hv4.on hb45) hv5).mono ?_; rintro e w6 ⟨rfl, hb6⟩; have hb46 := hb45.trans (hb6.mono hb45.size); have k0 := (hb46.cell (p := ⟨G, 0, none⟩) hGl).trans c0; have k1 := (hb46.cell (p := ⟨G, 1, none⟩) hGl).trans c1; have k2 := (hb46.cell (p := ⟨G, 2, none⟩) hGl).trans c2; have k3 := (hb46.cell (p := ⟨G, 3, none⟩) hGl).trans c3))
  all_goals
    go_wp2_with fail
    go_ret
    exact ⟨by simp, below_step hbw4 hb46⟩
end Go.Proofs.YtfdbbfladgepgaaDoor
