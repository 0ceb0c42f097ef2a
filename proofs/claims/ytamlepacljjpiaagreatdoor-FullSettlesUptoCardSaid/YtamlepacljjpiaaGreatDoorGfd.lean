/- FullFew FullSess FullReq FullUse FullFact. -/
import Derived.Test.YtamlepacljjpiaaGreatDoorTargetCrowd
import Derived.Test.YtamlepacljjpiaaGreatDoorGfb
import Derived.Test.YtamlepacljjpiaaGreatDoorNegoW8
import Derived.Test.YtamlepacljjpiaaGreatDoorTargetFact
import Derived.Test.YtamlepacljjpiaaGreatDoorGfc
/- keep.thick and keep.crowded where it is little. -/
namespace Go.Proofs.YtamlepacljjpiaaGreatDoor
open Go.ChangeShapes Go.WideShapes Go.ChangeAt Go.RowKit Go.Shelf
set_option linter.unusedVariables false
set_option linter.unusedSimpArgs false
structure Cfg.Few (c : Cfg) : Prop where
  tg : c.tg.length ≤ 4
  tgs : ∀ t ∈ c.tg, t.length ≤ 100
  po : c.po.length ≤ 4
  pos : ∀ p ∈ c.po, p.1.size ≤ 100
  us : c.us.length ≤ 0
  sn : c.sn.size ≤ 100
  ss : c.ss.size ≤ 100
  ow : c.own = []
set_option maxRecDepth 20000 in
set_option maxHeartbeats 4000000 in
theorem thick_few (l : PairL) (v : Value) (w : World) (hv : SRd w v 2 l.length (pairCells l)) (hd : ∀ p ∈ l, p.1.size + p.2.size ≤ 900) (hl : l.length ≤ 3) : Calls Tryz.prog 40 #[v] w fun e w' =>
    e = .returned (.bool false) ∧ Below w.heap.size w w' := by
  obtain ⟨hlen, A, cap, rfl, hcap, hmax, hcell⟩ := hv
  have HC := Lib.hid hcell
  unfold maxLen at hmax
  clear hcell hlen
  go_enter Tryz.func40, Tryz.ntmps40
  go_wp2_with fail
  go_loopw [3, 10] (fun s i wr => ∃ (k : Nat) (n : Int), k ≤ l.length ∧ i = .int .i64 k ∧ s = .int .i64 n ∧ 0 ≤ n ∧ n ≤ 3 + 900 * k ∧ Below w.heap.size w wr) (fun _ i _ => l.length - (intOf i).toNat)
  case atStart => exact ⟨0, _, Nat.zero_le _, rfl, rfl, by omega, by omega, Below.refl _ _⟩
  case round =>
    obtain ⟨k, n, hk, rfl, rfl, hn0, hn1, hbw⟩ := hrel
    by_cases hlt : k < l.length
    · obtain ⟨p, hp⟩ : ∃ p, l[k]? = some p := ⟨_, List.getElem?_eq_getElem hlt⟩
      obtain ⟨b, o, rfl, hbl, hcc⟩ := HC.out (by omega)
      have hc := pairCells_at l k p hp
      have c0 := (hbw.cell (p := ⟨b, o + 2 * k, none⟩) hbl).trans (hcc _ _ hc.1)
      have c1 := (hbw.cell (p := ⟨b, o + (2 * k + 1), none⟩) hbl).trans (hcc _ _ hc.2)
      rw [Nat.mul_comm] at c0 c1
      rw [← Nat.add_assoc] at c1
      have hdp := hd p (List.mem_of_getElem? hp)
      clear hc hcc hp
      obtain ⟨p1, p2⟩ := p
      simp only at c0 c1 hdp
      have hs0 := hbw.size
      go_wp2_with fail
      go_roundw
      case rel => exact ⟨k + 1, _, by omega, by go_num, rfl, by omega, by omega, hbw.alloc hs0 _⟩
      case measure => simp [intOf]; omega
    · have hn3 : decide (3000 < n) = false := by simp; omega
      go_wp2_with fail
      go_ret
      exact ⟨rfl, hbw⟩
set_option maxRecDepth 20000 in
set_option maxHeartbeats 8000000 in
theorem crowded_few (c : Cfg) (tv pv uv ov : Value) (w : World) (hv : CfgAt w tv pv uv ov c) (hc : c.Small) (hf : c.Few) : Calls Tryz.prog 47 #[cfgV tv pv uv ov c] w fun e w' => e = .returned (.bool false) ∧ Below w.heap.size w w' := by
  obtain ⟨tg, po, uu, sn, ss, lim, own⟩ := c
  obtain ⟨hv1, hv2, hv3, hv4⟩ := hv
  have HS := Lib.hid hc
  have HF := Lib.hid hf
  have f1 := hf.tg
  have f2 := hf.po
  have f3 := hf.us
  have f4 := hf.sn
  have f5 := hf.ss
  simp only at f1 f2 f3 f4 f5
  clear hc hf
  unfold cfgV
  simp only at hv1 hv2 hv3 hv4 ⊢
  obtain ⟨A1, cap1, rfl, hm1⟩ := hv1.form
  obtain ⟨A2, cap2, rfl⟩ : ∃ A cap, pv = .slice A po.length cap := by obtain ⟨_, A, cap, h, _⟩ := hv2; exact ⟨A, cap, h⟩
  obtain ⟨A3, cap3, rfl⟩ : ∃ A cap, uv = .slice A uu.length cap := by obtain ⟨_, A, cap, h, _⟩ := hv3; exact ⟨A, cap, h⟩
  have hm2 : (po.length : Int) ≤ 9223372036854775807 := by obtain ⟨_, A, cap, h, h1, h2, _⟩ := hv2; unfold maxLen at h2; omega
  have hm3 : (uu.length : Int) ≤ 9223372036854775807 := by obtain ⟨_, A, cap, h, h1, h2, _⟩ := hv3; unfold maxLen at h2; omega
  have HV1 := Lib.hid hv1
  have HV2 := Lib.hid hv2
  have HV3 := Lib.hid hv3
  have HV4 := Lib.hid hv4
  clear hv1 hv2 hv3 hv4
  obtain ⟨n1, hn1⟩ : ∃ n, tg.length = n := ⟨_, rfl⟩
  obtain ⟨n2, hn2⟩ : ∃ n, po.length = n := ⟨_, rfl⟩
  obtain ⟨n3, hn3⟩ : ∃ n, uu.length = n := ⟨_, rfl⟩
  rw [hn1] at hm1 f1
  rw [hn2] at hm2 f2
  rw [hn3] at hm3 f3
  rw [hn1, hn2, hn3]
  have HN1 := Lib.hid hn1
  have HN2 := Lib.hid hn2
  have HN3 := Lib.hid hn3
  clear hn1 hn2 hn3
  have hb0 : Below w.heap.size w (w.alloc (.cells #[.slice A1 n1 cap1, .slice A2 n2 cap2, .slice A3 n3 cap3, .string sn, .string ss, .int .i64 lim, ov] 29)) := (Below.refl _ _).alloc (Nat.le_refl _) _
  have hB0 : Blk (w.alloc (.cells #[.slice A1 n1 cap1, .slice A2 n2 cap2, .slice A3 n3 cap3, .string sn, .string ss, .int .i64 lim, ov] 29)) w.heap.size 29 #[.slice A1 n1 cap1, .slice A2 n2 cap2, .slice A3 n3 cap3, .string sn, .string ss, .int .i64 lim, ov] := Blk.new w _ _
  obtain ⟨W0, hW0⟩ : ∃ W : World, w.alloc (.cells #[.slice A1 n1 cap1, .slice A2 n2 cap2, .slice A3 n3 cap3, .string sn, .string ss, .int .i64 lim, ov] 29) = W := ⟨_, rfl⟩
  rw [hW0] at hb0 hB0
  obtain ⟨g, hg⟩ : ∃ g, w.heap.size = g := ⟨_, rfl⟩
  have hb0' := hb0
  rw [hg] at hB0
  have hgl := hB0.lt
  have e1 := hB0.cell 1
  have e2 := hB0.cell 2
  have e3 := hB0.cell 3
  have e4 := hB0.cell 4
  have e6 := hB0.cell 6
  have HE := Lib.hid (And.intro e1 (And.intro e2 (And.intro e3 (And.intro e4 e6))))
  have HW := Lib.hid hW0
  have HG := Lib.hid hg
  clear e1 e2 e3 e4 e6 hW0 hb0' hg hB0
  go_enter Tryz.func47, Tryz.ntmps47
  go_upto_region 1 with (fail)
  refine wp_worldN HW.out ?_
  rw [HG.out]
  have e0 : W0.cell? ⟨g, 0, none⟩ = some (.slice A1 n1 cap1) := by rw [← HW.out, ← HG.out]; exact (Blk.new w _ _).cell 0
  go_wp2_with fail
  go_loopw [3, 13] (fun s i wr => ∃ (k : Nat) (n : Int), k ≤ n1 ∧ i = .int .i64 k ∧ s = .int .i64 n ∧ 0 ≤ n ∧ n ≤ 101 * k ∧ Below W0.heap.size W0 wr) (fun _ i _ => n1 - (intOf i).toNat)
  case atStart => exact ⟨0, _, Nat.zero_le _, rfl, rfl, by omega, by omega, Below.refl _ _⟩
  case round =>
    obtain ⟨k, n, hk, rfl, rfl, hn0, hn4, hbr⟩ := hrel
    have hbw := below_step hb0 hbr
    by_cases hlt : k < n1
    · obtain ⟨x, hx⟩ : ∃ x, tg[k]? = some x := ⟨_, List.getElem?_eq_getElem (by rw [HN1.out]; exact hlt)⟩
      obtain ⟨b, o, rfl, hb, hc⟩ := (HV1.out.on hbw).at hx
      obtain ⟨X, hX⟩ : ∃ X : ByteArray, (⟨x.toArray⟩ : ByteArray) = X := ⟨_, rfl⟩
      have hXs : X.size ≤ 100 := by
        have := HF.out.tgs x (List.mem_of_getElem? hx)
        rw [← hX, size_mkl]
        exact this
      rw [hX] at hc
      clear hx hX
      go_wp2_with fail
      go_roundw
      case rel => exact ⟨k + 1, _, by omega, by go_num, rfl, by omega, by omega, hbr⟩
      case measure => simp [intOf]; omega
    · have e1 := (hbr.cell (p := ⟨g, 1, none⟩) hgl).trans HE.out.1
      go_wp2_with fail
      go_loopw [3, 26] (fun s i wr => ∃ (k : Nat) (n : Int), k ≤ n2 ∧ i = .int .i64 k ∧ s = .int .i64 n ∧ 0 ≤ n ∧ n ≤ 404 + 101 * k ∧ Below W0.heap.size W0 wr) (fun _ i _ => n2 - (intOf i).toNat)
      case atStart => exact ⟨0, _, Nat.zero_le _, rfl, rfl, by omega, by omega, hbr⟩
      case round =>
        clear hbr hbw e1 hn0 hn4
        obtain ⟨k, n, hk, rfl, rfl, hn0, hn4, hbr⟩ := hrel
        have hbw := below_step hb0 hbr
        by_cases hlt : k < n2
        · obtain ⟨p, hpk⟩ : ∃ p, po[k]? = some p := ⟨_, List.getElem?_eq_getElem (by rw [HN2.out]; exact hlt)⟩
          obtain ⟨b, o, cp, u0, u1, hvv, hbl, p0, p1, c0, c1⟩ := (HV2.out.on hbw).two (k := k) (by rw [HN2.out]; exact hlt)
          have hcell := poCells_at po k p hpk
          rw [hcell.1] at p0
          rw [hcell.2] at p1
          obtain rfl := Option.some.inj p0
          obtain rfl := Option.some.inj p1
          injection hvv with g1 g2 g3
          subst g1
          subst g3
          obtain ⟨pa, pg⟩ := p
          have hsa : pa.size ≤ 100 := HF.out.pos _ (List.mem_of_getElem? hpk)
          simp only at c0 c1
          have hsz := hbr.size
          clear hpk hcell g2
          go_wp2_with fail
          go_roundw
          case rel => exact ⟨k + 1, _, by omega, by go_num, rfl, by omega, by omega, hbr.alloc hsz _⟩
          case measure => simp [intOf]; omega
        · have e2 := (hbr.cell (p := ⟨g, 2, none⟩) hgl).trans HE.out.2.1
          go_wp2_with fail
          go_loopw [3, 40] (fun s i wr => ∃ (k : Nat) (n : Int), k ≤ n3 ∧ i = .int .i64 k ∧ s = .int .i64 n ∧ 0 ≤ n ∧ n ≤ 808 ∧ Below W0.heap.size W0 wr) (fun _ i _ => n3 - (intOf i).toNat)
          case atStart => exact ⟨0, _, Nat.zero_le _, rfl, rfl, by omega, by omega, hbr⟩
          case round =>
            clear hbr hbw e2 hn0 hn4
            obtain ⟨k, n, hk, rfl, rfl, hn0, hn4, hbr⟩ := hrel
            have hbw := below_step hb0 hbr
            by_cases hlt : k < n3
            · exact absurd hlt (by omega)
            · have e3 := (hbr.cell (p := ⟨g, 3, none⟩) hgl).trans HE.out.2.2.1
              have e4 := (hbr.cell (p := ⟨g, 4, none⟩) hgl).trans HE.out.2.2.2.1
              have e6 := (hbr.cell (p := ⟨g, 6, none⟩) hgl).trans HE.out.2.2.2.2
              have hn9 : decide (2500 < n + (sn.size : Int) + (ss.size : Int)) = false := by simp; omega
              have hown : own = [] := HF.out.ow
              go_wp2_with fail
              refine (thick_few own _ _ (HV4.out.on hbw) (fun p hp => by rw [hown] at hp; cases hp) (by rw [hown]; simp)).mono ?_
              rintro e w5 ⟨rfl, hb5⟩
              have hbw5 := below_step hbw hb5
              go_wp2_with fail
              go_ret
              exact ⟨rfl, by first | exact hbw5 | (rw [← HG.out]; exact hbw5)⟩
end Go.Proofs.YtamlepacljjpiaaGreatDoor

/- The contracts of full.New and keep.session. -/
namespace Go.Proofs.YtamlepacljjpiaaGreatDoor
open Go.ChangeShapes Go.WideShapes Go.ChangeAt Go.RowKit Go.Shelf
set_option linter.unusedVariables false
set_option linter.unusedSimpArgs false
theorem tgGo_at : ∀ (l : List (List UInt8)) (pre : List (List UInt8)) (E : Nat × Option Nat), tgGo pre l = some E → ∃ q, E.2 = some q
  | [], _, _, h => by cases h
  | t :: l, pre, E, h => by
    unfold tgGo at h
    split at h
    · exact tgGo_at l _ E h
    · cases h; exact ⟨_, rfl⟩
theorem poGo_at : ∀ (l : PoL) (k : Nat) (E : Nat × Option Nat), poGo k l = some E → ∃ q, E.2 = some q
  | [], _, _, h => by cases h
  | t :: l, k, E, h => by
    unfold poGo at h
    split at h
    · cases h; exact ⟨_, rfl⟩
    · split at h
      · cases h; exact ⟨_, rfl⟩
      · exact poGo_at l _ E h
theorem usGo_at : ∀ (l : PairL) (pre : List (List UInt8)) (E : Nat × Option Nat), usGo pre l = some E → ∃ q, E.2 = some q
  | [], _, _, h => by cases h
  | t :: l, pre, E, h => by
    unfold usGo at h
    split at h
    · exact usGo_at l _ E h
    · cases h; exact ⟨_, rfl⟩
theorem at_iface {w : World} {base : Nat} {er : Value} {E : Nat × Option Nat} (he : PErr w base er (some E)) (h : ∃ q, E.2 = some q) : ∃ t x, er = .iface t x := by
  obtain ⟨k, q⟩ := E
  obtain ⟨q', rfl⟩ := h
  obtain ⟨g, _, h3, _⟩ := he
  exact ⟨_, _, h3⟩
theorem errv_iface {w : World} {base k : Nat} {er : Value} (he : PErr w base er (some (k, none))) (h : k ≠ 0) : ∃ t x, er = .iface t x := by
  have he' : er = errv k := he
  unfold errv at he'
  rw [if_neg h] at he'
  exact ⟨_, _, he'⟩
theorem right_iface {w : World} {base : Nat} {er : Value} {c : Cfg} {E : Nat × Option Nat} (h : cRight c = some E) (he : PErr w base er (some E)) : ∃ t x, er = .iface t x := by
  unfold cRight at h
  split at h
  · cases h; exact errv_iface he (by decide)
  · split at h
    · rename_i ht; cases h; exact at_iface he (tgGo_at _ _ _ ht)
    · split at h
      · rename_i ht; cases h; exact at_iface he (poGo_at _ _ _ ht)
      · split at h
        · rename_i ht; cases h; exact at_iface he (usGo_at _ _ _ ht)
        · unfold selfR at h
          split at h
          · cases h; exact errv_iface he (by decide)
          · split at h
            · cases h; exact errv_iface he (by decide)
            · exact nnew_iface h he
theorem cright_new {c : Cfg} (h : cRight c = none) : nNewR c.own = none := by
  unfold cRight at h
  split at h
  · cases h
  · split at h
    · cases h
    · split at h
      · cases h
      · split at h
        · cases h
        · unfold selfR at h
          split at h
          · cases h
          · split at h
            · cases h
            · exact h
def newP (c : Cfg) (rc : PairL) (name : ByteArray) (disc : Bool) (stat cmd : Nat) : FP := ⟨c, c.own, rc, name, disc, stat, cmd, ⟨#[]⟩, [], false⟩
def NewIs (w0 w : World) (S : List Nat) (c : Cfg) (rc : PairL) (name : ByteArray) (disc : Bool) (stat cmd : Nat) (e : Ending) (w' : World) : Prop :=
  (cRight c ≠ none ∧ ∃ t x, e = .returned (.tuple #[.pointer none, .iface t x])) ∨ (∃ f S', e = .returned (.tuple #[.pointer (some ⟨f, 0, none⟩), .nilIface]) ∧ FullI w0 w' S' f (newP c rc name disc stat cmd) ∧ ∀ k ∈ S', k ∈ S ∨ w.heap.size ≤ k)
set_option maxRecDepth 20000 in
set_option maxHeartbeats 4000000 in
theorem fnew_any {w0 w : World} (c : Cfg) (tv pv uv ov : Value) (hc : CfgAt w0 tv pv uv ov c) (hsm : c.Small) (hb : Below w0.heap.size w0 w) (V : Env w0) (g : Nat) (Sn : List Nat) (rc : PairL) (hN : NegoH w Sn g c.own rc) (hS : ∀ k ∈ Sn, w0.heap.size ≤ k) (hrc : RecOk rc) (name : ByteArray) (hnm : name.size ≤ 140737488351232) (disc : Bool) (stat cmd : Nat) (hst : stat < 4294967296) (hcm : cmd < 4294967296) :
    Calls Tryz.prog 48 #[cfgV tv pv uv ov c, .pointer (some ⟨g, 0, none⟩), .string name, .bool disc, .int .u32 stat, .int .u32 cmd] w fun e w' => NewIs w0 w Sn c rc name disc stat cmd e w' ∧ Below w.heap.size w w' := by
  obtain ⟨R, hR⟩ : ∃ R, cRight c = R := ⟨_, rfl⟩
  obtain ⟨tg, po, us, sn, ss, lim, own⟩ := c
  obtain ⟨G0, hG0⟩ : ∃ G0, w.heap.size = G0 := ⟨_, rfl⟩
  have hb0 : Below w.heap.size w (w.alloc (.cells #[tv, pv, uv, .string sn, .string ss, .int .i64 lim, ov] 29)) := (Below.refl _ _).alloc (Nat.le_refl _) _
  have hB0 := Blk.new w 29 #[tv, pv, uv, .string sn, .string ss, .int .i64 lim, ov]
  obtain ⟨W0, hW0⟩ : ∃ W : World, w.alloc (.cells #[tv, pv, uv, .string sn, .string ss, .int .i64 lim, ov] 29) = W := ⟨_, rfl⟩
  rw [hW0] at hb0 hB0
  rw [hG0] at hB0
  have hbW := below_step hb hb0
  have hr := tright_any ⟨tg, po, us, sn, ss, lim, own⟩ tv pv uv ov W0 (hc.on hbW) hsm (V.on hbW)
  rw [hR] at hr
  have c0 := hB0.cell 0
  have c1 := hB0.cell 1
  have c2 := hB0.cell 2
  have c3 := hB0.cell 3
  have c4 := hB0.cell 4
  have c5 := hB0.cell 5
  have c6 := hB0.cell 6
  have HR := Lib.hid hR
  have HN := Lib.hid hN
  have HRI := Lib.hid hr
  clear hR hN hr
  unfold cfgV at *
  simp only at *
  go_enter Tryz.func48, Tryz.ntmps48
  go_upto_region 1 with (fail)
  try refine wp_worldN hW0 ?_
  try rw [hG0]
  go_wp2_with fail
  refine HRI.out.mono ?_
  rintro e w1 ⟨⟨er, rfl, her⟩, hb1⟩
  rcases R with _ | E
  · obtain rfl : er = .nilIface := her
    have hB1 := hB0.below hb1 hB0.lt
    obtain ⟨gt, hgt⟩ : ∃ gt, w1.heap.size = gt := ⟨_, rfl⟩
    clear c0 c1 c2 c3 c4 c5 c6
    go_wp2_with fail
    refine (gnew_ok 8192 _ (by omega) (by omega)).mono ?_
    rintro e w2 ⟨rfl, hw2⟩
    have hb2 : Below w1.heap.size w1 w2 := by rw [hw2]; exact (Below.refl _ _).alloc (Nat.le_refl _) _
    have hG2 : GBlk w2 gt ⟨#[]⟩ 8192 := by rw [hw2, ← hgt]; exact Blk.new w1 _ _
    have hB2 := hB1.below hb2 hB1.lt
    have k0 := hB2.cell 0
    have k1 := hB2.cell 1
    have k2 := hB2.cell 2
    have k3 := hB2.cell 3
    have k4 := hB2.cell 4
    have k5 := hB2.cell 5
    have k6 := hB2.cell 6
    have hb2w := below_step (below_step hb0 hb1) hb2
    have hN2 := HN.out.on hb2w
    clear hw2 hB1
    rw [hgt]
    go_wp2_with fail
    go_ret2
    have hb3 : Below w2.heap.size w2 (w2.alloc (.cells (fullCs g gt tv pv uv ov (.slice none 0 0) (newP ⟨tg, po, us, sn, ss, lim, own⟩ rc name disc stat cmd)) 82)) := (Below.refl _ _).alloc (Nat.le_refl _) _
    have hlt := HN.out.lt
    have hgl := Blk.lt hG2
    have hgw : w.heap.size ≤ gt := by have := (below_step hb0 hb1).size; omega
    have hbz := hb2w.size
    have hw0 := hb.size
    refine ⟨.inr ⟨w2.heap.size, _, rfl, FullX.i (gn := g) (gt := gt) (Sn := Sn) (tv := tv) (pv := pv) (uv := uv) (ov := ov) (pc := .slice none 0 0) ⟨below_step (below_step hb hb2w) hb3, Blk.new w2 _ _, hN2.on hb3, Blk.below hG2 hb3 hgl, hc, rd_nil _ _, PcTy.zero, (fun k hk => by cases hk), by omega, by omega, hS, by omega, fun hm => by have := hlt _ hm; omega, fun hm => by have := hlt _ hm; omega,
      ⟨hsm, HR.out, hst, hcm, Nat.zero_le _, cright_new HR.out, hrc, hnm, Nat.zero_le _⟩⟩, fun k hk => ?_⟩, below_step hb2w hb3⟩
    simp only [fS, List.mem_cons] at hk
    rcases hk with rfl | rfl | hk
    · exact .inr hbz
    · exact .inr hgw
    · exact .inl hk
  · obtain ⟨t, y, rfl⟩ := right_iface HR.out her
    go_wp2_with fail
    go_ret2
    exact ⟨.inl ⟨by rw [HR.out]; simp, t, y, rfl⟩, below_step hb0 hb1⟩
def sessP (c : Cfg) (offers : PairL) (disc : Bool) (stat cmd : Nat) : FP := newP c (ansRc c.own [] offers true disc) ⟨#[105, 113, 110, 46, 97]⟩ disc stat cmd
def SessIs (w0 w : World) (N : Prop) (c : Cfg) (offers : PairL) (disc : Bool) (stat cmd : Nat) (e : Ending) (w' : World) : Prop :=
  (N ∧ e = .returned (.pointer none)) ∨ ∃ f S, e = .returned (.pointer (some ⟨f, 0, none⟩)) ∧ FullI w0 w' S f (sessP c offers disc stat cmd) ∧ ∀ k ∈ S, w.heap.size ≤ k
set_option maxRecDepth 20000 in
set_option maxHeartbeats 4000000 in
theorem session_any {w0 w : World} (c : Cfg) (tv pv uv ov : Value) (offers : PairL) (fv : Value) (disc : Bool) (stat cmd : Nat) (hc : CfgAt w0 tv pv uv ov c) (hsm : c.Small) (hb : Below w0.heap.size w0 w) (hof : SRd w fv 2 offers.length (pairCells offers)) (hd : ∀ p ∈ offers, psmall p) (V : Env w0) (hst : stat < 4294967296) (hcm : cmd < 4294967296) (Cb Tb : Bool → Prop)
    (hC : ∀ W, Below w0.heap.size w0 W → Calls Tryz.prog 47 #[cfgV tv pv uv ov c] W fun e w' => (∃ b, Cb b ∧ e = .returned (.bool b)) ∧ Below W.heap.size W w')
    (hT : ∀ W, SRd W fv 2 offers.length (pairCells offers) → Calls Tryz.prog 40 #[fv] W fun e w' => (∃ b, Tb b ∧ e = .returned (.bool b)) ∧ Below W.heap.size W w') :
    Calls Tryz.prog 12 #[cfgV tv pv uv ov c, fv, .bool disc, .int .u32 stat, .int .u32 cmd] w fun e w' => SessIs w0 w (Cb true ∨ Tb true ∨ cRight c ≠ none) c offers disc stat cmd e w' ∧ Below w.heap.size w w' := by
  obtain ⟨tg, po, us, sn, ss, lim, own⟩ := c
  obtain ⟨G0, hG0⟩ : ∃ G0, w.heap.size = G0 := ⟨_, rfl⟩
  have hb0 : Below w.heap.size w (w.alloc (.cells #[tv, pv, uv, .string sn, .string ss, .int .i64 lim, ov] 29)) := (Below.refl _ _).alloc (Nat.le_refl _) _
  have hB0 := Blk.new w 29 #[tv, pv, uv, .string sn, .string ss, .int .i64 lim, ov]
  obtain ⟨W0, hW0⟩ : ∃ W : World, w.alloc (.cells #[tv, pv, uv, .string sn, .string ss, .int .i64 lim, ov] 29) = W := ⟨_, rfl⟩
  rw [hW0] at hb0 hB0
  rw [hG0] at hB0
  have hbW := below_step hb hb0
  have Vw := V.on hb
  obtain ⟨hc1, hc2, hc3, hc4⟩ := hc
  obtain ⟨R, hR⟩ : ∃ R, nNewR own = R := ⟨_, rfl⟩
  have hnn := fun (W : World) (h : Below w0.heap.size w0 W) => nnew_any own ov W (hc4.on h) hsm.own (V.on h)
  rw [hR] at hnn
  have hnew := fun (W : World) (h : Below w0.heap.size w0 W) => fnew_any ⟨tg, po, us, sn, ss, lim, own⟩ tv pv uv ov (w := W) ⟨hc1, hc2, hc3, hc4⟩ hsm h V
  have hoff := fun (W : World) (h : Below w.heap.size w W) => hof.on h
  have HC := Lib.hid hC
  have HT := Lib.hid hT
  have HR := Lib.hid hR
  have HNN := Lib.hid hnn
  have HNEW := Lib.hid hnew
  have HOF := Lib.hid hof
  have HOD := Lib.hid hd
  clear hC hT hc1 hc2 hc3 hc4 hR hnn hnew hof hd
  have c0 := hB0.cell 0
  have c1 := hB0.cell 1
  have c2 := hB0.cell 2
  have c3 := hB0.cell 3
  have c4 := hB0.cell 4
  have c5 := hB0.cell 5
  have c6 := hB0.cell 6
  unfold cfgV at HC HNEW ⊢
  simp only at HC HNEW ⊢
  go_enter Tryz.func12, Tryz.ntmps12
  go_upto_region 1 with (fail)
  try refine wp_worldN hW0 ?_
  try rw [hG0]
  go_wp2_with fail
  refine (HC.out W0 hbW).mono ?_
  rintro e w1 ⟨⟨b, hcb, rfl⟩, hb1⟩
  have hb1w := below_step hb0 hb1
  rcases b with _ | _
  rotate_left
  · go_wp2_with fail
    go_ret
    exact ⟨.inl ⟨.inl hcb, rfl⟩, hb1w⟩
  have hB1 := hB0.below hb1 hB0.lt
  clear c0 c1 c2 c3 c4 c5 c6
  go_wp2_with fail
  refine (HT.out w1 (HOF.out.on hb1w)).mono ?_
  rintro e w2 ⟨⟨b, htb, rfl⟩, hb2⟩
  have hb2w := below_step hb1w hb2
  rcases b with _ | _
  rotate_left
  · go_wp2_with fail
    go_ret
    exact ⟨.inl ⟨.inr (.inl htb), rfl⟩, hb2w⟩
  have hB2 := hB1.below hb2 hB1.lt
  have k6 := hB2.cell 6
  have hbz2 := below_step hb hb2w
  go_wp2_with fail
  refine (HNN.out w2 hbz2).mono ?_
  rintro e w3 ⟨he, hb3⟩
  have hb3w := below_step hb2w hb3
  rcases R with _ | E
  rotate_left
  · obtain ⟨er, rfl, he⟩ := he
    obtain ⟨t, y, rfl⟩ := nnew_iface HR.out he
    go_wp2_with fail
    go_ret
    refine ⟨.inl ⟨.inr (.inr fun h => ?_), rfl⟩, hb3w⟩
    have := cright_new h
    rw [HR.out] at this
    cases this
  obtain ⟨gn, ov', rfl, hgn, hBn, hr, hne⟩ := he
  obtain ⟨S, hN, hS⟩ := NegoH.new hgn hBn hr hne
  have hS0 : ∀ k ∈ S, w.heap.size ≤ k := fun k hk => Nat.le_trans hb2w.size (hS k hk)
  have hB3 := hB2.below hb3 hB2.lt
  have hgS : G0 ∉ S := fun hm => by have h1 := hS _ hm; have h2 := hB2.lt; omega
  clear k6 hB0 hB1
  go_wp2_with fail
  refine (ans_argG gn S own [] offers true disc fv w w3 Vw hb3w hN hS0 HOF.out HOD.out HR.out (by simp)).mono ?_
  rintro e w4 he
  obtain ⟨S5, u5, er5, rfl, hu5, _, hN5, hnf5, hS5, _, _⟩ := ans_gen hN he
  obtain ⟨hb4w, hS50⟩ := ans_after hb3w hS0 hnf5 hS5
  have hB4 : Blk w4 G0 29 #[tv, pv, uv, .string sn, .string ss, .int .i64 lim, ov] := (hnf5.block G0 hB3.lt hgS).trans hB3
  have k0 := hB4.cell 0
  have k1 := hB4.cell 1
  have k2 := hB4.cell 2
  have k3 := hB4.cell 3
  have k4 := hB4.cell 4
  have k5 := hB4.cell 5
  have k6 := hB4.cell 6
  have hbz4 := below_step hb hb4w
  have hS00 : ∀ k ∈ S5, w0.heap.size ≤ k := fun k hk => Nat.le_trans hb.size (hS50 k hk)
  have hok : RecOk (ansRc own [] offers true disc) := RecOk.nil.ansRc
  clear he hu5 hnf5 hS5 hN hB3 hBn hr
  go_wp2_with fail
  refine (HNEW.out w4 hbz4 gn S5 _ hN5 hS00 hok _ (by decide) disc stat cmd hst hcm).mono ?_
  rintro e w5 ⟨hE, hb5⟩
  have hb5w := below_step hb4w hb5
  rcases hE with ⟨h1, t, y, rfl⟩ | ⟨f, S', rfl, hI, hS'⟩
  · go_wp2_with fail
    go_ret
    exact ⟨.inl ⟨.inr (.inr h1), rfl⟩, hb5w⟩
  · go_wp2_with fail
    go_ret
    refine ⟨.inr ⟨f, S', rfl, hI, fun k hk => ?_⟩, hb5w⟩
    rcases hS' k hk with h1 | h1
    · exact hS50 k h1
    · exact Nat.le_trans hb4w.size h1
end Go.Proofs.YtamlepacljjpiaaGreatDoor

/- The contract of keep.request. -/
namespace Go.Proofs.YtamlepacljjpiaaGreatDoor
open Go.ChangeShapes Go.WideShapes Go.ChangeAt Go.RowKit Go.Shelf
set_option linter.unusedVariables false
set_option linter.unusedSimpArgs false
def reqPart (u : Value) : PdPart := ⟨u, .slice none 0 0⟩
def ReqIs (base : Nat) (p : PD) (e : Ending) (w' : World) : Prop := ∃ u, e = .returned (.tuple #[pdV (p, reqPart u), .bool true]) ∧ PdOk w' (p, reqPart u) ∧ ∀ k, u.ownBlock = some k → base ≤ k
set_option maxRecDepth 20000 in
set_option maxHeartbeats 4000000 in
theorem req_any (op fl : Int) (now : Bool) (ns : List ByteArray) (vs : List Nat) (nv vv : Value) (data : ByteArray) (l : List Nat) (w : World) (hm : makeR op fl (ns.map (·.data.toList)) vs = .inr l) (h0 : -9223372036854775808 ≤ op ∧ op ≤ 9223372036854775807) (hf : -9223372036854775808 ≤ fl ∧ fl ≤ 9223372036854775807)
    (hx : SRd w nv 1 ns.length (ns.map .string)) (hy : SRd w vv 1 vs.length (vs.map u64V)) (hvl : ∀ v ∈ vs, v < 18446744073709551616) (hl : ∀ v ∈ l, v < 18446744073709551616) (hs : data.size ≤ 140737488351232) (V : Env w) :
    Calls Tryz.prog 19 #[.int .i64 op, .int .i64 fl, .bool now, nv, vv, .string data] w fun e w' => ReqIs w.heap.size ⟨op, now, fl, l, [], data⟩ e w' ∧ Below w.heap.size w w' := by
  obtain ⟨R, hRR⟩ : ∃ R, w.heap.size = R := ⟨_, rfl⟩
  have hbw : Below w.heap.size w (w.alloc (.cells zeroPd 41)) := (Below.refl _ _).alloc (Nat.le_refl _) _
  have hBR := Blk.new w 41 zeroPd
  obtain ⟨W0, hW0⟩ : ∃ W : World, w.alloc (.cells zeroPd 41) = W := ⟨_, rfl⟩
  rw [hW0] at hbw hBR
  rw [hRR] at hBR
  have hW0' : w.alloc (.cells #[.int .i64 0, .bool false, .int .i64 0, .slice none 0 0, .slice none 0 0, .string ⟨#[]⟩] 41) = W0 := hW0
  have V0 := V.on hbw
  have hmk := make_fresh op fl ns vs nv vv W0 h0 hf (hx.on hbw) (hy.on hbw) hvl V0.T V0.S
  rw [hm] at hmk
  have HMK := Lib.hid hmk
  have hRl := hBR.lt
  clear hm hmk hx hy hW0
  go_enter Tryz.func19, Tryz.ntmps19
  go_upto_region 1 with (fail)
  try refine wp_worldN hW0' ?_
  try rw [hRR]
  go_wp2_with fail
  refine HMK.out.mono ?_
  rintro e w1 ⟨⟨u, rfl, hu, huk⟩, hb1⟩
  obtain ⟨A, cap, rfl⟩ : ∃ A cap, u = .slice A l.length cap := by obtain ⟨_, A, cap, hv, _⟩ := hu; exact ⟨A, cap, hv⟩
  obtain ⟨LL, hLL⟩ : ∃ LL, l.length = LL := ⟨_, rfl⟩
  rw [hLL] at hu huk ⊢
  obtain ⟨q, hq⟩ : ∃ q, w1.heap.size = q := ⟨_, rfl⟩
  have hb2 : Below w1.heap.size w1 (w1.alloc (.cells #[.int .i64 op, .bool false, .int .i64 fl, .slice A LL cap] 38)) := (Below.refl _ _).alloc (Nat.le_refl _) _
  have hH2 := Blk.new w1 38 #[.int .i64 op, .bool false, .int .i64 fl, .slice A LL cap]
  obtain ⟨W2, hW2⟩ : ∃ W : World, w1.alloc (.cells #[.int .i64 op, .bool false, .int .i64 fl, .slice A LL cap] 38) = W := ⟨_, rfl⟩
  rw [hW2] at hb2 hH2
  rw [hq] at hH2
  have hB1 := hBR.below hb1 hRl
  have hB2 := hB1.below hb2 hB1.lt
  have hRq : R ≠ q := by have := hB1.lt; omega
  have m1 : W2.cell? ⟨q, 1, none⟩ = some (.bool false) := hH2.cell 1
  have n1 := hH2.frozen 1
  have hH3 := hH2.put 1 (.bool now)
  have hB3 := hB2.far (p := ⟨q, 1, none⟩) hRq (.bool now)
  have hbq : w.heap.size ≤ q := by have := below_step hbw hb1; have := this.size; omega
  have hbw3 : Below w.heap.size w (W2.setCell ⟨q, 1, none⟩ (.bool now)) := (below_step (below_step hbw hb1) hb2).setCell hbq _
  have hnf3 : NF [q] W2 (W2.setCell ⟨q, 1, none⟩ (.bool now)) := (NF.refl _ _).put (.inl (by simp)) 1 _
  have hu3 := srd_nf (hu.on hb2) hnf3 (fun hn k hk => by have := srd_lt hu hn k hk; simp; omega)
  obtain ⟨W3, hW3⟩ : ∃ W : World, W2.setCell ⟨q, 1, none⟩ (.bool now) = W := ⟨_, rfl⟩
  rw [hW3] at hH3 hB3 hbw3 hu3
  have c0 : W3.cell? ⟨q, 0, none⟩ = some (.int .i64 op) := hH3.cell 0
  have c1 : W3.cell? ⟨q, 1, none⟩ = some (.bool now) := hH3.cell 1
  have c2 : W3.cell? ⟨q, 2, none⟩ = some (.int .i64 fl) := hH3.cell 2
  have c3 : W3.cell? ⟨q, 3, none⟩ = some (.slice A LL cap) := hH3.cell 3
  have r0 : W3.cell? ⟨R, 0, none⟩ = some (.int .i64 0) := hB3.cell 0
  have r1 : W3.cell? ⟨R, 1, none⟩ = some (.bool false) := hB3.cell 1
  have r2 : W3.cell? ⟨R, 2, none⟩ = some (.int .i64 0) := hB3.cell 2
  have r3 : W3.cell? ⟨R, 3, none⟩ = some (.slice none 0 0) := hB3.cell 3
  have r4 : W3.cell? ⟨R, 4, none⟩ = some (.slice none 0 0) := hB3.cell 4
  have r5 : W3.cell? ⟨R, 5, none⟩ = some (.string ⟨#[]⟩) := hB3.cell 5
  have z0 := hB3.frozen 0
  have z1 := hB3.frozen 1
  have z2 := hB3.frozen 2
  have z3 := hB3.frozen 3
  have z4 := hB3.frozen 4
  have z5 := hB3.frozen 5
  have hRw : w.heap.size ≤ R := by omega
  have hB9 := six_blk hB3 (.int .i64 op) (.bool now) (.int .i64 fl) (.slice A LL cap) (.slice none 0 0) (.string data)
  have hb9 : Below w.heap.size w (six W3 R (.int .i64 op) (.bool now) (.int .i64 fl) (.slice A LL cap) (.slice none 0 0) (.string data)) := (((((hbw3.setCell hRw _).setCell hRw _).setCell hRw _).setCell hRw _).setCell hRw _).setCell hRw _
  have hnf9 : NF [R] W3 (six W3 R (.int .i64 op) (.bool now) (.int .i64 fl) (.slice A LL cap) (.slice none 0 0) (.string data)) := six_nf (NF.refl _ _) (.inl (by simp)) _ _ _ _ _ _
  have hu9 := srd_nf hu3 hnf9 (fun hn k hk => by have := huk k hk; have := hBR.lt; simp; omega)
  have hu9 := hu9.on (Below.refl _ _).drew
  have HU := Lib.hid hu9
  have HK := Lib.hid huk
  have HB9 := Lib.hid hb9
  have HB := Lib.hid hB9
  have hwz := hbw.size
  clear hu huk hu3 hu9 hb9 hB9 hnf9 hnf3 hbw3 hB1 hB2 hB3 hH2 hH3 hb1 hb2
  go_upto_region 3 with (fail)
  try refine wp_worldN hW3 ?_
  go_region
  go_wp2_with fail
  refine bodyPost_ret (results_s2 rfl _ _ R _ _ _ _ rfl rfl (Blk.drew HB.out) Tryz.underlying41 rfl (by kernel_rfl)) rfl ?_
  refine ⟨⟨.slice A LL cap, rfl, ⟨h0, hf, ?_, hl, rd_nil _ _, (fun q hq => by cases hq), (fun q hq => by cases hq), hs⟩, fun k hk => Nat.le_trans hwz (HK.out k hk)⟩, HB9.out.drew⟩
  show SRd _ (.slice A LL cap) 1 l.length _
  rw [hLL]
  exact HU.out
end Go.Proofs.YtamlepacljjpiaaGreatDoor

/- What the claims about a session share: Next, Closed, a session of keep.conf, answers read; keep.opened. -/
namespace Go.Proofs.YtamlepacljjpiaaGreatDoor
open Go.ChangeShapes Go.WideShapes Go.ChangeAt Go.RowKit Go.Shelf
set_option linter.unusedVariables false
set_option linter.unusedSimpArgs false
theorem fnext_any {w0 w : World} {S : List Nat} {f : Nat} {X : FP} (h : FullI w0 w S f X) : Calls Tryz.prog 14 #[.pointer (some ⟨f, 0, none⟩)] w fun e w' => e = .returned (.tuple #[.int .u32 X.stat, .int .u32 X.cmd]) ∧ Below w.heap.size w w' := by
  obtain ⟨gn, gt, Sn, tv, pv, uv, ov, pc, hX, rfl⟩ := h
  have c4 : w.cell? ⟨f, 10, none⟩ = some (.int .u32 X.stat) := hX.fb.cell 10
  have c5 : w.cell? ⟨f, 11, none⟩ = some (.int .u32 X.cmd) := hX.fb.cell 11
  clear hX
  go_enter Tryz.func14, Tryz.ntmps14
  go_wp2_with fail
  go_quiet (fail)
  go_wp2_with fail
  go_ret2
  exact ⟨rfl, below_dK (Below.refl _ _) _⟩
theorem fclosed_any {w0 w : World} {S : List Nat} {f : Nat} {X : FP} (h : FullI w0 w S f X) : Calls Tryz.prog 21 #[.pointer (some ⟨f, 0, none⟩)] w fun e w' => e = .returned (.bool X.closed) ∧ w = w' := by
  obtain ⟨gn, gt, Sn, tv, pv, uv, ov, pc, hX, rfl⟩ := h
  have c4 : w.cell? ⟨f, 14, none⟩ = some (.bool X.closed) := hX.fb.cell 14
  clear hX
  go_enter Tryz.func21, Tryz.ntmps21
  go_wp2_with fail
  go_ret
  exact ⟨rfl, rfl⟩
theorem confC_few : confC.Few where
  tg := by decide
  tgs := fun t ht => by simp [confC] at ht; rcases ht with rfl | rfl <;> decide
  po := by decide
  pos := fun p hp => by simp [confC] at hp; rcases hp with rfl | rfl <;> decide
  us := by decide
  sn := by decide
  ss := by decide
  ow := rfl
/- a session of keep.conf and few offers -/
theorem sessC_any {w0 w : World} {tv pv uv ov : Value} (hc : CfgAt w0 tv pv uv ov confC) (V : Env w0) (hb : Below w0.heap.size w0 w) (offers : PairL) (fv : Value) (hof : SRd w fv 2 offers.length (pairCells offers)) (hd : ∀ p ∈ offers, p.1.size + p.2.size ≤ 900) (hl : offers.length ≤ 3) (disc : Bool) (stat cmd : Nat) (hst : stat < 4294967296) (hcm : cmd < 4294967296) :
    Calls Tryz.prog 12 #[cfgV tv pv uv ov confC, fv, .bool disc, .int .u32 stat, .int .u32 cmd] w fun e w' => (∃ f S, e = .returned (.pointer (some ⟨f, 0, none⟩)) ∧ FullI w0 w' S f (sessP confC offers disc stat cmd) ∧ ∀ k ∈ S, w.heap.size ≤ k) ∧ Below w.heap.size w w' := by
  refine (session_any confC tv pv uv ov offers fv disc stat cmd hc confC_small hb hof (fun p hp => by have := hd p hp; exact ⟨by omega, by omega⟩) V hst hcm (fun b => b = false) (fun b => b = false) ?_ ?_).mono ?_
  · intro W hW
    refine (crowded_few confC tv pv uv ov W (hc.on hW) confC_small confC_few).mono ?_
    rintro e w' ⟨rfl, h⟩
    exact ⟨⟨false, rfl, rfl⟩, h⟩
  · intro W hW
    refine (thick_few offers fv W hW hd hl).mono ?_
    rintro e w' ⟨rfl, h⟩
    exact ⟨⟨false, rfl, rfl⟩, h⟩
  · rintro e w' ⟨h, hbw⟩
    refine ⟨?_, hbw⟩
    rcases h with ⟨h1 | h1 | h1, _⟩ | h
    · cases h1
    · cases h1
    · exact absurd confC_right h1
    · exact h
theorem wrong_ok {X : FP} {p : PD} (hc : X.closed = false) (hr : rightR p.op p.now p.fl p.vals = none) (ha : p.al = []) (hs : p.data.size ≤ 100000) : wrongP X p = none := by
  unfold wrongP pduR
  rw [if_neg (by simp [hc]), hr, ha]
  simp [rightGo]
  omega
/- an answer as a PDU -/
def apD (a : AP) : PD := ⟨a.op, false, a.fl, a.vals, [], a.data⟩
theorem ap_ok {w : World} {base : Nat} {S : List Nat} {a : AP} {hv : Value} (h : ApAt w base S a hv) (hv64 : ∀ y ∈ a.vals, y < 18446744073709551616) (ho : a.op ≤ 63) (hf : a.fl ≤ 255) (hs : a.data.size ≤ 140737488351232) : PdOk w (apD a, ⟨hv, .slice none 0 0⟩) :=
  ⟨⟨by show (-9223372036854775808 : Int) ≤ (a.op : Int); omega, by show (a.op : Int) ≤ 9223372036854775807; omega⟩, ⟨by show (-9223372036854775808 : Int) ≤ (a.fl : Int); omega, by show (a.fl : Int) ≤ 9223372036854775807; omega⟩, h.1, hv64, rd_nil _ _, (fun q hq => by cases hq), (fun q hq => by cases hq), hs⟩
theorem most_nil (disc : Bool) : mostN (ansRc [] [] [] true disc) = 8192 := by cases disc <;> decide +kernel
theorem ext_min (s : ByteArray) (n : Nat) (h : s.size ≤ n) : s.extract 0 (min s.size n) = s := by
  rw [Nat.min_eq_left h]
  exact ext_whole s
end Go.Proofs.YtamlepacljjpiaaGreatDoor

/- The fact keep.opened. -/
namespace Go.Proofs.YtamlepacljjpiaaGreatDoor
open Go.ChangeShapes Go.WideShapes Go.ChangeAt Go.RowKit Go.Shelf
set_option linter.unusedVariables false
set_option linter.unusedSimpArgs false
def hiB : ByteArray := ⟨#[104, 105]⟩
def openP : PD := ⟨0, false, 128, [0, 3, noneN, 9, 0], [], hiB⟩
def openX : FP := { sessP confC [] true 4 9 with cmd := 10 }
theorem open_wrong : wrongP (sessP confC [] true 4 9) openP = none := wrong_ok rfl (right0 (by decide) (by decide) (by decide) (by decide)) rfl (by decide)
theorem open_step (h : ByteArray) : stepP (sessP confC [] true 4 9) openP h = ([⟨32, 128, [0, 3, noneN, 4, 10, 41], hiB⟩], openX.up) := by
  have hm : mostN openX.rc = 8192 := most_nil true
  have hn : nopA openX openP = ⟨32, 128, [0, 3, noneN, 4, 10, 41], hiB⟩ := by
    unfold nopA
    rw [hm]
    have e : openP.data.extract 0 (min openP.data.size 8192) = hiB := ext_min hiB 8192 (by decide)
    rw [e]
    rfl
  unfold stepP
  rw [if_neg (by decide), if_neg (by decide), if_neg (by decide), if_neg (by decide)]
  show doP openX openP h = _
  unfold doP
  rw [if_pos (show openP.op = 0 from rfl), if_neg (by decide), hn]
set_option maxRecDepth 20000 in
set_option maxHeartbeats 8000000 in
theorem opened_any (w : World) (V : Env w) : Calls Tryz.prog 11 #[] w fun e w' => e = .returned (.bool true) ∧ Below w.heap.size w w' := by
  go_enter Tryz.func11, Tryz.ntmps11
  go_wp2_with fail
  refine (conf_any _).mono ?_
  rintro e w1 ⟨⟨tv, pv, uv, ov, rfl, hc1⟩, hb1⟩
  have V1 := V.on hb1
  go_wp2_with fail
  refine (sessC_any hc1 V1 (Below.refl _ _) [] _ (rd_nil _ _) (fun p hp => by cases hp) (by decide) true 4 9 (by decide) (by decide)).mono ?_
  rintro e w2 ⟨⟨f, S, rfl, hI2, hS2⟩, hb2⟩
  have hb2w := below_step hb1 hb2
  have V2 := V1.on hb2
  have hbl : Below w2.heap.size w2 ((w2.alloc (.cells #[.string ⟨#[73, 84, 84]⟩, .string ⟨#[84, 84, 84]⟩, .string ⟨#[67, 109, 100, 83, 78]⟩] 9)).alloc (.cells #[.int .u64 3, .int .u64 4294967295, .int .u64 9] 49)) := ((Below.refl _ _).alloc (Nat.le_refl _) _).alloc (by simp) _
  have hnv : SRd ((w2.alloc (.cells #[.string ⟨#[73, 84, 84]⟩, .string ⟨#[84, 84, 84]⟩, .string ⟨#[67, 109, 100, 83, 78]⟩] 9)).alloc (.cells #[.int .u64 3, .int .u64 4294967295, .int .u64 9] 49)) (.slice (some ⟨w2.heap.size, 0, none⟩) 3 3) 1 3 ([nITT, nTTT, nCmd].map .string) := SRd.lit5 (n := 3) (Blk.alloc (Blk.new w2 _ _) _)
  have hvv : SRd ((w2.alloc (.cells #[.string ⟨#[73, 84, 84]⟩, .string ⟨#[84, 84, 84]⟩, .string ⟨#[67, 109, 100, 83, 78]⟩] 9)).alloc (.cells #[.int .u64 3, .int .u64 4294967295, .int .u64 9] 49)) (.slice (some ⟨w2.heap.size + 1, 0, none⟩) 3 3) 1 3 ([3, noneN, 9].map u64V) := by
    rw [← szA w2 (.cells #[.string ⟨#[73, 84, 84]⟩, .string ⟨#[84, 84, 84]⟩, .string ⟨#[67, 109, 100, 83, 78]⟩] 9)]
    exact SRd.lit5 (n := 3) (Blk.new _ _ _)
  have hreq := req_any 0 128 false [nITT, nTTT, nCmd] [3, noneN, 9] _ _ hiB [0, 3, noneN, 9, 0] _ (make0c (b := 3) (c := noneN) (s := 9) (by decide) (by decide) (by decide)) (by decide) (by decide) hnv hvv (by decide) (by decide) (by decide) (V2.on hbl)
  have HREQ := Lib.hid hreq
  have HBL := Lib.hid hbl
  clear hreq hnv hvv hbl
  go_wp2_with fail
  refine HREQ.out.mono ?_
  rintro e w3 ⟨⟨u, he, hp3, hu3⟩, hb3⟩
  obtain ⟨A, cap, hu⟩ : ∃ A cap, u = .slice A 5 cap := pd_form hp3
  subst hu
  have he' : e = .returned (.tuple #[.agg #[.int .i64 0, .bool false, .int .i64 128, .slice A 5 cap, .slice none 0 0, .string ⟨#[104, 105]⟩], .bool true]) := he
  subst he'
  have hb23 := below_step HBL.out hb3
  have hb4 : Below w3.heap.size w3 (w3.alloc (.cells #[.int .i64 0, .bool false, .int .i64 128, .slice A 5 cap, .slice none 0 0, .string ⟨#[104, 105]⟩] 41)) := (Below.refl _ _).alloc (Nat.le_refl _) _
  have hB4 := Blk.new w3 41 #[.int .i64 0, .bool false, .int .i64 128, .slice A 5 cap, .slice none 0 0, .string ⟨#[104, 105]⟩]
  obtain ⟨W4, hW4⟩ : ∃ W : World, w3.alloc (.cells #[.int .i64 0, .bool false, .int .i64 128, .slice A 5 cap, .slice none 0 0, .string ⟨#[104, 105]⟩] 41) = W := ⟨_, rfl⟩
  rw [hW4] at hb4 hB4
  have hb24 := below_step hb23 hb4
  have hfar : PdFar S (openP, reqPart (.slice A 5 cap)) := ⟨fun _ k hk hm => by have h1 := hu3 k hk; have h2 := (hI2.lt k hm).1; have h3 := HBL.out.size; omega, fun hn => absurd (show 0 < 0 from hn) (by decide)⟩
  have htake := ftake_ok (hI2.on hb24) V1 (openP, reqPart (.slice A 5 cap)) (hp3.on hb4) hfar open_wrong (fun h => absurd (show (0 : Int) = 4 from h) (by decide))
  rw [open_step] at htake
  have HT := Lib.hid htake
  have d0 := hB4.cell 0
  have d1 := hB4.cell 1
  have d2 := hB4.cell 2
  have d3 := hB4.cell 3
  have d4 := hB4.cell 4
  have d5 := hB4.cell 5
  clear he htake hp3 hfar hB4 hu3
  go_wp2_with fail
  refine HT.out.mono ?_
  rintro e w5 ⟨v, rfl, S', hI5, hN5, hS5, b, hv, rfl, hB5, hbb, hbS, hA5⟩
  obtain ⟨A5, cap5, rfl⟩ := ap_form6 hA5 rfl
  have hS0 : ∀ k ∈ S, w1.heap.size ≤ k := hS2
  have hb15 : Below w1.heap.size w1 w5 := below_nf (below_step hb2 hb24) hN5 hS0
  clear d0 d1 d2 d3 d4 d5
  go_wp2_with fail
  refine (fnext_any hI5).mono ?_
  rintro e w6 ⟨he6, hb6⟩
  have he7 : e = .returned (.tuple #[.int .u32 5, .int .u32 10]) := he6
  subst he7
  have hB6 := hB5.below hb6 hB5.lt
  have hp6 := ap_ok (hA5) (by decide) (by decide) (by decide) (by decide)
  have hp6 := hp6.on hb6
  have hb16 := below_step hb15 hb6
  have V6 := V1.on hb16
  have hwh := fun (W : World) (hb : Below w6.heap.size w6 W) (n : ByteArray) (x : Nat) (hval : valGo r32.2.2.2 [0, 3, noneN, 4, 10, 41] n.data.toList = .inr x) => fwhat_any _ r32 n x row32 hval W (hp6.on hb) (V6.on hb).T (V6.on hb).S
  have hcl := fclosed_any (hI5.on hb6)
  have hcel := fun (W : World) (hb : Below w6.heap.size w6 W) => hB6.below hb hB6.lt
  have HW := Lib.hid hwh
  have HC := Lib.hid hcel
  have HI := Lib.hid (hI5.on hb6)
  have c0 : w6.cell? ⟨b, 0, none⟩ = some (.int .i64 32) := hB6.cell 0
  have c1 : w6.cell? ⟨b, 1, none⟩ = some (.bool false) := hB6.cell 1
  have c2 : w6.cell? ⟨b, 2, none⟩ = some (.int .i64 128) := hB6.cell 2
  have c3 : w6.cell? ⟨b, 3, none⟩ = some (.slice A5 6 cap5) := hB6.cell 3
  have c4 : w6.cell? ⟨b, 4, none⟩ = some (.slice none 0 0) := hB6.cell 4
  have c5 : w6.cell? ⟨b, 5, none⟩ = some (.string ⟨#[104, 105]⟩) := hB6.cell 5
  clear hwh hcl hcel hp6 he6 hB5 hA5 hI5
  go_wp2_with fail
  refine (HW.out w6 (Below.refl _ _) nITT 3 rfl).mono ?_
  rintro e w7 ⟨he, hb7⟩
  have he7 : e = .returned (.int .u64 3) := he
  subst he7
  have d0 : w7.cell? ⟨b, 0, none⟩ = some (.int .i64 32) := (HC.out w7 hb7).cell 0
  have d1 : w7.cell? ⟨b, 1, none⟩ = some (.bool false) := (HC.out w7 hb7).cell 1
  have d2 : w7.cell? ⟨b, 2, none⟩ = some (.int .i64 128) := (HC.out w7 hb7).cell 2
  have d3 : w7.cell? ⟨b, 3, none⟩ = some (.slice A5 6 cap5) := (HC.out w7 hb7).cell 3
  have d4 : w7.cell? ⟨b, 4, none⟩ = some (.slice none 0 0) := (HC.out w7 hb7).cell 4
  have d5 : w7.cell? ⟨b, 5, none⟩ = some (.string ⟨#[104, 105]⟩) := (HC.out w7 hb7).cell 5
  clear c0 c1 c2 c3 c4 c5 he
  go_wp2_with fail
  refine (HW.out w7 hb7 nStat 4 rfl).mono ?_
  rintro e w8 ⟨he, hb8⟩
  have he8 : e = .returned (.int .u64 4) := he
  subst he8
  have hb68 := below_step hb7 hb8
  have k0 : w8.cell? ⟨b, 0, none⟩ = some (.int .i64 32) := (HC.out w8 hb68).cell 0
  have k1 : w8.cell? ⟨b, 1, none⟩ = some (.bool false) := (HC.out w8 hb68).cell 1
  have k2 : w8.cell? ⟨b, 2, none⟩ = some (.int .i64 128) := (HC.out w8 hb68).cell 2
  have k3 : w8.cell? ⟨b, 3, none⟩ = some (.slice A5 6 cap5) := (HC.out w8 hb68).cell 3
  have k4 : w8.cell? ⟨b, 4, none⟩ = some (.slice none 0 0) := (HC.out w8 hb68).cell 4
  have k5 : w8.cell? ⟨b, 5, none⟩ = some (.string ⟨#[104, 105]⟩) := (HC.out w8 hb68).cell 5
  clear d0 d1 d2 d3 d4 d5 he
  go_wp2_with fail
  refine (HW.out w8 hb68 nExp 10 rfl).mono ?_
  rintro e w9 ⟨he, hb9⟩
  have he9 : e = .returned (.int .u64 10) := he
  subst he9
  have hb69 := below_step hb68 hb9
  clear k0 k1 k2 k3 k4 k5 he
  go_wp2_with fail
  refine (fclosed_any (HI.out.on hb69)).mono ?_
  rintro e w10 ⟨he, rfl⟩
  have he10 : e = .returned (.bool false) := he
  subst he10
  go_wp2_with fail
  go_ret
  exact ⟨rfl, below_step hb1 (below_step hb16 hb69)⟩
end Go.Proofs.YtamlepacljjpiaaGreatDoor
