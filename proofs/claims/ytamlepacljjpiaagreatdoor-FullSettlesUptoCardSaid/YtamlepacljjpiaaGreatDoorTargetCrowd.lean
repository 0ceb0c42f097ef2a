/- keep.crowded: it says something. -/
import Derived.Test.YtamlepacljjpiaaGreatDoorTargetP
import Derived.Test.YtamlepacljjpiaaGreatDoorGpairs
namespace Go.Proofs.YtamlepacljjpiaaGreatDoor
open Go.ChangeShapes Go.WideShapes Go.ChangeAt Go.RowKit Go.Shelf
set_option linter.unusedVariables false
set_option linter.unusedSimpArgs false
def SaysB (e : Ending) : Prop := ∃ b, e = .returned (.bool b)
set_option maxRecDepth 20000 in
set_option maxHeartbeats 8000000 in
theorem crowded_any (c : Cfg) (tv pv uv ov : Value) (w : World) (hv : CfgAt w tv pv uv ov c) (hc : c.Small) : Calls Tryz.prog 47 #[cfgV tv pv uv ov c] w fun e w' => SaysB e ∧ Below w.heap.size w w' := by
  obtain ⟨tg, po, uu, sn, ss, lim, own⟩ := c
  obtain ⟨hv1, hv2, hv3, hv4⟩ := hv
  have HS := Lib.hid hc
  clear hc
  unfold cfgV
  simp only at hv1 hv2 hv3 hv4 ⊢
  obtain ⟨A1, cap1, rfl, hm1⟩ := hv1.form
  obtain ⟨A2, cap2, rfl⟩ : ∃ A cap, pv = .slice A po.length cap := by obtain ⟨_, A, cap, h, _⟩ := hv2; exact ⟨A, cap, h⟩
  obtain ⟨A3, cap3, rfl⟩ : ∃ A cap, uv = .slice A uu.length cap := by obtain ⟨_, A, cap, h, _⟩ := hv3; exact ⟨A, cap, h⟩
  have hm2 : (po.length : Int) ≤ 9223372036854775807 := by obtain ⟨_, A, cap, h, h1, h2, _⟩ := hv2; unfold maxLen at h2; omega
  have hm3 : (uu.length : Int) ≤ 9223372036854775807 := by obtain ⟨_, A, cap, h, h1, h2, _⟩ := hv3; unfold maxLen at h2; omega
  have HV1 := Lib.hid hv1
  have HV2 := Lib.hid hv2
  have HV3 := Lib.hid hv3
  have HV4 := Lib.hid hv4
  clear hv1 hv2 hv3 hv4
  obtain ⟨n1, hn1⟩ : ∃ n, tg.length = n := ⟨_, rfl⟩
  obtain ⟨n2, hn2⟩ : ∃ n, po.length = n := ⟨_, rfl⟩
  obtain ⟨n3, hn3⟩ : ∃ n, uu.length = n := ⟨_, rfl⟩
  rw [hn1] at hm1
  rw [hn2] at hm2
  rw [hn3] at hm3
  rw [hn1, hn2, hn3]
  have HN1 := Lib.hid hn1
  have HN2 := Lib.hid hn2
  have HN3 := Lib.hid hn3
  clear hn1 hn2 hn3
  have hs1 : sn.size ≤ 140737488351232 := HS.out.sn
  have hs2 : ss.size ≤ 140737488351232 := HS.out.ss
  have hb0 : Below w.heap.size w (w.alloc (.cells #[.slice A1 n1 cap1, .slice A2 n2 cap2, .slice A3 n3 cap3, .string sn, .string ss, .int .i64 lim, ov] 29)) := (Below.refl _ _).alloc (Nat.le_refl _) _
  have hB0 : Blk (w.alloc (.cells #[.slice A1 n1 cap1, .slice A2 n2 cap2, .slice A3 n3 cap3, .string sn, .string ss, .int .i64 lim, ov] 29)) w.heap.size 29 #[.slice A1 n1 cap1, .slice A2 n2 cap2, .slice A3 n3 cap3, .string sn, .string ss, .int .i64 lim, ov] := Blk.new w _ _
  obtain ⟨W0, hW0⟩ : ∃ W : World, w.alloc (.cells #[.slice A1 n1 cap1, .slice A2 n2 cap2, .slice A3 n3 cap3, .string sn, .string ss, .int .i64 lim, ov] 29) = W := ⟨_, rfl⟩
  rw [hW0] at hb0 hB0
  obtain ⟨g, hg⟩ : ∃ g, w.heap.size = g := ⟨_, rfl⟩
  have hb0' := hb0
  rw [hg] at hB0
  have hgl := hB0.lt
  have e1 := hB0.cell 1
  have e2 := hB0.cell 2
  have e3 := hB0.cell 3
  have e4 := hB0.cell 4
  have e6 := hB0.cell 6
  have HE := Lib.hid (And.intro e1 (And.intro e2 (And.intro e3 (And.intro e4 e6))))
  have HW := Lib.hid hW0
  have HG := Lib.hid hg
  clear e1 e2 e3 e4 e6 hW0 hb0' hg hB0
  go_enter Tryz.func47, Tryz.ntmps47
  go_upto_region 1 with (fail)
  refine wp_worldN HW.out ?_
  rw [HG.out]
  have e0 : W0.cell? ⟨g, 0, none⟩ = some (.slice A1 n1 cap1) := by rw [← HW.out, ← HG.out]; exact (Blk.new w _ _).cell 0
  go_wp2_with fail
  go_loopw [3, 13] (fun s i wr => ∃ (k : Nat) (n : Int), k ≤ n1 ∧ i = .int .i64 k ∧ s = .int .i64 n ∧ Below W0.heap.size W0 wr) (fun _ i _ => n1 - (intOf i).toNat)
  case atStart => exact ⟨0, _, Nat.zero_le _, rfl, rfl, Below.refl _ _⟩
  case round =>
    obtain ⟨k, n, hk, rfl, rfl, hbr⟩ := hrel
    have hbw := below_step hb0 hbr
    by_cases hlt : k < n1
    · obtain ⟨x, hx⟩ : ∃ x, tg[k]? = some x := ⟨_, List.getElem?_eq_getElem (by rw [HN1.out]; exact hlt)⟩
      obtain ⟨b, o, rfl, hb, hc⟩ := (HV1.out.on hbw).at hx
      obtain ⟨X, hX⟩ : ∃ X : ByteArray, (⟨x.toArray⟩ : ByteArray) = X := ⟨_, rfl⟩
      have hXs : X.size ≤ 140737488351232 := by
        have := HS.out.tg x (List.mem_of_getElem? hx)
        rw [← hX, size_mkl]
        exact this
      rw [hX] at hc
      clear hx hX
      go_wp2_with fail
      go_roundw
      case rel => exact ⟨k + 1, _, by omega, by go_num, rfl, hbr⟩
      case measure => simp [intOf]; omega
    · have e1 := (hbr.cell (p := ⟨g, 1, none⟩) hgl).trans HE.out.1
      go_wp2_with fail
      go_loopw [3, 26] (fun s i wr => ∃ (k : Nat) (n : Int), k ≤ n2 ∧ i = .int .i64 k ∧ s = .int .i64 n ∧ Below W0.heap.size W0 wr) (fun _ i _ => n2 - (intOf i).toNat)
      case atStart => exact ⟨0, _, Nat.zero_le _, rfl, rfl, hbr⟩
      case round =>
        clear hbr hbw e1
        obtain ⟨k, n, hk, rfl, rfl, hbr⟩ := hrel
        have hbw := below_step hb0 hbr
        by_cases hlt : k < n2
        · obtain ⟨p, hpk⟩ : ∃ p, po[k]? = some p := ⟨_, List.getElem?_eq_getElem (by rw [HN2.out]; exact hlt)⟩
          obtain ⟨b, o, cp, u0, u1, hvv, hbl, p0, p1, c0, c1⟩ := (HV2.out.on hbw).two (k := k) (by rw [HN2.out]; exact hlt)
          have hcell := poCells_at po k p hpk
          rw [hcell.1] at p0
          rw [hcell.2] at p1
          obtain rfl := Option.some.inj p0
          obtain rfl := Option.some.inj p1
          injection hvv with g1 g2 g3
          subst g1
          subst g3
          obtain ⟨pa, pg⟩ := p
          have hsa : pa.size ≤ 140737488351232 := (HS.out.po _ (List.mem_of_getElem? hpk)).1
          simp only at c0 c1
          have hsz := hbr.size
          clear hpk hcell g2
          go_wp2_with fail
          go_roundw
          case rel => exact ⟨k + 1, _, by omega, by go_num, rfl, hbr.alloc hsz _⟩
          case measure => simp [intOf]; omega
        · have e2 := (hbr.cell (p := ⟨g, 2, none⟩) hgl).trans HE.out.2.1
          go_wp2_with fail
          go_loopw [3, 40] (fun s i wr => ∃ (k : Nat) (n : Int), k ≤ n3 ∧ i = .int .i64 k ∧ s = .int .i64 n ∧ Below W0.heap.size W0 wr) (fun _ i _ => n3 - (intOf i).toNat)
          case atStart => exact ⟨0, _, Nat.zero_le _, rfl, rfl, hbr⟩
          case round =>
            clear hbr hbw e2
            obtain ⟨k, n, hk, rfl, rfl, hbr⟩ := hrel
            have hbw := below_step hb0 hbr
            by_cases hlt : k < n3
            · obtain ⟨p, hpk⟩ : ∃ p, uu[k]? = some p := ⟨_, List.getElem?_eq_getElem (by rw [HN3.out]; exact hlt)⟩
              obtain ⟨b, o, cp, u0, u1, hvv, hbl, p0, p1, c0, c1⟩ := (HV3.out.on hbw).two (k := k) (by rw [HN3.out]; exact hlt)
              have hcell := pairCells_at uu k p hpk
              rw [hcell.1] at p0
              rw [hcell.2] at p1
              obtain rfl := Option.some.inj p0
              obtain rfl := Option.some.inj p1
              injection hvv with g1 g2 g3
              subst g1
              subst g3
              obtain ⟨pa, pg⟩ := p
              obtain ⟨hsa, hsb⟩ := HS.out.us _ (List.mem_of_getElem? hpk)
              simp only at c0 c1 hsa hsb
              have hsz := hbr.size
              clear hpk hcell g2
              go_wp2_with fail
              go_roundw
              case rel => exact ⟨k + 1, _, by omega, by go_num, rfl, hbr.alloc hsz _⟩
              case measure => simp [intOf]; omega
            · have e3 := (hbr.cell (p := ⟨g, 3, none⟩) hgl).trans HE.out.2.2.1
              have e4 := (hbr.cell (p := ⟨g, 4, none⟩) hgl).trans HE.out.2.2.2.1
              have e6 := (hbr.cell (p := ⟨g, 6, none⟩) hgl).trans HE.out.2.2.2.2
              go_wp2_with fail
              · refine (thick_any own _ _ (HV4.out.on hbw) HS.out.own).mono ?_
                rintro e w5 ⟨b, rfl, hb5⟩
                have hbw5 := below_step hbw hb5
                go_wp2_with fail
                all_goals
                  go_ret
                  exact ⟨⟨_, rfl⟩, by first | exact hbw5 | (rw [← HG.out]; exact hbw5)⟩
              · go_ret
                exact ⟨⟨_, rfl⟩, by first | exact hbw | (rw [← HG.out]; exact hbw)⟩
end Go.Proofs.YtamlepacljjpiaaGreatDoor
