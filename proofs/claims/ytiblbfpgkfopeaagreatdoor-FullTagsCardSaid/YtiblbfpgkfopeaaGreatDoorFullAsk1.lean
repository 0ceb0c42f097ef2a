/- full's ask, where no tag that was told is asked for: refused. -/
import Derived.Test.YtiblbfpgkfopeaaGreatDoorGfc
namespace Go.Proofs.YtiblbfpgkfopeaaGreatDoor
open Go.ChangeShapes Go.WideShapes Go.ChangeAt Go.RowKit Go.Shelf
set_option linter.unusedVariables false
set_option linter.unusedSimpArgs false
set_option maxRecDepth 20000 in
set_option maxHeartbeats 8000000 in
theorem fask_bad {w0 w : World} {f gn gt : Nat} {Sn : List Nat} {tv pv uv ov pc : Value} {X : FP} (h : FullX w0 w f gn gt Sn tv pv uv ov pc X) (V : Env w0) (x : PD × PdPart) (hp : PdOk w x) (hop : x.1.op = 4) (hright : rightR x.1.op x.1.now x.1.fl x.1.vals = none) (hsz : x.1.data.size ≤ 100000) (hT : fN x.1.vals 2 ≠ noneN) (hpc : X.pcs = []) :
    Calls Tryz.prog 59 #[.pointer (some ⟨f, 0, none⟩), pdV x] w fun e w' => DidX w0 w (fS f gt Sn) f ([rejA X 4 (headS x.1)], X.up) e w' := by
  obtain ⟨a, b, c, d, e0, hvals, _, hc32, _, _⟩ := vals4 (hop ▸ hright)
  obtain ⟨g, hg⟩ : ∃ g, w.heap.size = g := ⟨_, rfl⟩
  have hvT : valGo r4.2.2.2 x.1.vals nTTT.data.toList = .inr c := by rw [hvals]; exact val4.2.2.1
  have hf2 : fN x.1.vals 2 = c := by rw [hvals]; rfl
  rw [hf2] at hT
  have hrow : headRow x.1.op = some r4 := by rw [hop]; exact row4
  have hb0 : Below w.heap.size w (w.alloc (.cells (pdC x).toArray 46)) := (Below.refl _ _).alloc (Nat.le_refl _) _
  have hB0 : Blk (w.alloc (.cells (pdC x).toArray 46)) g 46 (pdC x).toArray := by rw [← hg]; exact Blk.new w _ _
  obtain ⟨W0, hW0⟩ : ∃ W : World, w.alloc (.cells (pdC x).toArray 46) = W := ⟨_, rfl⟩
  rw [hW0] at hb0 hB0
  have hX0 := h.on hb0
  have hp0 := hp.on hb0
  have V0 := V.on hX0.b
  have hval := fval_any x r4 nTTT c hrow hvT W0 hp0 V0.T V0.S
  have hcells := fun (W : World) (hb : Below W0.heap.size W0 W) => pd_cells (hB0.below hb hB0.lt)
  have href := fun (W : World) (hb : Below W0.heap.size W0 W) => frefuse_any (hX0.on hb) V x (hp0.on hb) hright hsz 4 (by decide)
  obtain ⟨pA, pcap, hpv⟩ : ∃ A cap, pc = .slice A 0 cap := by
    obtain ⟨_, A, cap, hv, _⟩ := h.ps
    rw [hpc] at hv
    exact ⟨A, cap, hv⟩
  have hc13 := fun (W : World) (hb : Below W0.heap.size W0 W) => (show W.cell? ⟨f, 13, none⟩ = some (.slice pA 0 pcap) by rw [← hpv]; exact (hX0.on hb).fb.cell 13)
  obtain ⟨A, cap, hu⟩ := pd_form hp
  obtain ⟨Y, hY⟩ : ∃ Y, headS x.1 = Y := ⟨_, rfl⟩
  rw [hY] at href ⊢
  have HV := Lib.hid hval
  have HC := Lib.hid hcells
  have HREF := Lib.hid href
  have H13 := Lib.hid hc13
  have HB := Lib.hid hb0
  clear hval hcells href hc13 hvals hvT hf2 hrow hX0 hp0 hB0 hp h hright hY
  obtain ⟨⟨op, now, fl, vals, al, data⟩, ⟨u, av⟩⟩ := x
  simp only at hu hop hsz
  subst hu
  subst hop
  obtain ⟨c0, c1, c2, c3, c4, c5⟩ := HC.out W0 (Below.refl _ _)
  try simp only at c0 c1 c2 c3 c4 c5
  go_enter Tryz.func59, Tryz.ntmps59
  go_upto_region 1 with (fail)
  try refine wp_worldN hW0 ?_
  try rw [hg]
  go_wp2_with fail
  refine HV.out.mono ?_
  rintro e w1 ⟨rfl, hb1⟩
  obtain ⟨d0, d1, d2, d3, d4, d5⟩ := HC.out w1 hb1
  try simp only at d0 d1 d2 d3 d4 d5
  have k13 := H13.out w1 hb1
  have hT2 : ¬ c = 4294967295 := hT
  have hT3 : ¬ ((c : Int) = 4294967295) := by omega
  have HREF1 := Lib.hid (HREF.out w1 hb1)
  have HB1 := Lib.hid (below_step HB.out hb1)
  clear c0 c1 c2 c3 c4 c5 hb1
  by_cases h1 : c = 1
  · subst h1
    go_wp2_with fail
    refine HREF1.out.mono ?_
    rintro e w2 ⟨v, rfl, hD⟩
    go_wp2_with fail
    go_ret
    exact ⟨v, rfl, hD.back (NF.of_below HB1.out)⟩
  · have h1z : ¬ ((c : Int) = 1) := by omega
    go_wp2_with fail
    refine HREF1.out.mono ?_
    rintro e w2 ⟨v, rfl, hD⟩
    go_wp2_with fail
    go_ret
    exact ⟨v, rfl, hD.back (NF.of_below HB1.out)⟩
end Go.Proofs.YtiblbfpgkfopeaaGreatDoor
