/- FullNop FullOut FullTake. -/
import Derived.Test.YtamlepacljjpiaaGreatDoorGfb
import Derived.Test.YtamlepacljjpiaaGreatDoorGfa
/- The contract of full's nop. -/
namespace Go.Proofs.YtamlepacljjpiaaGreatDoor
open Go.ChangeShapes Go.WideShapes Go.ChangeAt Go.RowKit Go.Shelf
set_option linter.unusedVariables false
set_option linter.unusedSimpArgs false
theorem pd_form {w : World} {x : PD × PdPart} (hp : PdOk w x) : ∃ A cap, x.2.u = .slice A x.1.vals.length cap := by
  obtain ⟨_, A, cap, hv, _⟩ := hp.2.2.1
  exact ⟨A, cap, hv⟩
theorem below_a {w W : World} (h : Below w.heap.size w W) (o : Obj) : Below w.heap.size w (W.alloc o) := h.alloc h.size o
theorem pd_cells {w : World} {g : Nat} {x : PD × PdPart} (hB : Blk w g 41 (pdC x).toArray) : w.cell? ⟨g, 0, none⟩ = some (.int .i64 x.1.op) ∧ w.cell? ⟨g, 1, none⟩ = some (.bool x.1.now) ∧ w.cell? ⟨g, 2, none⟩ = some (.int .i64 x.1.fl) ∧ w.cell? ⟨g, 3, none⟩ = some x.2.u ∧ w.cell? ⟨g, 4, none⟩ = some x.2.a ∧ w.cell? ⟨g, 5, none⟩ = some (.string x.1.data) :=
  ⟨hB.cell 0, hB.cell 1, hB.cell 2, hB.cell 3, hB.cell 4, hB.cell 5⟩
theorem lit_row {W0 W : World} {i n : Nat} {e : TypeId} {cs : Array Value} {xs : List Value} (hb : Below W0.heap.size W0 W) (hi : i = W.heap.size) (hx : cs.toList = xs := by rfl) (hn : xs.length = n * 1 := by rfl) (hm : n ≤ maxLen := by decide) : MRow (W.alloc (.cells cs e)) W0.heap.size e 1 (.slice (some ⟨i, 0, none⟩) n n) n xs := by
  subst hi
  exact MRow.lit (Blk.new W e cs) hb.size hx hn hm
theorem ap_form6 {w : World} {base : Nat} {S : List Nat} {a : AP} {hv : Value} (h : ApAt w base S a hv) (hl : a.vals.length = 6) : ∃ A cap, hv = .slice A 6 cap := by
  obtain ⟨_, A, cap, hv, _⟩ := h.1
  rw [hl] at hv
  exact ⟨A, cap, hv⟩
theorem szA (W : World) (o : Obj) : (W.alloc o).heap.size = W.heap.size + 1 := by simp
theorem row_on {w w' : World} {base n size : Nat} {e : TypeId} {v : Value} {xs : List Value} (h : MRow w base e size v n xs) (hb : Below w.heap.size w w') : MRow w' base e size v n xs := h.below hb (Nat.le_refl _)
set_option maxRecDepth 20000 in
set_option maxHeartbeats 8000000 in
theorem fnop_any {w0 w : World} {f gn gt : Nat} {Sn : List Nat} {tv pv uv ov pc : Value} {X : FP} (h : FullX w0 w f gn gt Sn tv pv uv ov pc X) (V : Env w0) (x : PD × PdPart) (hp : PdOk w x) (hfar : PdFar (fS f gt Sn) x) (hop : x.1.op = 0) (hright : rightR x.1.op x.1.now x.1.fl x.1.vals = none) :
    Calls Tryz.prog 50 #[.pointer (some ⟨f, 0, none⟩), pdV x] w fun e w' => DidX w0 w (fS f gt Sn) f (if fN x.1.vals 1 = noneN then ([], X) else ([nopA X x.1], X.up)) e w' := by
  obtain ⟨a, b, c, d, e0, hvals, hb32, _, _, _⟩ := vals0 (hop ▸ hright)
  obtain ⟨g, hg⟩ : ∃ g, w.heap.size = g := ⟨_, rfl⟩
  have hvL : valGo r0.2.2.2 x.1.vals nLUN.data.toList = .inr a := by rw [hvals]; exact val0.1
  have hvI : valGo r0.2.2.2 x.1.vals nITT.data.toList = .inr b := by rw [hvals]; exact val0.2.1
  have hf0 : fN x.1.vals 0 = a := by rw [hvals]; rfl
  have hf1 : fN x.1.vals 1 = b := by rw [hvals]; rfl
  have ha64 : a < 18446744073709551616 := hp.2.2.2.1 a (by rw [hvals]; simp)
  have hrow : headRow x.1.op = some r0 := by rw [hop]; exact row0
  have hb0 : Below w.heap.size w (w.alloc (.cells (pdC x).toArray 41)) := (Below.refl _ _).alloc (Nat.le_refl _) _
  have hB0 : Blk (w.alloc (.cells (pdC x).toArray 41)) g 41 (pdC x).toArray := by rw [← hg]; exact Blk.new w _ _
  have hfg : g ∉ fS f gt Sn := fun hm => by have := (h.lt g hm).1; omega
  obtain ⟨W0, hW0⟩ : ∃ W : World, w.alloc (.cells (pdC x).toArray 41) = W := ⟨_, rfl⟩
  rw [hW0] at hb0 hB0
  have hX0 := h.on hb0
  have hp0 := hp.on hb0
  have hds : x.1.data.size ≤ 140737488351232 := hp.2.2.2.2.2.2.2
  have hmk := make32 (a := a) (b := b) (s := X.stat) (k := X.cmd) (m := aft X.cmd 31) hb32 h.ok.st h.ok.cm (aft_lt _ _)
  have V0 := V.on hX0.b
  have hvalL := fun (W : World) (hb : Below W0.heap.size W0 W) => (fval_any x r0 nLUN a hrow hvL W (hp0.on hb) (V0.on hb).T (V0.on hb).S).mono fun e w' h => (⟨h.1, below_step hb h.2, h.2⟩ : e = .returned (.int .u64 a) ∧ Below W0.heap.size W0 w' ∧ Below W.heap.size W w')
  have hvalI := fun (W : World) (hb : Below W0.heap.size W0 W) => (fval_any x r0 nITT b hrow hvI W (hp0.on hb) (V0.on hb).T (V0.on hb).S).mono fun e w' h => (⟨h.1, below_step hb h.2, h.2⟩ : e = .returned (.int .u64 b) ∧ Below W0.heap.size W0 w' ∧ Below W.heap.size W w')
  have hmake := fun (W : World) (A B : Value) (hb : Below W0.heap.size W0 W) (hA : MRow W W0.heap.size 9 1 A 3 ([nLUN, nITT, nTTT].map .string)) (hB : MRow W W0.heap.size 49 1 B 3 ([a, b, noneN].map u64V)) => fmake_any hX0 hb V 32 128 (by decide) (by decide) (x.1.data.extract 0 (min x.1.data.size (mostN X.rc))) [nLUN, nITT, nTTT] [a, b, noneN] A B _ hA hB (by simp) (by simp) (fun y hy => by
    simp only [List.mem_cons, List.not_mem_nil, or_false] at hy
    rcases hy with rfl | rfl | rfl
    · exact ha64
    · omega
    · decide) hmk
  have hcells := fun (W : World) (hb : Below W0.heap.size W0 W) => pd_cells (hB0.below hb hB0.lt)
  obtain ⟨M, hM⟩ : ∃ M, mostN X.rc = M := ⟨_, rfl⟩
  have hmost := fun (W : World) (hb : Below W0.heap.size W0 W) => fmost_any (hX0.on hb) V
  rw [hM] at hmost hmake
  have hMr := mostN_rng X.rc
  rw [hM] at hMr
  obtain ⟨A, cap, hu⟩ := pd_form hp
  have hnA : nopA X x.1 = ⟨32, 128, [a, b, noneN, X.stat, X.cmd, aft X.cmd 31], x.1.data.extract 0 (min x.1.data.size M)⟩ := by unfold nopA; rw [hf0, hf1, hM]
  rw [hnA, hf1]
  obtain ⟨Y, hY⟩ : ∃ Y : List AP × FP, (if b = noneN then ([], X) else ([(⟨32, 128, [a, b, noneN, X.stat, X.cmd, aft X.cmd 31], x.1.data.extract 0 (min x.1.data.size M)⟩ : AP)], X.up)) = Y := ⟨_, rfl⟩
  rw [hY]
  have HY := Lib.hid hY
  clear hY
  have HX := Lib.hid hX0
  have HMK := Lib.hid hmake
  have HVL := Lib.hid hvalL
  have HVI := Lib.hid hvalI
  have HMO := Lib.hid hmost
  have HC := Lib.hid hcells
  have HW := Lib.hid hb0
  have HB := Lib.hid hB0
  clear hfar hright hvals hvL hvI hf0 hf1 hrow hmk hmake hvalL hvalI hcells hmost hM hnA hX0 hp0 hB0 hp h
  obtain ⟨c0, c1, c2, c3, c4, c5⟩ := HC.out W0 (Below.refl _ _)
  obtain ⟨⟨op, now, fl, vals, al, data⟩, ⟨u, av⟩⟩ := x
  simp only at hu hop hds c0 c1 c2 c3 c4 c5
  subst hu
  subst hop
  go_enter Tryz.func50, Tryz.ntmps50
  go_upto_region 1 with (fail)
  try refine wp_worldN hW0 ?_
  try rw [hg]
  go_wp2_with fail
  refine (HVI.out W0 (Below.refl _ _)).mono ?_
  rintro e w1 ⟨rfl, hb1, _⟩
  by_cases hbn : b = noneN
  · have hY := HY.out
    rw [if_pos hbn] at hY
    subst hY
    have hbn' : b = 4294967295 := hbn
    subst hbn'
    go_wp2_with fail
    go_ret
    have hbw := below_step HW.out hb1
    exact ⟨_, rfl, _, (HX.out.on hb1).i, NF.of_below hbw, fun k hk => .inl hk, rfl⟩
  · have hY := HY.out
    rw [if_neg hbn] at hY
    subst hY
    have hbn' : b ≠ 4294967295 := hbn
    have hW1 := Lib.hid hb1
    obtain ⟨d0, d1, d2, d3, d4, d5⟩ := HC.out w1 hb1
    clear c0 c1 c2 c3 c4 c5 hb1
    have q5 : ∀ i : BW w1, i.v.cell? ⟨g, 5, none⟩ = some (.string data) := fun i => (HC.out i.v (below_step hW1.out i.h)).2.2.2.2.2
    go_upto_region 3 with (fail)
    refine wp_region_quietB (by kernel_rfl) (by kernel_rfl) ?_
    repeat (first | go_big_quiet_skip | (go_big_quiet_want; go_big_quiet_op; first | go_big_quiet_on | (apply Exists.intro; refine ⟨fun _ => ?_, ?_⟩; ((go_at_call 80; with_reducible exact calls_bw (HMO.out _ (below_step hW1.out (BW.h _))))); go_big_quiet_on)))
    refine wpQuiet_nil ?_
    rintro _ ⟨iq, rfl⟩
    have hbW2 : Below W0.heap.size W0 iq.v := below_step hW1.out iq.h
    have hmn : (min (data.size : Int) (M : Int)).toNat = min data.size M := by omega
    rw [hmn]
    obtain ⟨w2, hw2⟩ : ∃ w2, iq.v = w2 := ⟨_, rfl⟩
    rw [hw2] at hbW2 ⊢
    obtain ⟨k0, k1, k2, k3, k4, k5⟩ := HC.out w2 hbW2
    have HVL2 := Lib.hid (show ∀ (W : World), Below W0.heap.size W0 W → Calls Tryz.prog 54 #[.agg #[.int .i64 0, .bool now, .int .i64 fl, .slice A vals.length cap, av, .string data], .string ⟨#[76, 85, 78]⟩] W fun e w' => e = .returned (.int .u64 a) ∧ Below W0.heap.size W0 w' ∧ Below W.heap.size W w' from HVL.out)
    have HVI2 := Lib.hid (show ∀ (W : World), Below W0.heap.size W0 W → Calls Tryz.prog 54 #[.agg #[.int .i64 0, .bool now, .int .i64 fl, .slice A vals.length cap, av, .string data], .string ⟨#[73, 84, 84]⟩] W fun e w' => e = .returned (.int .u64 b) ∧ Below W0.heap.size W0 w' ∧ Below W.heap.size W w' from HVI.out)
    have HMK2 := Lib.hid (show ∀ (W : World) (A B : Value), Below W0.heap.size W0 W → MRow W W0.heap.size 9 1 A 3 ([nLUN, nITT, nTTT].map .string) → MRow W W0.heap.size 49 1 B 3 ([a, b, noneN].map u64V) → Calls Tryz.prog 81 #[.pointer (some ⟨f, 0, none⟩), .int .i64 32, .int .i64 128, .string (data.extract 0 (min data.size M)), A, B] W fun e w' => MadeA w0 W0 f gn gt Sn tv pv uv ov pc X ⟨32, 128, [a, b, noneN, X.stat, X.cmd, aft X.cmd 31], data.extract 0 (min data.size M)⟩ e w' from HMK.out)
    have hk4 : ∀ W4, NF (fS f gt Sn) W0 W4 → W4.cell? ⟨g, 0, none⟩ = some (.int .i64 0) ∧ W4.cell? ⟨g, 1, none⟩ = some (.bool now) ∧ W4.cell? ⟨g, 2, none⟩ = some (.int .i64 fl) ∧ W4.cell? ⟨g, 3, none⟩ = some (.slice A vals.length cap) ∧ W4.cell? ⟨g, 4, none⟩ = some av ∧ W4.cell? ⟨g, 5, none⟩ = some (.string data) := fun W4 hN => pd_cells ((hN.block g HB.out.lt hfg).trans HB.out)
    have HK4 := Lib.hid hk4
    clear HVL HVI HMK HMO hk4
    clear d0 d1 d2 d3 d4 d5 q5 hw2
    have hfin : ∀ (W3 : World) (hv : Value), ApAt W3 W0.heap.size (fS f gt Sn) ⟨32, 128, [a, b, noneN, X.stat, X.cmd, aft X.cmd 31], data.extract 0 (min data.size M)⟩ hv → FullX w0 W3 f gn gt Sn tv pv uv ov pc X.up → NF (fS f gt Sn) W0 W3 → Hid (TookX w0 w (fS f gt Sn) f X.up [(⟨32, 128, [a, b, noneN, X.stat, X.cmd, aft X.cmd 31], data.extract 0 (min data.size M)⟩ : AP)] (.slice (some ⟨W3.heap.size, 0, none⟩) 1 1) (W3.alloc (.cells (apC ⟨32, 128, [a, b, noneN, X.stat, X.cmd, aft X.cmd 31], data.extract 0 (min data.size M)⟩ hv) 41))) :=
      fun W3 hv hA hX hN => Lib.hid (took_one hX ⟨hA.1, fun k hk => ⟨Nat.le_trans HW.out.size (hA.2 k hk).1, (hA.2 k hk).2⟩⟩ ((NF.of_below HW.out).trans hN (fun x hx => .inl hx)))
    have HFIN := Lib.hid hfin
    clear hfin
    go_upto_region 4 with (fail)
    go_region_held3 (fun w' => w'.cell? ⟨g, 0, none⟩ = some (.int .i64 0) ∧ w'.cell? ⟨g, 1, none⟩ = some (.bool now) ∧ w'.cell? ⟨g, 2, none⟩ = some (.int .i64 fl) ∧ w'.cell? ⟨g, 3, none⟩ = some (.slice A vals.length cap) ∧ w'.cell? ⟨g, 4, none⟩ = some av ∧ w'.cell? ⟨g, 5, none⟩ = some (.string data)) (first | go_keep | exact ⟨k0, k1, k2, k3, k4, k5⟩ | exact kk) ((first
      | (go_at_call 54; (with_reducible refine (HVL2.out _ ?hb).mono ?_); (case hb => (repeat (first | with_reducible assumption | refine below_a ?_ _ | refine Below.drew ?_ | refine below_drewN ?_ _))); rintro e W2 ⟨rfl, hbz, hbc⟩; have kk := HC.out W2 hbz)
      | (go_at_call 54; (with_reducible refine (HVI2.out _ ?hb).mono ?_); (case hb => (repeat (first | with_reducible assumption | refine below_a ?_ _ | refine Below.drew ?_ | refine below_drewN ?_ _))); rintro e W3 ⟨rfl, hbz2, hbc2⟩; have kk := HC.out W3 hbz2) | (go_at_call 81; (with_reducible refine (HMK2.out _ _ _ ?hb ?hA ?hB).mono ?_); (case hb => (repeat (first | with_reducible assumption | (with_reducible refine below_a ?_ _) | (with_reducible refine Below.drew ?_) | (with_reducible refine below_drewN ?_ _)))); (case hA => (repeat (first | (with_reducible refine MRow.drew ?_) | (with_reducible refine MRow.drewN ?_ _) | (with_reducible refine lit_row ?_ ?_ ?_ ?_ ?_) | (with_reducible refine MRow.alloc ?_ _) | (with_reducible refine row_on ?_ (by with_reducible assumption)) | with_reducible assumption | (with_reducible refine below_a ?_ _) | (with_reducible refine Below.drew ?_) | (with_reducible refine below_drewN ?_ _) | (with_reducible rfl) | (exact rfl) | (exact (szA _ _).symm) | decide))); (case hB => (repeat (first | (with_reducible refine MRow.drew ?_) | (with_reducible refine MRow.drewN ?_ _) | (with_reducible refine lit_row ?_ ?_ ?_ ?_ ?_) | (with_reducible refine MRow.alloc ?_ _) | (with_reducible refine row_on ?_ (by with_reducible assumption)) | with_reducible assumption | (with_reducible refine below_a ?_ _) | (with_reducible refine Below.drew ?_) | (with_reducible refine below_drewN ?_ _) | (with_reducible rfl) | (exact rfl) | (exact (szA _ _).symm) | decide))); rintro e W4 ⟨hv4, he4, hA4, hX4, hN4⟩; obtain ⟨A4, cap4, rfl⟩ := ap_form6 hA4 rfl; have he5 : e = .returned (.agg #[.int .i64 32, .bool false, .int .i64 128, .slice A4 6 cap4, .slice none 0 0, .string (data.extract 0 (min data.size M))]) := he4; subst he5; have kk := HK4.out W4 hN4)))
    all_goals (go_wp2_with fail)
    all_goals go_ret
    all_goals (exact ⟨_, rfl, (HFIN.out W4 _ hA4 hX4 hN4).out⟩)
end Go.Proofs.YtamlepacljjpiaaGreatDoor

/- The contracts of full's out and piece. -/
namespace Go.Proofs.YtamlepacljjpiaaGreatDoor
open Go.ChangeShapes Go.WideShapes Go.ChangeAt Go.RowKit Go.Shelf
set_option linter.unusedVariables false
set_option linter.unusedSimpArgs false
theorem shut_ok {X : FP} (h : X.Ok) : ({ X with closed := true } : FP).Ok := ⟨h.cs, h.cr, h.st, h.cm, h.tx, h.nw, h.rc, h.nm, h.pz⟩
set_option maxRecDepth 20000 in
set_option maxHeartbeats 4000000 in
theorem fout_any {w0 w : World} {f gn gt : Nat} {Sn : List Nat} {tv pv uv ov pc : Value} {X : FP} (h : FullX w0 w f gn gt Sn tv pv uv ov pc X) (V : Env w0) (x : PD × PdPart) (hp : PdOk w x) (hfar : PdFar (fS f gt Sn) x) (hop : x.1.op = 6) (hright : rightR x.1.op x.1.now x.1.fl x.1.vals = none) :
    Calls Tryz.prog 52 #[.pointer (some ⟨f, 0, none⟩), pdV x] w fun e w' => DidX w0 w (fS f gt Sn) f ([outA X x.1], { X.up with closed := true }) e w' := by
  obtain ⟨a, b, d, e0, hvals, ha, _, _, _⟩ := vals6 (hop ▸ hright)
  obtain ⟨g, hg⟩ : ∃ g, w.heap.size = g := ⟨_, rfl⟩
  have hv6 : valGo r6.2.2.2 x.1.vals nITT.data.toList = .inr a := by rw [hvals]; exact val6.1
  have hfn : fN x.1.vals 0 = a := by rw [hvals]; rfl
  have hrow : headRow x.1.op = some r6 := by rw [hop]; exact row6
  have hb0 : Below w.heap.size w (w.alloc (.cells (pdC x).toArray 41)) := (Below.refl _ _).alloc (Nat.le_refl _) _
  have hB0 : Blk (w.alloc (.cells (pdC x).toArray 41)) g 41 (pdC x).toArray := by rw [← hg]; exact Blk.new w _ _
  obtain ⟨W1, hW1⟩ : ∃ W : World, w.alloc (.cells (pdC x).toArray 41) = W := ⟨_, rfl⟩
  rw [hW1] at hb0 hB0
  have h1 := h.on hb0
  have hfg : f ≠ g := by have := h.fb.lt; omega
  have h2 := h1.put 14 (.bool true) (pc' := pc) (X' := { X with closed := true }) rfl rfl rfl rfl rfl h1.ps h1.pk (shut_ok h1.ok) h1.pt
  have hB2 := hB0.far (p := ⟨f, 14, none⟩) (fun e => hfg e.symm) (.bool true)
  have hnf2 : NF (fS f gt Sn) W1 (W1.setCell ⟨f, 14, none⟩ (.bool true)) := (NF.refl _ _).put (.inl (by simp [fS])) 14 _
  have hp2 := (hp.on hb0).nf hnf2 hfar
  have hnf0 : NF (fS f gt Sn) w (W1.setCell ⟨f, 14, none⟩ (.bool true)) := (NF.of_below hb0).trans hnf2 (fun x hx => .inl hx)
  obtain ⟨W2, hW2⟩ : ∃ W2 : World, W1.setCell ⟨f, 14, none⟩ (.bool true) = W2 := ⟨_, rfl⟩
  rw [hW2] at h2 hB2 hp2 hnf0
  have cf : W1.cell? ⟨f, 14, none⟩ = some (.bool X.closed) := h1.fb.cell 14
  have ff : W1.frozen? ⟨f, 14, none⟩ = false := h1.fb.frozen 14
  have V2 := V.on h2.b
  have hval := fun (W : World) (hb : Below W2.heap.size W2 W) => (fval_any x r6 nITT a hrow hv6 W (hp2.on hb) (V2.on hb).T (V2.on hb).S).mono fun e w' h => (⟨h.1, below_step hb h.2, h.2⟩ : e = .returned (.int .u64 a) ∧ Below W2.heap.size W2 w' ∧ Below W.heap.size W w')
  have hmk := make38 (b := a) (s := X.stat) (k := X.cmd) (m := aft X.cmd 31) ha h.ok.st h.ok.cm (aft_lt _ _)
  have hmake := fun (W : World) (A B : Value) (hb : Below W2.heap.size W2 W) (hA : MRow W W2.heap.size 9 1 A 1 ([nITT].map .string)) (hB : MRow W W2.heap.size 49 1 B 1 ([a].map u64V)) => fmake_any h2 hb V 38 128 (by decide) (by decide) ⟨#[]⟩ [nITT] [a] A B _ hA hB (by simp) (by simp) (fun y hy => by
    simp only [List.mem_cons, List.not_mem_nil, or_false] at hy
    subst hy
    omega) hmk
  have houtA : outA X x.1 = ⟨38, 128, [0, a, X.stat, X.cmd, aft X.cmd 31, 0, 0], ⟨#[]⟩⟩ := by unfold outA; rw [hfn]
  rw [houtA]
  obtain ⟨A, cap, hu⟩ := pd_form hp
  obtain ⟨⟨op, now, fl, vals, al, data⟩, ⟨u, av⟩⟩ := x
  simp only at hu hop
  subst hu
  subst hop
  have hb3 : Below W2.heap.size W2 (W2.alloc (.cells #[.string ⟨#[73, 84, 84]⟩] 9)) := (Below.refl _ _).alloc (Nat.le_refl _) _
  obtain ⟨c0, c1, c2, c3, c4, c5⟩ := pd_cells (hB2.below hb3 hB2.lt)
  simp only at c0 c1 c2 c3 c4 c5
  have hz2 : w.heap.size ≤ W2.heap.size := hnf0.size
  have HNF := Lib.hid hnf0
  have HB2 := Lib.hid hB2
  have HVI2 := Lib.hid (show ∀ (W : World), Below W2.heap.size W2 W → Calls Tryz.prog 54 #[.agg #[.int .i64 6, .bool now, .int .i64 fl, .slice A vals.length cap, av, .string data], .string ⟨#[73, 84, 84]⟩] W fun e w' => e = .returned (.int .u64 a) ∧ Below W2.heap.size W2 w' ∧ Below W.heap.size W w' from hval)
  have HMK2 := Lib.hid (show ∀ (W : World) (A B : Value), Below W2.heap.size W2 W → MRow W W2.heap.size 9 1 A 1 ([nITT].map .string) → MRow W W2.heap.size 49 1 B 1 ([a].map u64V) → Calls Tryz.prog 81 #[.pointer (some ⟨f, 0, none⟩), .int .i64 38, .int .i64 128, .string ⟨#[]⟩, A, B] W fun e w' => MadeA w0 W2 f gn gt Sn tv pv uv ov pc { X with closed := true } ⟨38, 128, [0, a, X.stat, X.cmd, aft X.cmd 31, 0, 0], ⟨#[]⟩⟩ e w' from hmake)
  clear hval hmake hmk hp2 hp hfar hright hvals hv6 hrow h h1 h2 hB0 hnf2 hfn hb0 hnf0 houtA hB2
  go_enter Tryz.func52, Tryz.ntmps52
  go_upto_region 1 with (fail)
  try refine wp_worldN hW1 ?_
  try rw [hg]
  go_upto_region 2 with (fail)
  try refine wp_worldN hW2 ?_
  go_wp2_with fail
  refine (HVI2.out _ ((Below.refl _ _).alloc (Nat.le_refl _) _)).mono ?_
  rintro e w3 ⟨rfl, hbz, hbc⟩
  obtain ⟨d0, d1, d2, d3, d4, d5⟩ := pd_cells (HB2.out.below hbz HB2.out.lt)
  clear c0 c1 c2 c3 c4 c5
  go_wp2_with fail
  refine (HMK2.out _ _ _ (below_a hbz _) (MRow.alloc (row_on (lit_row (Below.refl _ _) rfl) hbc) _) (lit_row hbz rfl)).mono ?_
  rintro e w4 ⟨hv4, he4, hA4, hX4, hN4⟩
  obtain ⟨A4, cap4, rfl⟩ : ∃ A cap, hv4 = .slice A 7 cap := by obtain ⟨_, A, cap, hv, _⟩ := hA4.1; exact ⟨A, cap, hv⟩
  have he5 : e = .returned (.agg #[.int .i64 38, .bool false, .int .i64 128, .slice A4 7 cap4, .slice none 0 0, .string ⟨#[]⟩]) := he4
  subst he5
  go_wp2_with fail
  go_ret
  exact ⟨_, rfl, took_one hX4 ⟨hA4.1, fun k hk => ⟨Nat.le_trans hz2 (hA4.2 k hk).1, (hA4.2 k hk).2⟩⟩ (HNF.out.trans hN4 (fun x hx => .inl hx))⟩
end Go.Proofs.YtamlepacljjpiaaGreatDoor

/- The contract of full.Take. -/
namespace Go.Proofs.YtamlepacljjpiaaGreatDoor
open Go.ChangeShapes Go.WideShapes Go.ChangeAt Go.RowKit Go.Shelf
set_option linter.unusedVariables false
set_option linter.unusedSimpArgs false
def AskC (w0 : World) (S : List Nat) (f : Nat) (X : FP) (x : PD × PdPart) : Prop := ∀ W X', (X' = X ∨ X' = { X with cmd := aft X.cmd 1 }) → FullI w0 W S f X' → PdOk W x →
  Calls Tryz.prog 51 #[.pointer (some ⟨f, 0, none⟩), pdV x] W fun e w' => DidX w0 W S f ([(askP X' x.1 (headS x.1)).1], (askP X' x.1 (headS x.1)).2) e w'
theorem known_cases {op : Int} (h : known op = true) : op = 0 ∨ op = 4 ∨ op = 6 := by
  unfold known at h
  simpa using h
/- what comes behind the look-up, of a number, by the function found -/
def DoC (w0 : World) (k : Nat) (S : List Nat) (f : Nat) (X : FP) (x : PD × PdPart) : Prop := ∀ W X', (X' = X ∨ X' = { X with cmd := aft X.cmd 1 }) → FullI w0 W S f X' → PdOk W x →
  Calls Tryz.prog k #[.pointer (some ⟨f, 0, none⟩), pdV x] W fun e w' => DidX w0 W S f (doP X' x.1 (headS x.1)) e w'
theorem bump_ok {X : FP} (h : X.Ok) : ({ X with cmd := aft X.cmd 1 } : FP).Ok := ⟨h.cs, h.cr, h.st, aft_lt _ _, h.tx, h.nw, h.rc, h.nm, h.pz⟩
theorem nop_do {w0 : World} {S : List Nat} {f : Nat} {X : FP} {x : PD × PdPart} (V : Env w0) (hfar : PdFar S x) (hop : x.1.op = 0) (hright : rightR x.1.op x.1.now x.1.fl x.1.vals = none) : DoC w0 50 S f X x := by
  rintro W X' _ ⟨gn, gt, Sn, tv, pv, uv, ov, pc, hX, rfl⟩ hp
  unfold doP
  rw [if_pos hop]
  exact fnop_any hX V x hp hfar hop hright
theorem out_do {w0 : World} {S : List Nat} {f : Nat} {X : FP} {x : PD × PdPart} (V : Env w0) (hfar : PdFar S x) (hop : x.1.op = 6) (hright : rightR x.1.op x.1.now x.1.fl x.1.vals = none) : DoC w0 52 S f X x := by
  rintro W X' _ ⟨gn, gt, Sn, tv, pv, uv, ov, pc, hX, rfl⟩ hp
  unfold doP
  rw [if_neg (by omega), if_pos hop]
  exact fout_any hX V x hp hfar hop hright
theorem ask_do {w0 : World} {S : List Nat} {f : Nat} {X : FP} {x : PD × PdPart} (hask : AskC w0 S f X x) (hop : x.1.op = 4) : DoC w0 51 S f X x := by
  intro W X' hX' hX hp
  unfold doP
  rw [if_neg (by omega), if_neg (by omega)]
  exact hask W X' hX' hX hp
/- of which number a command is -/
theorem cmd_val {p : PD} (hk : known p.op = true) (hright : rightR p.op p.now p.fl p.vals = none) : ∃ r, headRow p.op = some r ∧ valGo r.2.2.2 p.vals nCmd.data.toList = .inr (cmdN p) ∧ cmdN p < 4294967296 := by
  rcases known_cases hk with h | h | h
  · obtain ⟨a, b, c, d, e, hv, _, _, hd, _⟩ := vals0 (h ▸ hright)
    have hc : cmdN p = d := by unfold cmdN; rw [if_neg (by omega), hv]; rfl
    exact ⟨r0, by rw [h]; exact row0, by rw [hv, hc]; exact val0.2.2.2, by rw [hc]; exact hd⟩
  · obtain ⟨a, b, c, d, e, hv, _, _, hd, _⟩ := vals4 (h ▸ hright)
    have hc : cmdN p = d := by unfold cmdN; rw [if_neg (by omega), hv]; rfl
    exact ⟨r4, by rw [h]; exact row4, by rw [hv, hc]; exact val4.2.2.2, by rw [hc]; exact hd⟩
  · obtain ⟨a, b, d, e, hv, _, _, hd, _⟩ := vals6 (h ▸ hright)
    have hc : cmdN p = d := by unfold cmdN; rw [if_pos h, hv]; rfl
    exact ⟨r6, by rw [h]; exact row6, by rw [hv, hc]; exact val6.2, by rw [hc]; exact hd⟩
theorem itt_val {p : PD} (hop : p.op = 0) (hright : rightR p.op p.now p.fl p.vals = none) : valGo r0.2.2.2 p.vals nITT.data.toList = .inr (fN p.vals 1) ∧ fN p.vals 1 < 4294967296 := by
  obtain ⟨a, b, c, d, e, hv, hb, _, _, _⟩ := vals0 (hop ▸ hright)
  rw [hv]
  exact ⟨val0.2.1, hb⟩
theorem row_rng {op : Int} {r : HeadR} (h : headRow op = some r) : 0 ≤ op ∧ op ≤ 1000 := by
  have h1 := headRow_op h
  have h2 := headT_small r (headRow_mem h)
  omega
set_option maxRecDepth 20000 in
set_option maxHeartbeats 16000000 in
theorem ftake_ok {w0 w : World} {S : List Nat} {f : Nat} {X : FP} (hI : FullI w0 w S f X) (V : Env w0) (x : PD × PdPart) (hp : PdOk w x) (hfar : PdFar S x) (hok : wrongP X x.1 = none) (hask : x.1.op = 4 → AskC w0 S f X x) :
    Calls Tryz.prog 15 #[.pointer (some ⟨f, 0, none⟩), pdV x] w fun e w' => ∃ v, e = .returned (.tuple #[v, .nilIface]) ∧ TookX w0 w S f (stepP X x.1 (headS x.1)).2 (stepP X x.1 (headS x.1)).1 v w' := by
  obtain ⟨gn, gt, Sn, tv, pv, uv, ov, pc, h, rfl⟩ := hI
  obtain ⟨hcl, hright, hsz⟩ := wrong_none hok
  obtain ⟨g, hg⟩ : ∃ g, w.heap.size = g := ⟨_, rfl⟩
  have hb0 : Below w.heap.size w (w.alloc (.cells (pdC x).toArray 41)) := (Below.refl _ _).alloc (Nat.le_refl _) _
  have hB0 : Blk (w.alloc (.cells (pdC x).toArray 41)) g 41 (pdC x).toArray := by rw [← hg]; exact Blk.new w _ _
  have hfg : g ∉ fS f gt Sn := fun hm => by have := (h.lt g hm).1; omega
  have hgf : g ≠ f := fun e => hfg (by rw [e]; simp [fS])
  obtain ⟨W0, hW0⟩ : ∃ W : World, w.alloc (.cells (pdC x).toArray 41) = W := ⟨_, rfl⟩
  rw [hW0] at hb0 hB0
  have hX0 := h.on hb0
  have hp0 := hp.on hb0
  have V0 := V.on hX0.b
  have hcells := fun (W : World) (hb : Below W0.heap.size W0 W) => pd_cells (hB0.below hb hB0.lt)
  have hpR : pduR x.1.op x.1.now x.1.fl x.1.vals x.1.al x.1.data.size = none := by
    unfold wrongP at hok
    rw [if_neg (by simp [hcl])] at hok
    exact hok
  have hpr := pduRight_any x.1.op x.1.now x.1.fl x.1.vals x.2.u x.1.al x.2.a x.1.data W0 hp0.1 hp0.2.1 hp0.2.2.1 hp0.2.2.2.1 hp0.2.2.2.2.1 hp0.2.2.2.2.2.2.1 hp0.2.2.2.2.2.2.2 V0.L V0.T V0.S
  rw [hpR] at hpr
  have hpr := hpr.mono fun e w' h => (⟨h.1, h.2⟩ : e = .returned .nilIface ∧ Below W0.heap.size W0 w')
  obtain ⟨r, hrow⟩ := right_row hright
  have hrng := row_rng hrow
  have hfl : x.1.fl ≤ 9223372036854775807 := hp.2.1.2
  obtain ⟨H, hH⟩ : ∃ H, headS x.1 = H := ⟨_, rfl⟩
  have href := fun (W : World) (hb : Below W0.heap.size W0 W) (k : Nat) (hk : k < 256) => frefuse_any (hX0.on hb) V x (hp0.on hb) hright hsz k hk
  rw [hH] at href
  have HREF := Lib.hid href
  have HPR := Lib.hid hpr
  have HC := Lib.hid hcells
  have HX := Lib.hid hX0
  have HP := Lib.hid hp0
  have HB := Lib.hid hb0
  have HBK := Lib.hid hB0
  have HFAR := Lib.hid hfar
  have hcf : W0.cell? ⟨f, 14, none⟩ = some (.bool false) := by rw [hX0.fb.cell 14, ← hcl]; rfl
  obtain ⟨R, R0, Ra, Rb, Rc, Ia, Ib, Ic⟩ := fread_ex 50 51 52 (.pointer (some ⟨f, 0, none⟩)) (by decide) (by decide) (by decide)
  have hmm := @run_makeMap Tryz.prog
  have ui : (Tryz.prog).underlying 3 = some (.int .i64) := by kernel_rfl
  have um : (Tryz.prog).underlying 100 = some (.map 3 99) := by kernel_rfl
  have hmf : ∀ fn first cap w, (Instr.makeFunc fn first cap).run Tryz.prog w = .ok (.func fn first cap) w := fun _ _ _ _ => rfl
  have hkC : known x.1.op = true → ∃ r, headRow x.1.op = some r ∧ valGo r.2.2.2 x.1.vals nCmd.data.toList = .inr (cmdN x.1) ∧ cmdN x.1 < 4294967296 := fun hk => cmd_val hk hright
  have hdo : known x.1.op = true → ∃ k, (k = 50 ∧ x.1.op = 0 ∨ k = 51 ∧ x.1.op = 4 ∨ k = 52 ∧ x.1.op = 6) ∧ DoC w0 k (fS f gt Sn) f X x := by
    intro hk
    rcases known_cases hk with h | h | h
    · exact ⟨_, .inl ⟨rfl, h⟩, nop_do V hfar h hright⟩
    · exact ⟨_, .inr (.inl ⟨rfl, h⟩), ask_do (hask h) h⟩
    · exact ⟨_, .inr (.inr ⟨rfl, h⟩), out_do V hfar h hright⟩
  have hst := h.ok.cm
  obtain ⟨A, cap, hu⟩ := pd_form hp
  have HRIGHT := Lib.hid hright
  have HKC := Lib.hid hkC
  have HDO := Lib.hid hdo
  have HROW := Lib.hid hrow
  have V0' := Lib.hid V0
  clear hok hask h hfar hp hpr hpR href hcells hX0 hB0 hkC hdo V0 hrow hright
  obtain ⟨⟨op, now, fl, vals, al, data⟩, ⟨u, av⟩⟩ := x
  simp only at hu hrng
  subst hu
  obtain ⟨c0, c1, c2, c3, c4, c5⟩ := HC.out W0 (Below.refl _ _)
  simp only at c0 c1 c2 c3 c4 c5
  unfold pdV
  simp only
  go_enter Tryz.func15, Tryz.ntmps15
  go_upto_region 1 with (fail)
  try refine wp_worldN hW0 ?_
  try rw [hg]
  go_wp2_with fail
  refine HPR.out.mono ?_
  rintro e w1 ⟨rfl, hb1⟩
  have o0 := World.ownsMap_made (H := Unit) w1 Tryz.prog 3 R
  obtain ⟨m, hm⟩ : ∃ m, w1.heap.size = m := ⟨_, rfl⟩
  rw [hm] at o0
  have hbm : Below w1.heap.size w1 (w1.alloc (.map #[] 0)) := (Below.refl _ _).alloc (Nat.le_refl _) _
  have ikey := fun (x : Int) (h0 : 0 ≤ x) (h1 : x ≤ 1000) => key_int (P := Tryz.prog) ui x h0 h1
  obtain ⟨Wa, ra, oa, ga⟩ := o0.update (Maps.int_keyed ui) um (by unfold maxLen; omega) (ikey 0 (by omega) (by omega)) Ra
  obtain ⟨Wb, rb, ob, gb⟩ := oa.update (Maps.int_keyed ui) um (by unfold maxLen; omega) (ikey 4 (by omega) (by omega)) Rb
  obtain ⟨Wc, rc, oc, gc⟩ := ob.update (Maps.int_keyed ui) um (by unfold maxLen; omega) (ikey 6 (by omega) (by omega)) Rc
  have hbc : Below w1.heap.size w1 Wc := by
    have hr : ∀ k, some m = some k → w1.heap.size ≤ k := fun k hk => by injection hk with hk; omega
    have z0 := hbm.size
    have b1 := hbm.grown ga z0 hr
    have b2 := b1.grown gb b1.size hr
    exact b2.grown gc b2.size hr
  have oD : Wc.ownsMap Tryz.prog 3 R m 3 doesD := oc
  have hkey := ikey op hrng.1 hrng.2
  have hz : (zeroValue 99).run Tryz.prog Wc = .ok .nilFunc Wc := by go_simp
  have hbW : Below W0.heap.size W0 Wc := below_step hb1 hbc
  obtain ⟨d0, d1, d2, d3, d4, d5⟩ := HC.out Wc hbW
  try simp only at d0 d1 d2 d3 d4 d5
  clear o0 oa ob oc ga gb gc hbm c0 c1 c2 c3 c4 c5
  have hbW' := Lib.hid hbW
  rcases hkn : known op with _ | _
  · have hno : op ≠ 0 ∧ op ≠ 4 ∧ op ≠ 6 := by
      unfold known at hkn
      simpa using hkn
    have hlk := look_miss oD (Maps.int_keyed ui) um hz hkey (does_no hno.1 hno.2.1 hno.2.2)
    clear hbW oD Ia Ib Ic R0 Ra Rb Rc ikey hkey hz
    go_wp2_with fail
    refine (HREF.out Wc hbW'.out 5 (by decide)).mono ?_
    rintro e w5 ⟨v, rfl, hT⟩
    go_wp2_with fail
    go_ret2
    refine ⟨v, rfl, ?_⟩
    have hs : stepP X ⟨op, now, fl, vals, al, data⟩ H = ([rejA X 5 H], X.up) := by unfold stepP; rw [if_pos hkn]
    rw [hH, hs]
    exact hT.back (NF.of_below (below_step HB.out hbW'.out))
  · obtain ⟨k, hk, hDo⟩ := HDO.out hkn
    have hlk : (Instr.lookup 100 (.map (some m)) (.int .i64 op) true).run Tryz.prog Wc = .ok (.tuple #[.func (.func k) #[.pointer (some ⟨f, 0, none⟩)] #[], .bool true]) Wc := by
      rcases hk with ⟨rfl, ho⟩ | ⟨rfl, ho⟩ | ⟨rfl, ho⟩ <;> (have ho : op = _ := ho; subst ho)
      · exact look_hit oD (Maps.int_keyed ui) um hz hkey does_0 Ia
      · exact look_hit oD (Maps.int_keyed ui) um hz hkey does_4 Ib
      · exact look_hit oD (Maps.int_keyed ui) um hz hkey does_6 Ic
    obtain ⟨rr, hrr, hvC, hCl⟩ := HKC.out hkn
    have eg : ∀ args w, (callFunc k args).run Tryz.prog w = .ok (.enter k args) w := by
      rcases hk with ⟨hk1, _⟩ | ⟨hk1, _⟩ | ⟨hk1, _⟩ <;> subst hk1
      · exact enters_of Tryz.func50 (by kernel_rfl) rfl
      · exact enters_of Tryz.func51 (by kernel_rfl) rfl
      · exact enters_of Tryz.func52 (by kernel_rfl) rfl
    have HDo := Lib.hid hDo
    clear hbW oD hDo hk Ia Ib Ic R0 Ra Rb Rc ikey hkey hz
    have hI0 : FullI w0 Wc (fS f gt Sn) f X := (HX.out.on hbW'.out).i
    have hP0 := HP.out.on hbW'.out
    have hS1 : ∀ h, stepP X ⟨op, true, fl, vals, al, data⟩ h = doP X ⟨op, true, fl, vals, al, data⟩ h := fun h => by unfold stepP; rw [if_neg (by simp [hkn]), if_pos rfl]
    have HNFc := Lib.hid (NF.of_below (S := fS f gt Sn) (below_step HB.out hbW'.out))
    have hV := fun (W : World) (hb : Below W0.heap.size W0 W) => fval_any _ rr nCmd _ hrr hvC W (HP.out.on hb) (V0'.out.on hb).T (V0'.out.on hb).S
    obtain ⟨XC, hXC⟩ : ∃ n, X.cmd = n := ⟨_, rfl⟩
    have HXC := Lib.hid hXC
    have hcc := fun (W : World) (hb : Below W0.heap.size W0 W) => (show W.cell? ⟨f, 11, none⟩ = some (.int .u32 XC) by rw [← hXC]; exact (HX.out.on hb).fb.cell 11)
    go_upto_region 10 with (fail)
    clear ra rb rc hlk hmm hmf
    rcases now with _ | _
    rotate_left
    · go_upto_region 15 with (fail)
      go_wp2_with fail
      refine (HDo.out Wc X (.inl rfl) hI0 hP0).mono ?_
      rintro e w5 ⟨v, rfl, hT⟩
      go_wp2_with fail
      go_ret2
      refine ⟨v, rfl, ?_⟩
      rw [hS1]
      exact hT.back HNFc.out
    · obtain ⟨CN, hCN⟩ : ∃ n, cmdN ⟨op, false, fl, vals, al, data⟩ = n := ⟨_, rfl⟩
      rw [hCN] at hV hCl
      have HVC := Lib.hid (show ∀ (W : World), Below W0.heap.size W0 W → Calls Tryz.prog 54 #[.agg #[.int .i64 op, .bool false, .int .i64 fl, .slice A vals.length cap, av, .string data], .string ⟨#[67, 109, 100, 83, 78]⟩] W fun e w' => e = .returned (.int .u64 CN) ∧ Below W.heap.size W w' from hV)
      have HCC := Lib.hid hcc
      have q := fun (i : BW Wc) => HC.out i.v (below_step hbW'.out i.h)
      have q0 : ∀ i : BW Wc, i.v.cell? ⟨g, 0, none⟩ = some (.int .i64 op) := fun i => (q i).1
      have q1 : ∀ i : BW Wc, i.v.cell? ⟨g, 1, none⟩ = some (.bool false) := fun i => (q i).2.1
      have q2 : ∀ i : BW Wc, i.v.cell? ⟨g, 2, none⟩ = some (.int .i64 fl) := fun i => (q i).2.2.1
      have q3 : ∀ i : BW Wc, i.v.cell? ⟨g, 3, none⟩ = some (.slice A vals.length cap) := fun i => (q i).2.2.2.1
      have q4 : ∀ i : BW Wc, i.v.cell? ⟨g, 4, none⟩ = some av := fun i => (q i).2.2.2.2.1
      have q5 : ∀ i : BW Wc, i.v.cell? ⟨g, 5, none⟩ = some (.string data) := fun i => (q i).2.2.2.2.2
      have q6 : ∀ i : BW Wc, i.v.cell? ⟨f, 11, none⟩ = some (.int .u32 XC) := fun i => HCC.out i.v (below_step hbW'.out i.h)
      have e3 : IntKind.u32.wrap (CN : Int) = CN := by rw [IntKind.wrap_u32]; omega
      clear hV hcc q
      go_upto_region 11 with (fail)
      refine wp_region_quietB (by kernel_rfl) (by kernel_rfl) ?_
      repeat (first | go_big_quiet_skip | (go_big_quiet_want; go_big_quiet_op; first | go_big_quiet_on | (apply Exists.intro; refine ⟨fun _ => ?_, ?_⟩; ((go_at_call 54; with_reducible exact calls_bw (HVC.out _ (below_step hbW'.out (BW.h _))))); go_big_quiet_on)))
      refine wpQuiet_nil ?_
      rintro _ ⟨iq, rfl⟩
      clear q0 q1 q2 q3 q4 q5 q6
      have hb5 : Below W0.heap.size W0 iq.v := below_step hbW'.out iq.h
      obtain ⟨w5, hw5⟩ : ∃ w5, iq.v = w5 := ⟨_, rfl⟩
      rw [hw5] at hb5 ⊢
      obtain ⟨k0, k1, k2, k3, k4, k5⟩ := HC.out w5 hb5
      try simp only at k0 k1 k2 k3 k4 k5
      have k6 := HCC.out w5 hb5
      clear d0 d1 d2 d3 d4 d5 hw5
      have hi5 : FullI w0 w5 (fS f gt Sn) f X := (HX.out.on hb5).i
      have HI5 := Lib.hid hi5
      have HP5 := Lib.hid (HP.out.on hb5)
      have HNF5 := Lib.hid (NF.of_below (S := fS f gt Sn) (below_step HB.out hb5))
      have HB5 := Lib.hid hb5
      have hSf : ∀ h, stepP X ⟨op, false, fl, vals, al, data⟩ h = if CN ≠ XC then ([rejA X 4 h], X.up) else if op = 0 ∧ fN vals 1 = noneN then doP X ⟨op, false, fl, vals, al, data⟩ h else doP { X with cmd := aft X.cmd 1 } ⟨op, false, fl, vals, al, data⟩ h := fun h => by
        unfold stepP
        rw [if_neg (by simp [hkn]), if_neg (by simp), hCN, hXC]
      have HSF := Lib.hid hSf
      clear hS1 hSf hi5 hb5 hI0 hP0
      by_cases hcm : CN = XC
      rotate_left
      · have hcz : ¬ ((CN : Int) = (XC : Int)) := by omega
        go_wp2_with fail
        refine (HREF.out w5 HB5.out 4 (by decide)).mono ?_
        rintro e w6 ⟨v, rfl, hT⟩
        go_wp2_with fail
        go_ret2
        refine ⟨v, rfl, ?_⟩
        rw [hH, HSF.out, if_pos hcm]
        exact hT.back HNF5.out
      · subst hcm
        have hstep : ∀ h, stepP X ⟨op, false, fl, vals, al, data⟩ h = if op = 0 ∧ fN vals 1 = noneN then doP X ⟨op, false, fl, vals, al, data⟩ h else doP { X with cmd := aft X.cmd 1 } ⟨op, false, fl, vals, al, data⟩ h := fun h => by rw [HSF.out, if_neg (by simp)]
        have HSTEP := Lib.hid hstep
        have e4 : IntKind.u32.wrap ((CN : Int) + 1) = ((aft CN 1 : Nat) : Int) := by unfold aft; rw [IntKind.wrap_u32]; omega
        clear hstep
        by_cases hop : op = 0
        · subst hop
          have hitt := itt_val (p := ⟨0, false, fl, vals, al, data⟩) rfl HRIGHT.out
          obtain ⟨B, hB⟩ : ∃ n, fN vals 1 = n := ⟨_, rfl⟩
          have hvI : valGo r0.2.2.2 vals nITT.data.toList = .inr B := by rw [← hB]; exact hitt.1
          have hB32 : B < 4294967296 := by rw [← hB]; exact hitt.2
          have HVI := Lib.hid (fval_any (⟨0, false, fl, vals, al, data⟩, ⟨.slice A vals.length cap, av⟩) r0 nITT B row0 hvI w5 HP5.out (V0'.out.on HB5.out).T (V0'.out.on HB5.out).S)
          have HBB := Lib.hid hB
          clear hitt hvI hB
          go_wp2_with fail
          refine HVI.out.mono ?_
          rintro e w6 ⟨rfl, hb6⟩
          have hb6w := below_step HB5.out hb6
          obtain ⟨l0, l1, l2, l3, l4, l5⟩ := HC.out w6 hb6w
          try simp only at l0 l1 l2 l3 l4 l5
          clear k0 k1 k2 k3 k4 k5 k6
          by_cases hbn : B = 4294967295
          · subst hbn
            go_upto_region 15 with (fail)
            go_wp2_with fail
            refine (HDo.out w6 X (.inl rfl) (HX.out.on hb6w).i (HP.out.on hb6w)).mono ?_
            rintro e w7 ⟨v, rfl, hT⟩
            go_wp2_with fail
            go_ret2
            refine ⟨v, rfl, ?_⟩
            rw [hH, HSTEP.out, if_pos (by first | exact ⟨rfl, HBB.out⟩ | exact ⟨trivial, HBB.out⟩)]
            rw [← hH]
            exact hT.back (NF.of_below (below_step HB.out hb6w))
          · have hbz : ¬ ((B : Int) = 4294967295) := by omega
            have hXb := HX.out.on hb6w
            have h6 := hXb.put 11 (.int .u32 ((aft CN 1 : Nat) : Int)) (pc' := pc) (X' := { X with cmd := aft X.cmd 1 }) (by rw [HXC.out]; rfl) rfl rfl rfl rfl hXb.ps hXb.pk (bump_ok hXb.ok) hXb.pt
            have hBg6 := (HBK.out.below hb6w HBK.out.lt).far (p := ⟨f, 11, none⟩) hgf (.int .u32 ((aft CN 1 : Nat) : Int))
            have hnf6 : NF (fS f gt Sn) w6 (w6.setCell ⟨f, 11, none⟩ (.int .u32 ((aft CN 1 : Nat) : Int))) := (NF.refl _ _).put (.inl (by simp [fS])) 11 _
            have hP6 := (HP.out.on hb6w).nf hnf6 HFAR.out
            have hnfw := (NF.of_below (S := fS f gt Sn) (below_step HB.out hb6w)).trans hnf6 (fun x hx => .inl hx)
            obtain ⟨W6, hW6⟩ : ∃ W : World, w6.setCell ⟨f, 11, none⟩ (.int .u32 ((aft CN 1 : Nat) : Int)) = W := ⟨_, rfl⟩
            rw [hW6] at h6 hBg6 hP6 hnfw
            have j6 : w6.cell? ⟨f, 11, none⟩ = some (.int .u32 CN) := HCC.out w6 hb6w
            have fz := hXb.fb.frozen 11
            obtain ⟨j0, j1, j2, j3, j4, j5⟩ := pd_cells hBg6
            simp only at j0 j1 j2 j3 j4 j5
            have HI6 := Lib.hid h6.i
            have HP6 := Lib.hid hP6
            have HNFW := Lib.hid hnfw
            clear hXb h6 hBg6 hnf6 hP6 hnfw
            go_upto_region 15 with (fail)
            try refine wp_worldN hW6 ?_
            go_wp2_with fail
            refine (HDo.out W6 _ (.inr rfl) HI6.out HP6.out).mono ?_
            rintro e w7 ⟨v, rfl, hT⟩
            go_wp2_with fail
            go_ret2
            refine ⟨v, rfl, ?_⟩
            rw [hH, HSTEP.out, if_neg (fun h => hbn (HBB.out.symm.trans h.2))]
            rw [← hH]
            exact hT.back HNFW.out
        · have hoz : (op == 0) = false := by simpa using hop
          have hoz2 : (op != 0) = true := by simpa using hop
          have hoz3 : decide (op = 0) = false := by simpa using hop
          clear k6
          have hXb := HX.out.on HB5.out
          have h6 := hXb.put 11 (.int .u32 ((aft CN 1 : Nat) : Int)) (pc' := pc) (X' := { X with cmd := aft X.cmd 1 }) (by rw [HXC.out]; rfl) rfl rfl rfl rfl hXb.ps hXb.pk (bump_ok hXb.ok) hXb.pt
          have hBg6 := (HBK.out.below HB5.out HBK.out.lt).far (p := ⟨f, 11, none⟩) hgf (.int .u32 ((aft CN 1 : Nat) : Int))
          have hnf6 : NF (fS f gt Sn) w5 (w5.setCell ⟨f, 11, none⟩ (.int .u32 ((aft CN 1 : Nat) : Int))) := (NF.refl _ _).put (.inl (by simp [fS])) 11 _
          have hP6 := (HP.out.on HB5.out).nf hnf6 HFAR.out
          have hnfw := (NF.of_below (S := fS f gt Sn) (below_step HB.out HB5.out)).trans hnf6 (fun x hx => .inl hx)
          obtain ⟨W6, hW6⟩ : ∃ W : World, w5.setCell ⟨f, 11, none⟩ (.int .u32 ((aft CN 1 : Nat) : Int)) = W := ⟨_, rfl⟩
          rw [hW6] at h6 hBg6 hP6 hnfw
          have j6 : w5.cell? ⟨f, 11, none⟩ = some (.int .u32 CN) := HCC.out w5 HB5.out
          have fz := hXb.fb.frozen 11
          obtain ⟨j0, j1, j2, j3, j4, j5⟩ := pd_cells hBg6
          simp only at j0 j1 j2 j3 j4 j5
          have HI6 := Lib.hid h6.i
          have HP6 := Lib.hid hP6
          have HNFW := Lib.hid hnfw
          clear hXb h6 hBg6 hnf6 hP6 hnfw
          go_upto_region 15 with (fail)
          try refine wp_worldN hW6 ?_
          go_wp2_with fail
          refine (HDo.out W6 _ (.inr rfl) HI6.out HP6.out).mono ?_
          rintro e w7 ⟨v, rfl, hT⟩
          go_wp2_with fail
          go_ret2
          refine ⟨v, rfl, ?_⟩
          rw [hH, HSTEP.out, if_neg (fun h => hop h.1)]
          rw [← hH]
          exact hT.back HNFW.out
end Go.Proofs.YtamlepacljjpiaaGreatDoor
