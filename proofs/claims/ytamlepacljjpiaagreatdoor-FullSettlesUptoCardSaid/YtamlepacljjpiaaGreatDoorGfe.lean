/- FullAsk1 FullPiece FullSend FullAsk. -/
import Derived.Test.YtamlepacljjpiaaGreatDoorGfc
import Derived.Test.YtamlepacljjpiaaGreatDoorTargetList
/- full's ask, where no tag that was told is asked for: refused. -/
namespace Go.Proofs.YtamlepacljjpiaaGreatDoor
open Go.ChangeShapes Go.WideShapes Go.ChangeAt Go.RowKit Go.Shelf
set_option linter.unusedVariables false
set_option linter.unusedSimpArgs false
set_option maxRecDepth 20000 in
set_option maxHeartbeats 8000000 in
theorem fask_bad {w0 w : World} {f gn gt : Nat} {Sn : List Nat} {tv pv uv ov pc : Value} {X : FP} (h : FullX w0 w f gn gt Sn tv pv uv ov pc X) (V : Env w0) (x : PD × PdPart) (hp : PdOk w x) (hop : x.1.op = 4) (hright : rightR x.1.op x.1.now x.1.fl x.1.vals = none) (hsz : x.1.data.size ≤ 100000) (hT : fN x.1.vals 2 ≠ noneN) (hpc : X.pcs = []) :
    Calls Tryz.prog 51 #[.pointer (some ⟨f, 0, none⟩), pdV x] w fun e w' => DidX w0 w (fS f gt Sn) f ([rejA X 4 (headS x.1)], X.up) e w' := by
  obtain ⟨a, b, c, d, e0, hvals, _, hc32, _, _⟩ := vals4 (hop ▸ hright)
  obtain ⟨g, hg⟩ : ∃ g, w.heap.size = g := ⟨_, rfl⟩
  have hvT : valGo r4.2.2.2 x.1.vals nTTT.data.toList = .inr c := by rw [hvals]; exact val4.2.2.1
  have hf2 : fN x.1.vals 2 = c := by rw [hvals]; rfl
  rw [hf2] at hT
  have hrow : headRow x.1.op = some r4 := by rw [hop]; exact row4
  have hb0 : Below w.heap.size w (w.alloc (.cells (pdC x).toArray 41)) := (Below.refl _ _).alloc (Nat.le_refl _) _
  have hB0 : Blk (w.alloc (.cells (pdC x).toArray 41)) g 41 (pdC x).toArray := by rw [← hg]; exact Blk.new w _ _
  obtain ⟨W0, hW0⟩ : ∃ W : World, w.alloc (.cells (pdC x).toArray 41) = W := ⟨_, rfl⟩
  rw [hW0] at hb0 hB0
  have hX0 := h.on hb0
  have hp0 := hp.on hb0
  have V0 := V.on hX0.b
  have hval := fval_any x r4 nTTT c hrow hvT W0 hp0 V0.T V0.S
  have hcells := fun (W : World) (hb : Below W0.heap.size W0 W) => pd_cells (hB0.below hb hB0.lt)
  have href := fun (W : World) (hb : Below W0.heap.size W0 W) => frefuse_any (hX0.on hb) V x (hp0.on hb) hright hsz 4 (by decide)
  obtain ⟨pA, pcap, hpv⟩ : ∃ A cap, pc = .slice A 0 cap := by
    obtain ⟨_, A, cap, hv, _⟩ := h.ps
    rw [hpc] at hv
    exact ⟨A, cap, hv⟩
  have hc13 := fun (W : World) (hb : Below W0.heap.size W0 W) => (show W.cell? ⟨f, 13, none⟩ = some (.slice pA 0 pcap) by rw [← hpv]; exact (hX0.on hb).fb.cell 13)
  obtain ⟨A, cap, hu⟩ := pd_form hp
  obtain ⟨Y, hY⟩ : ∃ Y, headS x.1 = Y := ⟨_, rfl⟩
  rw [hY] at href ⊢
  have HV := Lib.hid hval
  have HC := Lib.hid hcells
  have HREF := Lib.hid href
  have H13 := Lib.hid hc13
  have HB := Lib.hid hb0
  clear hval hcells href hc13 hvals hvT hf2 hrow hX0 hp0 hB0 hp h hright hY
  obtain ⟨⟨op, now, fl, vals, al, data⟩, ⟨u, av⟩⟩ := x
  simp only at hu hop hsz
  subst hu
  subst hop
  obtain ⟨c0, c1, c2, c3, c4, c5⟩ := HC.out W0 (Below.refl _ _)
  try simp only at c0 c1 c2 c3 c4 c5
  go_enter Tryz.func51, Tryz.ntmps51
  go_upto_region 1 with (fail)
  try refine wp_worldN hW0 ?_
  try rw [hg]
  go_wp2_with fail
  refine HV.out.mono ?_
  rintro e w1 ⟨rfl, hb1⟩
  obtain ⟨d0, d1, d2, d3, d4, d5⟩ := HC.out w1 hb1
  try simp only at d0 d1 d2 d3 d4 d5
  have k13 := H13.out w1 hb1
  have hT2 : ¬ c = 4294967295 := hT
  have hT3 : ¬ ((c : Int) = 4294967295) := by omega
  have HREF1 := Lib.hid (HREF.out w1 hb1)
  have HB1 := Lib.hid (below_step HB.out hb1)
  clear c0 c1 c2 c3 c4 c5 hb1
  by_cases h1 : c = 1
  · subst h1
    go_wp2_with fail
    refine HREF1.out.mono ?_
    rintro e w2 ⟨v, rfl, hD⟩
    go_wp2_with fail
    go_ret
    exact ⟨v, rfl, hD.back (NF.of_below HB1.out)⟩
  · have h1z : ¬ ((c : Int) = 1) := by omega
    go_wp2_with fail
    refine HREF1.out.mono ?_
    rintro e w2 ⟨v, rfl, hD⟩
    go_wp2_with fail
    go_ret
    exact ⟨v, rfl, hD.back (NF.of_below HB1.out)⟩
end Go.Proofs.YtamlepacljjpiaaGreatDoor

/- The contract of full's piece. -/
namespace Go.Proofs.YtamlepacljjpiaaGreatDoor
open Go.ChangeShapes Go.WideShapes Go.ChangeAt Go.RowKit Go.Shelf
set_option linter.unusedVariables false
set_option linter.unusedSimpArgs false
theorem piece_ok {X : FP} {s : ByteArray} {rest : List ByteArray} (h : X.Ok) (hp : X.pcs = s :: rest) : ({ X with pcs := rest } : FP).Ok := ⟨h.cs, h.cr, h.st, h.cm, h.tx, h.nw, h.rc, h.nm, by have := h.pz; rw [hp] at this; simp at this; show rest.length ≤ 20000; omega⟩
theorem srd_rest {w : World} {b o n cap : Nat} {s : ByteArray} {rest : List ByteArray} (hn : rest.length = n) (h : SRd w (.slice (some ⟨b, o, none⟩) (n + 1) cap) 1 (n + 1) ((s :: rest).map .string)) : SRd w (.slice (some ⟨b, o + 1, none⟩) n (cap - 1)) 1 n (rest.map .string) := by
  obtain ⟨h1, A, cap', hv, h2, h3, h4⟩ := h
  injection hv with e1 e2 e3
  subst e3
  refine ⟨by simp [hn], _, _, rfl, by omega, by omega, fun hpos => ?_⟩
  obtain ⟨b', o', hA, hb, hc⟩ := h4 (by omega)
  rw [← e1] at hA
  injection hA with hA
  injection hA with hA1 hA2
  subst hA1
  subst hA2
  refine ⟨b, o + 1, rfl, hb, fun j u hu => ?_⟩
  have := hc (j + 1) u (by simpa using hu)
  rw [show o + 1 + j = o + (j + 1) by omega]
  exact this
set_option maxRecDepth 20000 in
set_option maxHeartbeats 8000000 in
theorem fpiece_any {w0 w : World} {f gn gt : Nat} {Sn : List Nat} {tv pv uv ov pc : Value} {X : FP} (h : FullX w0 w f gn gt Sn tv pv uv ov pc X) (V : Env w0) (x : PD × PdPart) (hp : PdOk w x) (hfar : PdFar (fS f gt Sn) x) (hop : x.1.op = 4) (hright : rightR x.1.op x.1.now x.1.fl x.1.vals = none) (s : ByteArray) (rest : List ByteArray) (hpc : X.pcs = s :: rest) :
    Calls Tryz.prog 82 #[.pointer (some ⟨f, 0, none⟩), pdV x] w fun e w' => DidX w0 w (fS f gt Sn) f ([(pieceP X (fN x.1.vals 1)).1], (pieceP X (fN x.1.vals 1)).2) e w' := by
  obtain ⟨a, b, c, d, e0, hvals, hb32, _, _, _⟩ := vals4 (hop ▸ hright)
  obtain ⟨g, hg⟩ : ∃ g, w.heap.size = g := ⟨_, rfl⟩
  have hvI : valGo r4.2.2.2 x.1.vals nITT.data.toList = .inr b := by rw [hvals]; exact val4.2.1
  have hf1 : fN x.1.vals 1 = b := by rw [hvals]; rfl
  have hrow : headRow x.1.op = some r4 := by rw [hop]; exact row4
  rw [hf1]
  obtain ⟨n, hn⟩ : ∃ n, rest.length = n := ⟨_, rfl⟩
  obtain ⟨pb, po, pcap, hpv, hpbl, hpcell⟩ : ∃ pb po pcap, pc = .slice (some ⟨pb, po, none⟩) (n + 1) pcap ∧ pb < w.heap.size ∧ w.cell? ⟨pb, po, none⟩ = some (.string s) := by
    obtain ⟨_, A, cap, hv, _, _, h4⟩ := h.ps
    rw [hpc] at hv h4
    obtain ⟨pb, po, hA, hb, hc⟩ := h4 (by simp)
    refine ⟨pb, po, cap, ?_, hb, ?_⟩
    · rw [hv, hA, List.length_cons, hn]
    · have := hc 0 (.string s) rfl
      rwa [Nat.add_zero] at this
  subst hpv
  have hb0 : Below w.heap.size w (w.alloc (.cells (pdC x).toArray 41)) := (Below.refl _ _).alloc (Nat.le_refl _) _
  have hB0 : Blk (w.alloc (.cells (pdC x).toArray 41)) g 41 (pdC x).toArray := by rw [← hg]; exact Blk.new w _ _
  obtain ⟨W1, hW1⟩ : ∃ W : World, w.alloc (.cells (pdC x).toArray 41) = W := ⟨_, rfl⟩
  rw [hW1] at hb0 hB0
  have h1 := h.on hb0
  have hfg : f ≠ g := by have := h.fb.lt; omega
  have hps1 := h1.ps
  rw [hpc, List.length_cons, hn] at hps1
  have hpcap : n + 1 ≤ pcap := by obtain ⟨_, A, cap, hv, h2, _⟩ := hps1; injection hv with _ _ e; omega
  obtain ⟨po2, hpo, hps2⟩ : ∃ po2, (pcap = 1 ∧ po2 = po ∨ 1 < pcap ∧ po2 = po + 1) ∧ SRd W1 (.slice (some ⟨pb, po2, none⟩) n (pcap - 1)) 1 n (rest.map .string) := by
    rcases Nat.lt_or_ge 1 pcap with h | h
    · exact ⟨po + 1, .inr ⟨h, rfl⟩, srd_rest hn hps1⟩
    · refine ⟨po, .inl ⟨by omega, rfl⟩, by simp [hn], _, _, rfl, by omega, ?_, fun hpos => by omega⟩
      unfold maxLen
      omega
  have h2 := h1.put 13 (.slice (some ⟨pb, po2, none⟩) n (pcap - 1)) (pc' := .slice (some ⟨pb, po2, none⟩) n (pcap - 1)) (X' := { X with pcs := rest }) rfl rfl rfl rfl rfl (by show SRd _ _ 1 rest.length _; rw [hn]; exact hps2) (fun k hk => h1.pk k hk) (piece_ok h1.ok hpc) (fun _ k hk => h1.pt (by rw [hpc]; simp) k hk)
  have hB2 := hB0.far (p := ⟨f, 13, none⟩) (fun e => hfg e.symm) (.slice (some ⟨pb, po2, none⟩) n (pcap - 1))
  have hnf2 : NF (fS f gt Sn) W1 (W1.setCell ⟨f, 13, none⟩ (.slice (some ⟨pb, po2, none⟩) n (pcap - 1))) := (NF.refl _ _).put (.inl (by simp [fS])) 13 _
  have hp2 := (hp.on hb0).nf hnf2 hfar
  have hnf0 := (NF.of_below (S := fS f gt Sn) hb0).trans hnf2 (fun x hx => .inl hx)
  obtain ⟨W2, hW2⟩ : ∃ W2 : World, W1.setCell ⟨f, 13, none⟩ (.slice (some ⟨pb, po2, none⟩) n (pcap - 1)) = W2 := ⟨_, rfl⟩
  rw [hW2] at h2 hB2 hp2 hnf0
  have cf : W1.cell? ⟨f, 13, none⟩ = some (.slice (some ⟨pb, po, none⟩) (n + 1) pcap) := h1.fb.cell 13
  have ff : W1.frozen? ⟨f, 13, none⟩ = false := h1.fb.frozen 13
  have cs : W1.cell? ⟨pb, po, none⟩ = some (.string s) := (hb0.cell (p := ⟨pb, po, none⟩) hpbl).trans hpcell
  have cf2 : W2.cell? ⟨f, 13, none⟩ = some (.slice (some ⟨pb, po2, none⟩) n (pcap - 1)) := h2.fb.cell 13
  have hpmax : (pcap : Int) ≤ 9223372036854775807 := by obtain ⟨_, A, cap, hv, h2, h3, _⟩ := hps1; injection hv with _ _ e; unfold maxLen at h3; omega
  have V2 := V.on h2.b
  have hval := fun (W : World) (hb : Below W2.heap.size W2 W) => (fval_any x r4 nITT b hrow hvI W (hp2.on hb) (V2.on hb).T (V2.on hb).S).mono fun e w' h => (⟨h.1, below_step hb h.2, h.2⟩ : e = .returned (.int .u64 b) ∧ Below W2.heap.size W2 w' ∧ Below W.heap.size W w')
  obtain ⟨A, cap, hu⟩ := pd_form hp
  obtain ⟨⟨op, now, fl, vals, al, data⟩, ⟨u, av⟩⟩ := x
  simp only at hu hop
  subst hu
  subst hop
  have HX := Lib.hid h2
  have HVAL := Lib.hid hval
  have HNF := Lib.hid hnf0
  have HB2 := Lib.hid hB2
  have hst := h.ok.st
  have hcm := h.ok.cm
  clear hval hB2 h2 hnf0 hp2 hp hfar hright hvals hvI hrow h h1 hB0 hnf2 hf1 hb0 hps1 hps2 hpcell
  have HVI2 := Lib.hid (show ∀ (W : World), Below W2.heap.size W2 W → Calls Tryz.prog 54 #[.agg #[.int .i64 4, .bool now, .int .i64 fl, .slice A vals.length cap, av, .string data], .string ⟨#[73, 84, 84]⟩] W fun e w' => e = .returned (.int .u64 b) ∧ Below W2.heap.size W2 w' ∧ Below W.heap.size W w' from HVAL.out)
  have HPC := Lib.hid hpc
  have hz2 : w.heap.size ≤ W2.heap.size := HNF.out.size
  have hn1 : (1 : Int) ≤ ((n + 1 : Nat) : Int) := by omega
  clear hpc HVAL
  go_enter Tryz.func82, Tryz.ntmps82
  go_upto_region 1 with (fail)
  try refine wp_worldN hW1 ?_
  try rw [hg]
  go_upto_region 2 with (fail)
  rcases hpo with ⟨rfl, rfl⟩ | ⟨hlt, rfl⟩
  · obtain rfl : n = 0 := by omega
    go_upto_region 3 with (fail)
    try refine wp_worldN hW2 ?_
    clear cf ff cs
    obtain rfl : rest = [] := List.length_eq_zero_iff.1 hn
    have hmk := make36 (fl := 128) (b := b) (c := noneN) (s := X.stat) (k := X.cmd) (m := aft X.cmd 31) (by decide) hb32 (by decide) hst hcm (aft_lt _ _)
    have hmake := fun (W : World) (A B : Value) (hb : Below W2.heap.size W2 W) (hA : MRow W W2.heap.size 9 1 A 2 ([nITT, nTTT].map .string)) (hB : MRow W W2.heap.size 49 1 B 2 ([b, noneN].map u64V)) => fmake_any HX.out hb V 36 128 (by decide) (by decide) s [nITT, nTTT] [b, noneN] A B _ hA hB (by simp) (by simp) (fun y hy => by
      simp only [List.mem_cons, List.not_mem_nil, or_false] at hy
      rcases hy with rfl | rfl
      · omega
      · decide) hmk
    have HMK2 := Lib.hid hmake
    clear hmake hmk
    obtain ⟨c0, c1, c2, c3, c4, c5⟩ := pd_cells (HB2.out.below (below_a (Below.refl _ _) (.cells #[.string ⟨#[73, 84, 84]⟩, .string ⟨#[84, 84, 84]⟩] 9)) HB2.out.lt)
    try simp only at c0 c1 c2 c3 c4 c5
    go_wp2_with fail
    refine (HVI2.out _ (below_a (Below.refl _ _) _)).mono ?_
    rintro e w3 ⟨rfl, hbz, hbc⟩
    obtain ⟨d0, d1, d2, d3, d4, d5⟩ := pd_cells (HB2.out.below hbz HB2.out.lt)
    try simp only at d0 d1 d2 d3 d4 d5
    clear c0 c1 c2 c3 c4 c5
    go_wp2_with fail
    refine (HMK2.out _ _ _ (below_a hbz _) (MRow.alloc (row_on (lit_row (Below.refl _ _) rfl) hbc) _) (lit_row hbz rfl)).mono ?_
    rintro e w4 ⟨hv4, he4, hA4, hX4, hN4⟩
    obtain ⟨A4, cap4, rfl⟩ := ap_form6 hA4 rfl
    have he5 : e = .returned (.agg #[.int .i64 36, .bool false, .int .i64 128, .slice A4 6 cap4, .slice none 0 0, .string s]) := he4
    subst he5
    go_wp2_with fail
    go_ret
    have hpr : pieceP X b = (⟨36, 128, [0, b, noneN, X.stat, X.cmd, aft X.cmd 31], s⟩, ({ X with pcs := [] } : FP).up) := by
      unfold pieceP
      rw [HPC.out]
      rfl
    rw [hpr]
    exact ⟨_, rfl, took_one hX4 ⟨hA4.1, fun k hk => ⟨Nat.le_trans hz2 (hA4.2 k hk).1, (hA4.2 k hk).2⟩⟩ (HNF.out.trans hN4 (fun x hx => .inl hx))⟩
  · have hq : ¬ (pcap - 1 = 0) := by omega
    have hq2 : ¬ ((pcap : Int) - 1 = 0) := by omega
    go_upto_region 3 with (fail)
    try refine wp_worldN hW2 ?_
    clear cf ff cs
    rcases Nat.eq_zero_or_pos n with hn0 | hn0
    · subst hn0
      obtain rfl : rest = [] := List.length_eq_zero_iff.1 hn
      have hmk := make36 (fl := 128) (b := b) (c := noneN) (s := X.stat) (k := X.cmd) (m := aft X.cmd 31) (by decide) hb32 (by decide) hst hcm (aft_lt _ _)
      have hmake := fun (W : World) (A B : Value) (hb : Below W2.heap.size W2 W) (hA : MRow W W2.heap.size 9 1 A 2 ([nITT, nTTT].map .string)) (hB : MRow W W2.heap.size 49 1 B 2 ([b, noneN].map u64V)) => fmake_any HX.out hb V 36 128 (by decide) (by decide) s [nITT, nTTT] [b, noneN] A B _ hA hB (by simp) (by simp) (fun y hy => by
        simp only [List.mem_cons, List.not_mem_nil, or_false] at hy
        rcases hy with rfl | rfl
        · omega
        · decide) hmk
      have HMK2 := Lib.hid hmake
      clear hmake hmk
      obtain ⟨c0, c1, c2, c3, c4, c5⟩ := pd_cells (HB2.out.below (below_a (Below.refl _ _) (.cells #[.string ⟨#[73, 84, 84]⟩, .string ⟨#[84, 84, 84]⟩] 9)) HB2.out.lt)
      try simp only at c0 c1 c2 c3 c4 c5
      go_wp2_with fail
      refine (HVI2.out _ (below_a (Below.refl _ _) _)).mono ?_
      rintro e w3 ⟨rfl, hbz, hbc⟩
      obtain ⟨d0, d1, d2, d3, d4, d5⟩ := pd_cells (HB2.out.below hbz HB2.out.lt)
      try simp only at d0 d1 d2 d3 d4 d5
      clear c0 c1 c2 c3 c4 c5
      go_wp2_with fail
      refine (HMK2.out _ _ _ (below_a hbz _) (MRow.alloc (row_on (lit_row (Below.refl _ _) rfl) hbc) _) (lit_row hbz rfl)).mono ?_
      rintro e w4 ⟨hv4, he4, hA4, hX4, hN4⟩
      obtain ⟨A4, cap4, rfl⟩ := ap_form6 hA4 rfl
      have he5 : e = .returned (.agg #[.int .i64 36, .bool false, .int .i64 128, .slice A4 6 cap4, .slice none 0 0, .string s]) := he4
      subst he5
      go_wp2_with fail
      go_ret
      have hpr : pieceP X b = (⟨36, 128, [0, b, noneN, X.stat, X.cmd, aft X.cmd 31], s⟩, ({ X with pcs := [] } : FP).up) := by
        unfold pieceP
        rw [HPC.out]
        rfl
      rw [hpr]
      exact ⟨_, rfl, took_one hX4 ⟨hA4.1, fun k hk => ⟨Nat.le_trans hz2 (hA4.2 k hk).1, (hA4.2 k hk).2⟩⟩ (HNF.out.trans hN4 (fun x hx => .inl hx))⟩
    · skip
      have hnz : (0 : Int) < (n : Int) := by omega
      have hne : rest ≠ [] := fun h => by rw [h] at hn; simp at hn; omega
      have hmk := make36 (fl := 64) (b := b) (c := 1) (s := X.stat) (k := X.cmd) (m := aft X.cmd 31) (by decide) hb32 (by decide) hst hcm (aft_lt _ _)
      have hmake := fun (W : World) (A B : Value) (hb : Below W2.heap.size W2 W) (hA : MRow W W2.heap.size 9 1 A 2 ([nITT, nTTT].map .string)) (hB : MRow W W2.heap.size 49 1 B 2 ([b, 1].map u64V)) => fmake_any HX.out hb V 36 64 (by decide) (by decide) s [nITT, nTTT] [b, 1] A B _ hA hB (by simp) (by simp) (fun y hy => by
        simp only [List.mem_cons, List.not_mem_nil, or_false] at hy
        rcases hy with rfl | rfl
        · omega
        · decide) hmk
      have HMK2 := Lib.hid hmake
      clear hmake hmk
      obtain ⟨c0, c1, c2, c3, c4, c5⟩ := pd_cells (HB2.out.below (below_a (Below.refl _ _) (.cells #[.string ⟨#[73, 84, 84]⟩, .string ⟨#[84, 84, 84]⟩] 9)) HB2.out.lt)
      try simp only at c0 c1 c2 c3 c4 c5
      go_wp2_with fail
      refine (HVI2.out _ (below_a (Below.refl _ _) _)).mono ?_
      rintro e w3 ⟨rfl, hbz, hbc⟩
      obtain ⟨d0, d1, d2, d3, d4, d5⟩ := pd_cells (HB2.out.below hbz HB2.out.lt)
      try simp only at d0 d1 d2 d3 d4 d5
      clear c0 c1 c2 c3 c4 c5
      go_wp2_with fail
      refine (HMK2.out _ _ _ (below_a hbz _) (MRow.alloc (row_on (lit_row (Below.refl _ _) rfl) hbc) _) (lit_row hbz rfl)).mono ?_
      rintro e w4 ⟨hv4, he4, hA4, hX4, hN4⟩
      obtain ⟨A4, cap4, rfl⟩ := ap_form6 hA4 rfl
      have he5 : e = .returned (.agg #[.int .i64 36, .bool false, .int .i64 64, .slice A4 6 cap4, .slice none 0 0, .string s]) := he4
      subst he5
      go_wp2_with fail
      go_ret
      have hpr : pieceP X b = (⟨36, 64, [0, b, 1, X.stat, X.cmd, aft X.cmd 31], s⟩, ({ X with pcs := rest } : FP).up) := by
        unfold pieceP
        rw [HPC.out]
        simp [hne, txtA, List.headD]; rfl
      rw [hpr]
      exact ⟨_, rfl, took_one hX4 ⟨hA4.1, fun k hk => ⟨Nat.le_trans hz2 (hA4.2 k hk).1, (hA4.2 k hk).2⟩⟩ (HNF.out.trans hN4 (fun x hx => .inl hx))⟩
end Go.Proofs.YtamlepacljjpiaaGreatDoor

/- The contract of full's send. -/
namespace Go.Proofs.YtamlepacljjpiaaGreatDoor
open Go.ChangeShapes Go.WideShapes Go.ChangeAt Go.RowKit Go.Shelf
set_option linter.unusedVariables false
set_option linter.unusedSimpArgs false
theorem cright_few {c : Cfg} (h : cRight c = none) : c.tg.length ≤ 8 ∧ c.po.length ≤ 4 := by
  unfold cRight at h
  split at h
  · cases h
  · omega
def sendR (R : Option PairL) (v : ByteArray) (d : Bool) : PairL := match R with
  | none => [(stB, ba rejB)]
  | some l => if v = allB ∧ d = false then [(stB, ba rejB)] else l
theorem sendR_pos {l : PairL} {v : ByteArray} {d : Bool} (h : v = allB ∧ d = false) : sendR (some l) v d = [(stB, ba rejB)] := if_pos h
theorem sendR_neg {l : PairL} {v : ByteArray} {d : Bool} (h : ¬ (v = allB ∧ d = false)) : sendR (some l) v d = l := if_neg h
theorem send_eq (X : FP) (v : ByteArray) : sendL X v = sendR (tlistP X.conf (if v.data.toList = [] then X.name else v).data.toList (decide (v = allB))) v X.disc := rfl
set_option maxRecDepth 20000 in
set_option maxHeartbeats 8000000 in
theorem fsend_any {w0 w : World} {f gn gt : Nat} {Sn : List Nat} {tv pv uv ov pc : Value} {X : FP} (h : FullX w0 w f gn gt Sn tv pv uv ov pc X) (V : Env w0) (v : ByteArray) :
    Calls Tryz.prog 83 #[.pointer (some ⟨f, 0, none⟩), .string v] w fun e w' => ∃ u, e = .returned u ∧ PRow w' w.heap.size u (sendL X v) ∧ Below w.heap.size w w' := by
  have V1 := V.on h.b
  obtain ⟨hl1, hl2⟩ := cright_few h.ok.cr
  have hlim : (X.conf.tg.length * (X.conf.po.length + 1) + 1) * 32 ≤ 140737488355328 := by
    have : X.conf.tg.length * (X.conf.po.length + 1) ≤ 8 * 5 := Nat.mul_le_mul hl1 (by omega)
    omega
  have hli := fun (y : ByteArray) (all : Bool) => tlist_any X.conf tv pv uv ov y all w h.conf h.ok.cs V1.T hlim
  have c1 : w.cell? ⟨f, 1, none⟩ = some tv := h.fb.cell 1
  have c2 : w.cell? ⟨f, 2, none⟩ = some pv := h.fb.cell 2
  have c3 : w.cell? ⟨f, 3, none⟩ = some uv := h.fb.cell 3
  have c4 : w.cell? ⟨f, 4, none⟩ = some (.string X.conf.sn) := h.fb.cell 4
  have c5 : w.cell? ⟨f, 5, none⟩ = some (.string X.conf.ss) := h.fb.cell 5
  have c6 : w.cell? ⟨f, 6, none⟩ = some (.int .i64 X.conf.lim) := h.fb.cell 6
  have c7 : w.cell? ⟨f, 7, none⟩ = some ov := h.fb.cell 7
  have c8 : w.cell? ⟨f, 8, none⟩ = some (.string X.name) := h.fb.cell 8
  have hc9 := fun (W : World) (hb : Below w.heap.size w W) => (show W.cell? ⟨f, 9, none⟩ = some (.bool X.disc) from (h.on hb).fb.cell 9)
  obtain ⟨R, hR⟩ : ∃ R, tlistP X.conf (if v.data.toList = [] then X.name else v).data.toList (decide (v = allB)) = R := ⟨_, rfl⟩
  rw [send_eq, hR]
  obtain ⟨DI, hDI⟩ : ∃ d, X.disc = d := ⟨_, rfl⟩
  rw [hDI] at hc9
  rw [hDI]
  have hrej : ∀ (W : World), Below w.heap.size w W → PRow (W.alloc (.cells #[.string ⟨#[83, 101, 110, 100, 84, 97, 114, 103, 101, 116, 115]⟩, .string ⟨#[82, 101, 106, 101, 99, 116]⟩] 62)) w.heap.size (.slice (some ⟨W.heap.size, 0, none⟩) 1 1) [(stB, ba rejB)] := fun W hW => MRow.lit (Blk.new W _ _) hW.size
  have HREJ := Lib.hid hrej
  have HC9 := Lib.hid hc9
  have HX := Lib.hid h
  have HR := Lib.hid hR
  clear hrej hc9 h hDI
  by_cases hall : v = allB
  · subst hall
    have ha1 : allB.toList = [65, 108, 108] := by rw [toList_of]; rfl
    have hla := hli allB true
    rw [show tlistP X.conf allB.data.toList true = R from HR.out] at hla
    have HLA := Lib.hid hla
    clear hli hla hR
    go_enter Tryz.func83, Tryz.ntmps83
    go_wp2_with fail
    refine HLA.out.mono ?_
    rintro e w1 hE
    rcases R with _ | l
    · obtain ⟨he, hb1⟩ := hE
      have he' : e = .returned (.tuple #[.slice none 0 0, .iface 56 (.int .i64 8)]) := he
      subst he'
      go_wp2_with fail
      go_ret
      exact ⟨_, rfl, HREJ.out w1 hb1, below_a hb1 _⟩
    · obtain ⟨⟨lv, rfl, hlv⟩, hb1⟩ := hE
      have c9 := HC9.out w1 hb1
      rcases DI with _ | _
      · go_wp2_with fail
        go_ret
        exact ⟨_, rfl, by rw [sendR_pos ⟨rfl, rfl⟩]; exact HREJ.out w1 hb1, below_a hb1 _⟩
      · go_wp2_with fail
        go_ret
        exact ⟨_, rfl, by rw [sendR_neg (fun h => by cases h.2)]; exact hlv, hb1⟩
  · have ha1 : (v.toList == [65, 108, 108]) = false := by
      rw [toList_of]
      simp only [beq_eq_false_iff_ne, ne_eq]
      intro h
      apply hall
      have : ba v.data.toList = ba [65, 108, 108] := by rw [h]
      rw [ba_of] at this
      exact this
    by_cases he : v.data.toList = []
    · have f1 : v.toList = [] := by rw [toList_of]; exact he
      have hla := hli X.name false
      rw [show tlistP X.conf X.name.data.toList false = R from by have h := HR.out; rw [if_pos he, decide_eq_false hall] at h; exact h] at hla
      have HLA := Lib.hid hla
      clear hli hla hR
      go_enter Tryz.func83, Tryz.ntmps83
      go_wp2_with fail
      refine HLA.out.mono ?_
      rintro e w1 hE
      rcases R with _ | l
      · obtain ⟨he, hb1⟩ := hE
        have he' : e = .returned (.tuple #[.slice none 0 0, .iface 56 (.int .i64 8)]) := he
        subst he'
        go_wp2_with fail
        go_ret
        exact ⟨_, rfl, HREJ.out w1 hb1, below_a hb1 _⟩
      · obtain ⟨⟨lv, rfl, hlv⟩, hb1⟩ := hE
        go_wp2_with fail
        go_ret
        exact ⟨_, rfl, by rw [sendR_neg (fun h => hall h.1)]; exact hlv, hb1⟩
    · have f1 : ¬ v.toList = [] := by rw [toList_of]; exact he
      have f2 : v.toList.isEmpty = false := by
        rcases hl : v.toList with _ | ⟨y, l⟩
        · exact absurd hl f1
        · rfl
      have hla := hli v false
      rw [show tlistP X.conf v.data.toList false = R from by have h := HR.out; rw [if_neg he, decide_eq_false hall] at h; exact h] at hla
      have HLA := Lib.hid hla
      clear hli hla hR
      go_enter Tryz.func83, Tryz.ntmps83
      go_wp2_with fail
      refine HLA.out.mono ?_
      rintro e w1 hE
      rcases R with _ | l
      · obtain ⟨he, hb1⟩ := hE
        have he' : e = .returned (.tuple #[.slice none 0 0, .iface 56 (.int .i64 8)]) := he
        subst he'
        go_wp2_with fail
        go_ret
        exact ⟨_, rfl, HREJ.out w1 hb1, below_a hb1 _⟩
      · obtain ⟨⟨lv, rfl, hlv⟩, hb1⟩ := hE
        go_wp2_with fail
        go_ret
        exact ⟨_, rfl, by rw [sendR_neg (fun h => hall h.1)]; exact hlv, hb1⟩
end Go.Proofs.YtamlepacljjpiaaGreatDoor

/- The contract of full's ask. -/
namespace Go.Proofs.YtamlepacljjpiaaGreatDoor
open Go.ChangeShapes Go.WideShapes Go.ChangeAt Go.RowKit Go.Shelf
set_option linter.unusedVariables false
set_option linter.unusedSimpArgs false
theorem fl4_all : ∀ n : Fin 256, offM ((n.val : Nat) : Int) 192 = false → n.val = 0 ∨ n.val = 64 ∨ n.val = 128 ∨ n.val = 192 := by decide +kernel
theorem fl4 {now : Bool} {fl : Int} {vals : List Nat} (h : rightR 4 now fl vals = none) (hf : fl ≤ 9223372036854775807) : fl = 0 ∨ fl = 64 ∨ fl = 128 ∨ fl = 192 := by
  obtain ⟨n, rfl, hn⟩ := right_flags row4 h hf
  obtain ⟨hb, _, _⟩ := right_parts row4 h
  simp only [badR, Bool.or_eq_false_iff] at hb
  have h2 := fl4_all ⟨n, hn⟩ hb.2
  simp only at h2
  omega
theorem more_bits {fl : Int} (h : fl = 0 ∨ fl = 64 ∨ fl = 128 ∨ fl = 192) : (bits .and .i64 fl 64 != 0) = moreB fl ∧ (bits .and .i64 fl 128 != 0) = lastB fl := by
  rcases h with rfl | rfl | rfl | rfl <;> exact ⟨by decide +kernel, by decide +kernel⟩
/- the gathered text anew -/
theorem FullX.text {w0 w w' : World} {f gn gt : Nat} {Sn : List Nat} {tv pv uv ov pc : Value} {X : FP} (h : FullX w0 w f gn gt Sn tv pv uv ov pc X) {T : ByteArray} (hg : GBlk w' gt T 8192) (hb : Below w0.heap.size w0 w') (hgr : w.grownBy w' (some gt)) (hT : T.size ≤ 8192) (hp : 0 < X.pcs.length → ∀ k, pc.ownBlock = some k → k ≠ gt) : FullX w0 w' f gn gt Sn tv pv uv ov pc { X with txt := T } := by
  have hnf : NF [gt] w w' := NF.grown (NF.refl [gt] w) hgr (fun x hx => .inl (by injection hx with hx; simp [hx]))
  refine ⟨hb, (hnf.block f h.fb.lt (by simpa using h.fg)).trans h.fb, h.nh.other hnf (fun k hk => by simp; rintro rfl; exact h.gs hk), hg, h.cf, srd_nf h.ps hnf (fun hn k hk => by simpa using hp hn k hk), h.pt.nf hnf (fun hn k hk => by simpa using hp hn k hk), h.pk, h.ff, h.gg, h.ss, h.fg, h.fs, h.gs, ⟨h.ok.cs, h.ok.cr, h.ok.st, h.ok.cm, hT, h.ok.nw, h.ok.rc, h.ok.nm, h.ok.pz⟩⟩
theorem none_ok {X : FP} (h : X.Ok) : ({ X with pcs := [] } : FP).Ok := ⟨h.cs, h.cr, h.st, h.cm, h.tx, h.nw, h.rc, h.nm, Nat.zero_le _⟩
/- a tag that is there -/
set_option maxRecDepth 20000 in
set_option maxHeartbeats 8000000 in
theorem fask_tag {w0 w : World} {f gn gt : Nat} {Sn : List Nat} {tv pv uv ov pc : Value} {X : FP} (h : FullX w0 w f gn gt Sn tv pv uv ov pc X) (V : Env w0) (x : PD × PdPart) (hp : PdOk w x) (hfar : PdFar (fS f gt Sn) x) (hop : x.1.op = 4) (hright : rightR x.1.op x.1.now x.1.fl x.1.vals = none) (hsz : x.1.data.size ≤ 100000) (hT : fN x.1.vals 2 ≠ noneN) :
    Calls Tryz.prog 51 #[.pointer (some ⟨f, 0, none⟩), pdV x] w fun e w' => DidX w0 w (fS f gt Sn) f ([(askP X x.1 (headS x.1)).1], (askP X x.1 (headS x.1)).2) e w' := by
  obtain ⟨a, b, c, d, e0, hvals, _, hc32, _, _⟩ := vals4 (hop ▸ hright)
  obtain ⟨g, hg⟩ : ∃ g, w.heap.size = g := ⟨_, rfl⟩
  have hfl := fl4 (hop ▸ hright) hp.2.1.2
  obtain ⟨hmo, hla⟩ := more_bits hfl
  have hvT : valGo r4.2.2.2 x.1.vals nTTT.data.toList = .inr c := by rw [hvals]; exact val4.2.2.1
  have hf2 : fN x.1.vals 2 = c := by rw [hvals]; rfl
  have hask : askP X x.1 (headS x.1) = if c = 1 ∧ X.pcs ≠ [] ∧ x.1.data.data.toList = [] ∧ moreB x.1.fl = false then pieceP X (fN x.1.vals 1) else (rejA X 4 (headS x.1), X.up) := by
    unfold askP
    rw [hf2]
    exact if_neg (hf2 ▸ hT)
  rw [hf2] at hT
  have hrow : headRow x.1.op = some r4 := by rw [hop]; exact row4
  have hb0 : Below w.heap.size w (w.alloc (.cells (pdC x).toArray 41)) := (Below.refl _ _).alloc (Nat.le_refl _) _
  have hB0 : Blk (w.alloc (.cells (pdC x).toArray 41)) g 41 (pdC x).toArray := by rw [← hg]; exact Blk.new w _ _
  obtain ⟨W0, hW0⟩ : ∃ W : World, w.alloc (.cells (pdC x).toArray 41) = W := ⟨_, rfl⟩
  rw [hW0] at hb0 hB0
  have hX0 := h.on hb0
  have hp0 := hp.on hb0
  have V0 := V.on hX0.b
  have hval := fval_any x r4 nTTT c hrow hvT W0 hp0 V0.T V0.S
  have hcells := fun (W : World) (hb : Below W0.heap.size W0 W) => pd_cells (hB0.below hb hB0.lt)
  have href := fun (W : World) (hb : Below W0.heap.size W0 W) => frefuse_any (hX0.on hb) V x (hp0.on hb) hright hsz 4 (by decide)
  have hpie := fun (W : World) (hb : Below W0.heap.size W0 W) (s : ByteArray) (rest : List ByteArray) (hpc : X.pcs = s :: rest) => fpiece_any (hX0.on hb) V x (hp0.on hb) hfar hop hright s rest hpc
  obtain ⟨N, hN⟩ : ∃ N, X.pcs.length = N := ⟨_, rfl⟩
  obtain ⟨pA, pcap, hpv⟩ : ∃ A cap, pc = .slice A N cap := by
    obtain ⟨_, A, cap, hv, _⟩ := h.ps
    rw [hN] at hv
    exact ⟨A, cap, hv⟩
  have hc13 := fun (W : World) (hb : Below W0.heap.size W0 W) => (show W.cell? ⟨f, 13, none⟩ = some (.slice pA N pcap) by rw [← hpv]; exact (hX0.on hb).fb.cell 13)
  obtain ⟨A, cap, hu⟩ := pd_form hp
  obtain ⟨Y, hY⟩ : ∃ Y, headS x.1 = Y := ⟨_, rfl⟩
  rw [hask]
  rw [hY] at href ⊢
  obtain ⟨IT, hIT⟩ : ∃ n, fN x.1.vals 1 = n := ⟨_, rfl⟩
  rw [hIT] at hpie ⊢
  obtain ⟨MO, hMO⟩ : ∃ m, moreB x.1.fl = m := ⟨_, rfl⟩
  rw [hMO] at hmo ⊢
  have HV := Lib.hid hval
  have HC := Lib.hid hcells
  have HREF := Lib.hid href
  have HPIE := Lib.hid hpie
  have H13 := Lib.hid hc13
  have HB := Lib.hid hb0
  have HN := Lib.hid hN
  clear hval hcells href hpie hc13 hvals hvT hf2 hrow hX0 hp0 hB0 hp h hright hY hask hfl hla hIT hMO hN hfar
  obtain ⟨⟨op, now, fl, vals, al, data⟩, ⟨u, av⟩⟩ := x
  simp only at hu hop hsz hmo
  subst hu
  subst hop
  obtain ⟨c0, c1, c2, c3, c4, c5⟩ := HC.out W0 (Below.refl _ _)
  try simp only at c0 c1 c2 c3 c4 c5
  obtain ⟨Z, hZ⟩ : ∃ Z : AP × FP, (if c = 1 ∧ X.pcs ≠ [] ∧ data.data.toList = [] ∧ MO = false then pieceP X IT else (rejA X 4 Y, X.up)) = Z := ⟨_, rfl⟩
  show Calls _ _ _ _ fun e w' => DidX w0 w (fS f gt Sn) f ([(if c = 1 ∧ X.pcs ≠ [] ∧ data.data.toList = [] ∧ MO = false then pieceP X IT else (rejA X 4 Y, X.up)).1], (if c = 1 ∧ X.pcs ≠ [] ∧ data.data.toList = [] ∧ MO = false then pieceP X IT else (rejA X 4 Y, X.up)).2) e w'
  rw [hZ]
  have HZ := Lib.hid hZ
  clear hZ
  go_enter Tryz.func51, Tryz.ntmps51
  go_upto_region 1 with (fail)
  try refine wp_worldN hW0 ?_
  try rw [hg]
  go_wp2_with fail
  refine HV.out.mono ?_
  rintro e w1 ⟨rfl, hb1⟩
  obtain ⟨d0, d1, d2, d3, d4, d5⟩ := HC.out w1 hb1
  try simp only at d0 d1 d2 d3 d4 d5
  have k13 := H13.out w1 hb1
  have hT2 : ¬ c = 4294967295 := hT
  have hT3 : ¬ ((c : Int) = 4294967295) := by omega
  have HREF1 := Lib.hid (HREF.out w1 hb1)
  have HPIE1 := Lib.hid (HPIE.out w1 hb1)
  have HB1 := Lib.hid (below_step HB.out hb1)
  clear c0 c1 c2 c3 c4 c5 hb1
  have hsay : ∀ (hbad : ¬ (c = 1 ∧ X.pcs ≠ [] ∧ data.data.toList = [] ∧ MO = false)), Z = (rejA X 4 Y, X.up) := fun hbad => by have h := HZ.out; rw [if_neg hbad] at h; exact h.symm
  have HSAY := Lib.hid hsay
  clear hsay
  by_cases h1 : c = 1
  rotate_left
  · have h1z : ¬ ((c : Int) = 1) := by omega
    go_wp2_with fail
    refine HREF1.out.mono ?_
    rintro e w2 ⟨v, rfl, hD⟩
    go_wp2_with fail
    go_ret
    rw [HSAY.out (fun h => h1 h.1)]
    exact ⟨v, rfl, hD.back (NF.of_below HB1.out)⟩
  subst h1
  rcases hpc : X.pcs with _ | ⟨s, rest⟩
  · have hN0 : N = 0 := by rw [← HN.out, hpc]; rfl
    subst hN0
    have hZ2 := HSAY.out (fun h => h.2.1 hpc)
    clear hpc
    go_wp2_with fail
    refine HREF1.out.mono ?_
    rintro e w2 ⟨v, rfl, hD⟩
    go_wp2_with fail
    go_ret
    rw [hZ2]
    exact ⟨v, rfl, hD.back (NF.of_below HB1.out)⟩
  have hN0 : N ≠ 0 := by rw [← HN.out, hpc]; simp
  have hN1 : ¬ ((N : Int) = 0) := by omega
  have HPC := Lib.hid hpc
  clear hpc
  by_cases hdt : data.data.toList = []
  rotate_left
  · have f1 : ¬ data.toList = [] := by rw [toList_of]; exact hdt
    have f2 : data.toList.isEmpty = false := by
      rcases hl : data.toList with _ | ⟨y, l⟩
      · exact absurd hl f1
      · rfl
    have hZ2 := HSAY.out (fun h => hdt h.2.2.1)
    go_wp2_with fail
    refine HREF1.out.mono ?_
    rintro e w2 ⟨v, rfl, hD⟩
    go_wp2_with fail
    go_ret
    rw [hZ2]
    exact ⟨v, rfl, hD.back (NF.of_below HB1.out)⟩
  have f1 : data.toList = [] := by rw [toList_of]; exact hdt
  rcases MO with _ | _
  rotate_left
  · have hZ2 := HSAY.out (fun h => by cases h.2.2.2)
    go_wp2_with fail
    refine HREF1.out.mono ?_
    rintro e w2 ⟨v, rfl, hD⟩
    go_wp2_with fail
    go_ret
    rw [hZ2]
    exact ⟨v, rfl, hD.back (NF.of_below HB1.out)⟩
  have hZ2 : Z = pieceP X IT := by have h := HZ.out; rw [if_pos ⟨rfl, by rw [HPC.out]; simp, hdt, rfl⟩] at h; exact h.symm
  go_wp2_with fail
  refine (HPIE1.out s rest HPC.out).mono ?_
  rintro e w2 ⟨v, rfl, hD⟩
  go_wp2_with fail
  go_ret
  rw [hZ2]
  exact ⟨v, rfl, hD.back (NF.of_below HB1.out)⟩
end Go.Proofs.YtamlepacljjpiaaGreatDoor
