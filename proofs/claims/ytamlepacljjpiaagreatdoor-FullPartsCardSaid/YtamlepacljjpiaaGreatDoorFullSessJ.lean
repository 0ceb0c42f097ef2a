/- The contracts of full.New and keep.session once more: what is told lies where it lay. -/
import Derived.Test.YtamlepacljjpiaaGreatDoorGfd
namespace Go.Proofs.YtamlepacljjpiaaGreatDoor
open Go.ChangeShapes Go.WideShapes Go.ChangeAt Go.RowKit Go.Shelf
set_option linter.unusedVariables false
set_option linter.unusedSimpArgs false
def FullJ (tv pv uv ov : Value) (w0 w : World) (S : List Nat) (f : Nat) (X : FP) : Prop := ∃ gn gt Sn pc, FullX w0 w f gn gt Sn tv pv uv ov pc X ∧ S = fS f gt Sn
theorem FullJ.i {tv pv uv ov : Value} {w0 w : World} {S : List Nat} {f : Nat} {X : FP} (h : FullJ tv pv uv ov w0 w S f X) : FullI w0 w S f X := by
  obtain ⟨gn, gt, Sn, pc, hX, rfl⟩ := h
  exact hX.i
theorem FullX.j {w0 w : World} {f gn gt : Nat} {Sn : List Nat} {tv pv uv ov pc : Value} {X : FP} (h : FullX w0 w f gn gt Sn tv pv uv ov pc X) : FullJ tv pv uv ov w0 w (fS f gt Sn) f X := ⟨gn, gt, Sn, pc, h, rfl⟩
theorem FullJ.on {tv pv uv ov : Value} {w0 w w' : World} {S : List Nat} {f : Nat} {X : FP} (h : FullJ tv pv uv ov w0 w S f X) (hb : Below w.heap.size w w') : FullJ tv pv uv ov w0 w' S f X := by
  obtain ⟨gn, gt, Sn, pc, hX, rfl⟩ := h
  exact (hX.on hb).j
/- a world cut off behind its first blocks -/
def cutW (w : World) (n : Nat) : World := { w with heap := w.heap.extract 0 n }
theorem cutW_size {w : World} {n : Nat} (h : n ≤ w.heap.size) : (cutW w n).heap.size = n := by
  show (w.heap.extract 0 n).size = n
  simp
  omega
theorem cutW_at {w : World} {n k : Nat} (h : n ≤ w.heap.size) (hk : k < n) : (cutW w n).heap[k]? = w.heap[k]? := by
  show (w.heap.extract 0 n)[k]? = _
  rw [Array.getElem?_extract]
  rw [if_pos (by omega), Nat.zero_add]
theorem cutW_below {w : World} {n : Nat} (h : n ≤ w.heap.size) : Below (cutW w n).heap.size (cutW w n) w :=
  ⟨rfl, rfl, rfl, by rw [cutW_size h]; exact h, fun k hk => by rw [cutW_size h] at hk; exact (cutW_at h hk).symm⟩
theorem srd_to {w w' : World} {v : Value} {size n : Nat} {xs : List Value} (h : SRd w v size n xs) (hk : 0 < n → ∀ k, v.ownBlock = some k → k < w'.heap.size ∧ w'.heap[k]? = w.heap[k]?) : SRd w' v size n xs := by
  obtain ⟨h1, A, cap, rfl, h2, h3, h4⟩ := h
  refine ⟨h1, A, cap, rfl, h2, h3, fun hn => ?_⟩
  obtain ⟨b, o, rfl, hlt, hc⟩ := h4 hn
  obtain ⟨g1, g2⟩ := hk hn b rfl
  refine ⟨b, o, rfl, g1, fun j u hu => ?_⟩
  have := hc j u hu
  unfold World.cell? at this ⊢
  simp only at this ⊢
  rw [g2]
  exact this
/- what is told lies apart -/
def ConfFar (n : Nat) (tv pv uv ov : Value) (c : Cfg) : Prop := (0 < c.tg.length → ∀ k, tv.ownBlock = some k → n ≤ k) ∧ (0 < c.po.length → ∀ k, pv.ownBlock = some k → n ≤ k) ∧ (0 < c.us.length → ∀ k, uv.ownBlock = some k → n ≤ k) ∧ (0 < c.own.length → ∀ k, ov.ownBlock = some k → n ≤ k)
theorem FullJ.rebase {tv pv uv ov : Value} {w0 w w' : World} {S S1 : List Nat} {f n : Nat} {X : FP} (h : FullJ tv pv uv ov w0 w S f X) (hf : NF S1 w w') (hn : ∀ k ∈ S1, k < n) (hn0 : n ≤ w0.heap.size) (hc : ConfFar n tv pv uv ov X.conf) (hp : X.pcs = []) :
    FullJ tv pv uv ov (cutW w' w0.heap.size) w' S f X := by
  obtain ⟨gn, gt, Sn, pc, hX, rfl⟩ := h
  have hz : w0.heap.size ≤ w'.heap.size := Nat.le_trans hX.b.size hf.size
  have hsz := cutW_size hz
  have hblk : ∀ k, n ≤ k → k < w0.heap.size → (cutW w' w0.heap.size).heap[k]? = w0.heap[k]? := fun k h1 h2 => by
    rw [cutW_at hz h2, hf.block k (by have := hX.b.size; omega) (fun hm => by have := hn k hm; omega), hX.b.block k h2]
  have hd : ∀ k, w0.heap.size ≤ k → k ∉ S1 := fun k hk hm => by have := hn k hm; omega
  have hto : ∀ {v : Value} {size m : Nat} {xs : List Value}, SRd w0 v size m xs → (0 < m → ∀ k, v.ownBlock = some k → n ≤ k) → SRd (cutW w' w0.heap.size) v size m xs := fun hs hk => srd_to hs fun hm k hk2 => by
    have h1 := hk hm k hk2
    have h2 := srd_lt hs hm k hk2
    exact ⟨by rw [hsz]; exact h2, hblk k h1 h2⟩
  obtain ⟨c1, c2, c3, c4⟩ := hX.cf
  obtain ⟨e1, e2, e3, e4⟩ := hc
  have hpl : X.pcs.length = 0 := by rw [hp]; rfl
  refine ⟨gn, gt, Sn, pc, ⟨cutW_below hz, (hf.block f hX.fb.lt (hd f hX.ff)).trans hX.fb, hX.nh.other hf fun k hk => hd k (hX.ss k hk), (hf.block gt (Blk.lt hX.gb) (hd gt hX.gg)).trans hX.gb, ⟨?_, hto c2 e2, hto c3 e3, hto c4 e4⟩, srd_nf hX.ps hf (fun h => by omega), hX.pt.nf hf (fun h => by omega), hX.pk, by rw [hsz]; exact hX.ff, by rw [hsz]; exact hX.gg, fun k hk => by rw [hsz]; exact hX.ss k hk, hX.fg, hX.fs, hX.gs, hX.ok⟩, rfl⟩
  exact hto c1 e1
def NewJs (tv pv uv ov : Value) (w0 w : World) (S : List Nat) (c : Cfg) (rc : PairL) (name : ByteArray) (disc : Bool) (stat cmd : Nat) (e : Ending) (w' : World) : Prop :=
  (cRight c ≠ none ∧ ∃ t x, e = .returned (.tuple #[.pointer none, .iface t x])) ∨ (∃ f S', e = .returned (.tuple #[.pointer (some ⟨f, 0, none⟩), .nilIface]) ∧ FullJ tv pv uv ov w0 w' S' f (newP c rc name disc stat cmd) ∧ ∀ k ∈ S', k ∈ S ∨ w.heap.size ≤ k)
set_option maxRecDepth 20000 in
set_option maxHeartbeats 4000000 in
theorem fnew_j {w0 w : World} (c : Cfg) (tv pv uv ov : Value) (hc : CfgAt w0 tv pv uv ov c) (hsm : c.Small) (hb : Below w0.heap.size w0 w) (V : Env w0) (g : Nat) (Sn : List Nat) (rc : PairL) (hN : NegoH w Sn g c.own rc) (hS : ∀ k ∈ Sn, w0.heap.size ≤ k) (hrc : RecOk rc) (name : ByteArray) (hnm : name.size ≤ 140737488351232) (disc : Bool) (stat cmd : Nat) (hst : stat < 4294967296) (hcm : cmd < 4294967296) :
    Calls Tryz.prog 48 #[cfgV tv pv uv ov c, .pointer (some ⟨g, 0, none⟩), .string name, .bool disc, .int .u32 stat, .int .u32 cmd] w fun e w' => NewJs tv pv uv ov w0 w Sn c rc name disc stat cmd e w' ∧ Below w.heap.size w w' := by
  obtain ⟨R, hR⟩ : ∃ R, cRight c = R := ⟨_, rfl⟩
  obtain ⟨tg, po, us, sn, ss, lim, own⟩ := c
  obtain ⟨G0, hG0⟩ : ∃ G0, w.heap.size = G0 := ⟨_, rfl⟩
  have hb0 : Below w.heap.size w (w.alloc (.cells #[tv, pv, uv, .string sn, .string ss, .int .i64 lim, ov] 29)) := (Below.refl _ _).alloc (Nat.le_refl _) _
  have hB0 := Blk.new w 29 #[tv, pv, uv, .string sn, .string ss, .int .i64 lim, ov]
  obtain ⟨W0, hW0⟩ : ∃ W : World, w.alloc (.cells #[tv, pv, uv, .string sn, .string ss, .int .i64 lim, ov] 29) = W := ⟨_, rfl⟩
  rw [hW0] at hb0 hB0
  rw [hG0] at hB0
  have hbW := below_step hb hb0
  have hr := tright_any ⟨tg, po, us, sn, ss, lim, own⟩ tv pv uv ov W0 (hc.on hbW) hsm (V.on hbW)
  rw [hR] at hr
  have c0 := hB0.cell 0
  have c1 := hB0.cell 1
  have c2 := hB0.cell 2
  have c3 := hB0.cell 3
  have c4 := hB0.cell 4
  have c5 := hB0.cell 5
  have c6 := hB0.cell 6
  have HR := Lib.hid hR
  have HN := Lib.hid hN
  have HRI := Lib.hid hr
  clear hR hN hr
  unfold cfgV at *
  simp only at *
  go_enter Tryz.func48, Tryz.ntmps48
  go_upto_region 1 with (fail)
  try refine wp_worldN hW0 ?_
  try rw [hG0]
  go_wp2_with fail
  refine HRI.out.mono ?_
  rintro e w1 ⟨⟨er, rfl, her⟩, hb1⟩
  rcases R with _ | E
  · obtain rfl : er = .nilIface := her
    have hB1 := hB0.below hb1 hB0.lt
    obtain ⟨gt, hgt⟩ : ∃ gt, w1.heap.size = gt := ⟨_, rfl⟩
    clear c0 c1 c2 c3 c4 c5 c6
    go_wp2_with fail
    refine (gnew_ok 8192 _ (by omega) (by omega)).mono ?_
    rintro e w2 ⟨rfl, hw2⟩
    have hb2 : Below w1.heap.size w1 w2 := by rw [hw2]; exact (Below.refl _ _).alloc (Nat.le_refl _) _
    have hG2 : GBlk w2 gt ⟨#[]⟩ 8192 := by rw [hw2, ← hgt]; exact Blk.new w1 _ _
    have hB2 := hB1.below hb2 hB1.lt
    have k0 := hB2.cell 0
    have k1 := hB2.cell 1
    have k2 := hB2.cell 2
    have k3 := hB2.cell 3
    have k4 := hB2.cell 4
    have k5 := hB2.cell 5
    have k6 := hB2.cell 6
    have hb2w := below_step (below_step hb0 hb1) hb2
    have hN2 := HN.out.on hb2w
    clear hw2 hB1
    rw [hgt]
    go_wp2_with fail
    go_ret2
    have hb3 : Below w2.heap.size w2 (w2.alloc (.cells (fullCs g gt tv pv uv ov (.slice none 0 0) (newP ⟨tg, po, us, sn, ss, lim, own⟩ rc name disc stat cmd)) 82)) := (Below.refl _ _).alloc (Nat.le_refl _) _
    have hlt := HN.out.lt
    have hgl := Blk.lt hG2
    have hgw : w.heap.size ≤ gt := by have := (below_step hb0 hb1).size; omega
    have hbz := hb2w.size
    have hw0 := hb.size
    refine ⟨.inr ⟨w2.heap.size, _, rfl, FullX.j (gn := g) (gt := gt) (Sn := Sn) (tv := tv) (pv := pv) (uv := uv) (ov := ov) (pc := .slice none 0 0) ⟨below_step (below_step hb hb2w) hb3, Blk.new w2 _ _, hN2.on hb3, Blk.below hG2 hb3 hgl, hc, rd_nil _ _, PcTy.zero, (fun k hk => by cases hk), by omega, by omega, hS, by omega, fun hm => by have := hlt _ hm; omega, fun hm => by have := hlt _ hm; omega,
      ⟨hsm, HR.out, hst, hcm, Nat.zero_le _, cright_new HR.out, hrc, hnm, Nat.zero_le _⟩⟩, fun k hk => ?_⟩, below_step hb2w hb3⟩
    simp only [fS, List.mem_cons] at hk
    rcases hk with rfl | rfl | hk
    · exact .inr hbz
    · exact .inr hgw
    · exact .inl hk
  · obtain ⟨t, y, rfl⟩ := right_iface HR.out her
    go_wp2_with fail
    go_ret2
    exact ⟨.inl ⟨by rw [HR.out]; simp, t, y, rfl⟩, below_step hb0 hb1⟩
def SessJs (tv pv uv ov : Value) (w0 w : World) (N : Prop) (c : Cfg) (offers : PairL) (disc : Bool) (stat cmd : Nat) (e : Ending) (w' : World) : Prop :=
  (N ∧ e = .returned (.pointer none)) ∨ ∃ f S, e = .returned (.pointer (some ⟨f, 0, none⟩)) ∧ FullJ tv pv uv ov w0 w' S f (sessP c offers disc stat cmd) ∧ ∀ k ∈ S, w.heap.size ≤ k
set_option maxRecDepth 20000 in
set_option maxHeartbeats 4000000 in
theorem session_j {w0 w : World} (c : Cfg) (tv pv uv ov : Value) (offers : PairL) (fv : Value) (disc : Bool) (stat cmd : Nat) (hc : CfgAt w0 tv pv uv ov c) (hsm : c.Small) (hb : Below w0.heap.size w0 w) (hof : SRd w fv 2 offers.length (pairCells offers)) (hd : ∀ p ∈ offers, psmall p) (V : Env w0) (hst : stat < 4294967296) (hcm : cmd < 4294967296) (Cb Tb : Bool → Prop)
    (hC : ∀ W, Below w0.heap.size w0 W → Calls Tryz.prog 47 #[cfgV tv pv uv ov c] W fun e w' => (∃ b, Cb b ∧ e = .returned (.bool b)) ∧ Below W.heap.size W w')
    (hT : ∀ W, SRd W fv 2 offers.length (pairCells offers) → Calls Tryz.prog 40 #[fv] W fun e w' => (∃ b, Tb b ∧ e = .returned (.bool b)) ∧ Below W.heap.size W w') :
    Calls Tryz.prog 12 #[cfgV tv pv uv ov c, fv, .bool disc, .int .u32 stat, .int .u32 cmd] w fun e w' => SessJs tv pv uv ov w0 w (Cb true ∨ Tb true ∨ cRight c ≠ none) c offers disc stat cmd e w' ∧ Below w.heap.size w w' := by
  obtain ⟨tg, po, us, sn, ss, lim, own⟩ := c
  obtain ⟨G0, hG0⟩ : ∃ G0, w.heap.size = G0 := ⟨_, rfl⟩
  have hb0 : Below w.heap.size w (w.alloc (.cells #[tv, pv, uv, .string sn, .string ss, .int .i64 lim, ov] 29)) := (Below.refl _ _).alloc (Nat.le_refl _) _
  have hB0 := Blk.new w 29 #[tv, pv, uv, .string sn, .string ss, .int .i64 lim, ov]
  obtain ⟨W0, hW0⟩ : ∃ W : World, w.alloc (.cells #[tv, pv, uv, .string sn, .string ss, .int .i64 lim, ov] 29) = W := ⟨_, rfl⟩
  rw [hW0] at hb0 hB0
  rw [hG0] at hB0
  have hbW := below_step hb hb0
  have Vw := V.on hb
  obtain ⟨hc1, hc2, hc3, hc4⟩ := hc
  obtain ⟨R, hR⟩ : ∃ R, nNewR own = R := ⟨_, rfl⟩
  have hnn := fun (W : World) (h : Below w0.heap.size w0 W) => nnew_any own ov W (hc4.on h) hsm.own (V.on h)
  rw [hR] at hnn
  have hnew := fun (W : World) (h : Below w0.heap.size w0 W) => fnew_j ⟨tg, po, us, sn, ss, lim, own⟩ tv pv uv ov (w := W) ⟨hc1, hc2, hc3, hc4⟩ hsm h V
  have hoff := fun (W : World) (h : Below w.heap.size w W) => hof.on h
  have HC := Lib.hid hC
  have HT := Lib.hid hT
  have HR := Lib.hid hR
  have HNN := Lib.hid hnn
  have HNEW := Lib.hid hnew
  have HOF := Lib.hid hof
  have HOD := Lib.hid hd
  clear hC hT hc1 hc2 hc3 hc4 hR hnn hnew hof hd
  have c0 := hB0.cell 0
  have c1 := hB0.cell 1
  have c2 := hB0.cell 2
  have c3 := hB0.cell 3
  have c4 := hB0.cell 4
  have c5 := hB0.cell 5
  have c6 := hB0.cell 6
  unfold cfgV at HC HNEW ⊢
  simp only at HC HNEW ⊢
  go_enter Tryz.func12, Tryz.ntmps12
  go_upto_region 1 with (fail)
  try refine wp_worldN hW0 ?_
  try rw [hG0]
  go_wp2_with fail
  refine (HC.out W0 hbW).mono ?_
  rintro e w1 ⟨⟨b, hcb, rfl⟩, hb1⟩
  have hb1w := below_step hb0 hb1
  rcases b with _ | _
  rotate_left
  · go_wp2_with fail
    go_ret
    exact ⟨.inl ⟨.inl hcb, rfl⟩, hb1w⟩
  have hB1 := hB0.below hb1 hB0.lt
  clear c0 c1 c2 c3 c4 c5 c6
  go_wp2_with fail
  refine (HT.out w1 (HOF.out.on hb1w)).mono ?_
  rintro e w2 ⟨⟨b, htb, rfl⟩, hb2⟩
  have hb2w := below_step hb1w hb2
  rcases b with _ | _
  rotate_left
  · go_wp2_with fail
    go_ret
    exact ⟨.inl ⟨.inr (.inl htb), rfl⟩, hb2w⟩
  have hB2 := hB1.below hb2 hB1.lt
  have k6 := hB2.cell 6
  have hbz2 := below_step hb hb2w
  go_wp2_with fail
  refine (HNN.out w2 hbz2).mono ?_
  rintro e w3 ⟨he, hb3⟩
  have hb3w := below_step hb2w hb3
  rcases R with _ | E
  rotate_left
  · obtain ⟨er, rfl, he⟩ := he
    obtain ⟨t, y, rfl⟩ := nnew_iface HR.out he
    go_wp2_with fail
    go_ret
    refine ⟨.inl ⟨.inr (.inr fun h => ?_), rfl⟩, hb3w⟩
    have := cright_new h
    rw [HR.out] at this
    cases this
  obtain ⟨gn, ov', rfl, hgn, hBn, hr, hne⟩ := he
  obtain ⟨S, hN, hS⟩ := NegoH.new hgn hBn hr hne
  have hS0 : ∀ k ∈ S, w.heap.size ≤ k := fun k hk => Nat.le_trans hb2w.size (hS k hk)
  have hB3 := hB2.below hb3 hB2.lt
  have hgS : G0 ∉ S := fun hm => by have h1 := hS _ hm; have h2 := hB2.lt; omega
  clear k6 hB0 hB1
  go_wp2_with fail
  refine (ans_argG gn S own [] offers true disc fv w w3 Vw hb3w hN hS0 HOF.out HOD.out HR.out (by simp)).mono ?_
  rintro e w4 he
  obtain ⟨S5, u5, er5, rfl, hu5, _, hN5, hnf5, hS5, _, _⟩ := ans_gen hN he
  obtain ⟨hb4w, hS50⟩ := ans_after hb3w hS0 hnf5 hS5
  have hB4 : Blk w4 G0 29 #[tv, pv, uv, .string sn, .string ss, .int .i64 lim, ov] := (hnf5.block G0 hB3.lt hgS).trans hB3
  have k0 := hB4.cell 0
  have k1 := hB4.cell 1
  have k2 := hB4.cell 2
  have k3 := hB4.cell 3
  have k4 := hB4.cell 4
  have k5 := hB4.cell 5
  have k6 := hB4.cell 6
  have hbz4 := below_step hb hb4w
  have hS00 : ∀ k ∈ S5, w0.heap.size ≤ k := fun k hk => Nat.le_trans hb.size (hS50 k hk)
  have hok : RecOk (ansRc own [] offers true disc) := RecOk.nil.ansRc
  clear he hu5 hnf5 hS5 hN hB3 hBn hr
  go_wp2_with fail
  refine (HNEW.out w4 hbz4 gn S5 _ hN5 hS00 hok _ (by decide) disc stat cmd hst hcm).mono ?_
  rintro e w5 ⟨hE, hb5⟩
  have hb5w := below_step hb4w hb5
  rcases hE with ⟨h1, t, y, rfl⟩ | ⟨f, S', rfl, hI, hS'⟩
  · go_wp2_with fail
    go_ret
    exact ⟨.inl ⟨.inr (.inr h1), rfl⟩, hb5w⟩
  · go_wp2_with fail
    go_ret
    refine ⟨.inr ⟨f, S', rfl, hI, fun k hk => ?_⟩, hb5w⟩
    rcases hS' k hk with h1 | h1
    · exact hS50 k h1
    · exact Nat.le_trans hb4w.size h1
/- keep.conf, afresh -/
end Go.Proofs.YtamlepacljjpiaaGreatDoor
