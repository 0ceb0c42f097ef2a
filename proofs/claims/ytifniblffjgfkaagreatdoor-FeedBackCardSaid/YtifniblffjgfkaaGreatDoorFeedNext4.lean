/- feed.Next where what is read is wrong, and the reading as the walk wants it. -/
import Derived.Test.YtifniblffjgfkaaGreatDoorFeedNext3
namespace Go.Proofs.YtifniblffjgfkaaGreatDoor
open Go.ChangeShapes Go.WideShapes Go.ChangeAt Go.RowKit Go.Shelf
set_option linter.unusedVariables false
theorem step_store_blk {P : Program} (w : World) {ops : Array Oper} {o : Oper} {a : Act} {K : Act → World → Prop} {Q : Exit → Act → World → Prop} {E : Prop} (hgd : o.guard = none) (ty : TypeId) (x y : Operand) (ho : o.op = .store ty x y)
    (g : Nat) (cells : Array Value) (hx : a.eval x = .pointer (some ⟨g, 0, none⟩)) (hy : a.eval y = .agg cells) (t : TypeId) (old : Array Value) (hg : Blk w g t old) (hi : (P.info? ty).map (·.size) = some cells.size)
    (hold : old.size = cells.size) (h1 : cells.all (·.oneCell') = true)
    (h : ∀ w', Blk w' g t cells → (∀ {B : Nat} {b : World}, Below B b w → B ≤ g → Below B b w') → K (a.put o.dst undef) w') : if Region.wanted o (yielded ops a.tmps) = true then Oper.wp P o a w K Q else E := by
  rw [if_pos (by simp [Region.wanted, hgd])]
  refine wp_store_row ty x y ho g cells hx hy t old hg hi hold h1 (h _ ?_ ?_)
  · exact setRow_heap w g old cells t _ hg
  · intro B b hb hB
    exact below_setRow hb hB _
theorem readQ_bad (s : ByteArray) (k c : Nat) (w : World) (hE : prE s.data.toList (hdM k) (ddM k) = some c) (hk : k < 4) (hs : s.size ≤ 1000000) (hL : LaidE w) (T : Tabs w) (hS : w.ShapedOpen Tryz.prog) :
    Calls Tryz.prog 52 #[.string s, .int .i64 k] w fun e w' => e = .returned (.tuple #[.agg #[.int .i64 0, .bool false, .int .i64 0, .slice none 0 0, .slice none 0 0, .string ⟨#[]⟩], .int .i64 0, .iface 43 (.int .i64 c)]) ∧ Below w.heap.size w w' := by
  refine (pduRead_any s k w hk hs hL T hS).mono ?_
  rintro e w' ⟨h, hb⟩
  unfold pduIs at h
  rw [hE] at h
  exact ⟨h, hb⟩
theorem readQ_ok (s : ByteArray) (k N : Nat) (p : Pc) (w : World) (hE : prE s.data.toList (hdM k) (ddM k) = none) (hN : allN s.data.toList (hdM k) (ddM k) = N) (hp : okPc s.data.toList (hdM k) = p) (hk : k < 4) (hs : s.size ≤ 1000000) (hL : LaidE w) (T : Tabs w) (hS : w.ShapedOpen Tryz.prog) :
    Calls Tryz.prog 52 #[.string s, .int .i64 k] w fun e w' => ∃ A cap B bcap, e = .returned (.tuple #[.agg #[.int .i64 p.op, .bool p.now, .int .i64 p.fl, .slice A p.vals.length cap, .slice B p.al.length bcap, .string ⟨p.data.toArray⟩], .int .i64 N, .nilIface]) ∧ PcAt w' w.heap.size p A B cap bcap ∧ p.sp = [] ∧ Below w.heap.size w w' := by
  refine (pduRead_any s k w hk hs hL T hS).mono ?_
  rintro e w' ⟨h, hb⟩
  unfold pduIs at h
  rw [hE] at h
  obtain ⟨r, A, cap, al, B, bcap, h1, h2, he, h3, h4, h5⟩ := h
  unfold okPc at hp
  rw [h1, h2] at hp
  simp only at hp
  subst hp
  subst hN
  refine ⟨A, cap, B, bcap, he, ⟨h3, ?_, h5, ?_⟩, rfl, hb⟩
  · exact SRd.of_m h4
  · obtain ⟨B2, b2, hv, _, _, hc⟩ := h4.form
    injection hv with e1
    intro b hb'
    exact (hc b (e1 ▸ hb')).2.2.1
set_option maxRecDepth 100000 in
set_option maxHeartbeats 8000000 in
theorem fnext_bad (g : Nat) (K : ByteArray) (lim md N c : Nat) (w : World) (hB : FBlk w g K lim md .nilIface) (h48 : 48 ≤ K.size) (hKz : K.size ≤ 1000000) (hmd : md < 4) (hlim : dataN K.data.toList ≤ lim) (hN : Hid (allN K.data.toList (hdM md) (ddM md) = N)) (hge : N ≤ K.size)
    (hE : Hid (prE (K.extract 0 N).data.toList (hdM md) (ddM md) = some c)) (hc : c ≠ 13) (hc0 : c ≠ 0) (hL : LaidE w) (T : Tabs w) (hS : w.ShapedOpen Tryz.prog) : Calls Tryz.prog 18 #[.pointer (some ⟨g, 0, none⟩)] w fun e w' =>
    e = .returned (.tuple #[.agg zeroPcC, .bool false, .iface 43 (.int .i64 c)]) ∧ FBlk w' g ⟨#[]⟩ lim md (.iface 43 (.int .i64 c)) ∧ Step g w w' := by
  have g5 : (5 : Int) < K.size := by omega
  have g6 : (6 : Int) < K.size := by omega
  have g7 : (7 : Int) < K.size := by omega
  have a5 : ((K[5]'(by omega)).toNat : Int) = ((rB K.data.toList 5 : Nat) : Int) := by rw [rB_at K 5 (by omega)]
  have a6 : ((K[6]'(by omega)).toNat : Int) = ((rB K.data.toList 6 : Nat) : Int) := by rw [rB_at K 6 (by omega)]
  have a7 : ((K[7]'(by omega)).toNat : Int) = ((rB K.data.toList 7 : Nat) : Int) := by rw [rB_at K 7 (by omega)]
  have hB5 := rB_lt K.data.toList 5
  have hB6 := rB_lt K.data.toList 6
  have hB7 := rB_lt K.data.toList 7
  have hor := or_data _ _ _ hB5 hB6 hB7
  have hDl := dataN_lt K.data.toList
  obtain ⟨D, hD⟩ : ∃ D, dataN K.data.toList = D := ⟨_, rfl⟩
  rw [hD] at hlim hDl
  unfold dataN at hD
  obtain ⟨B5, hb5⟩ : ∃ B, rB K.data.toList 5 = B := ⟨_, rfl⟩
  obtain ⟨B6, hb6⟩ : ∃ B, rB K.data.toList 6 = B := ⟨_, rfl⟩
  obtain ⟨B7, hb7⟩ : ∃ B, rB K.data.toList 7 = B := ⟨_, rfl⟩
  rw [hb5, hb6, hb7] at hD hor
  rw [hb5] at a5 hB5
  rw [hb6] at a6 hB6
  rw [hb7] at a7 hB7
  rw [hD] at hor
  have hKI : (48 : Int) ≤ K.size := by omega
  have hd48 : decide ((K.size : Int) < 48) = false := by simp; omega
  have hBa := Blk.alloc hB (.cells zeroPcC 40)
  have hb0 : Below w.heap.size w (w.alloc (.cells zeroPcC 40)) := (Below.refl _ _).alloc (Nat.le_refl _) _
  have hZ := Blk.new w 40 #[.int .i64 0, .bool false, .int .i64 0, .slice none 0 0, .slice none 0 0, .string ⟨#[]⟩, .string ⟨#[]⟩]
  have z0 := hZ.cell 0
  have z1 := hZ.cell 1
  have z2 := hZ.cell 2
  have z3 := hZ.cell 3
  have z4 := hZ.cell 4
  have z5 := hZ.cell 5
  have z6 := hZ.cell 6
  have y0 := hZ.frozen 0
  have y1 := hZ.frozen 1
  have y2 := hZ.frozen 2
  have y3 := hZ.frozen 3
  have y4 := hZ.frozen 4
  have y5 := hZ.frozen 5
  have y6 := hZ.frozen 6
  obtain ⟨c0, c1, c2, c3, f0, f2, f3⟩ := FBlk.cells hBa
  unfold zeroPcC at c0 c1 c2 c3 f0 f2 f3
  clear hb5 hb6 hb7
  have hlI : (D : Int) ≤ lim := by omega
  have hdl : decide ((lim : Int) < (D : Int)) = false := by simp; omega
  have q1 : IntKind.i64.wrap (B5 : Int) = B5 := IntWalk.i64_in _ (by omega)
  have q2 : IntKind.i64.wrap ((B5 : Int) * 65536) = (B5 : Int) * 65536 := IntWalk.i64_in _ (by omega)
  have q3 : IntKind.i64.wrap (B6 : Int) = B6 := IntWalk.i64_in _ (by omega)
  have q4 : IntKind.i64.wrap ((B6 : Int) * 256) = (B6 : Int) * 256 := IntWalk.i64_in _ (by omega)
  have q5 : IntKind.i64.wrap (B7 : Int) = B7 := IntWalk.i64_in _ (by omega)
  have HD := Lib.hid hD
  clear hD hDl hlim
  obtain ⟨d0, d1, d2, d3, e0, e2, e3⟩ := FBlk.cells hB
  have hgl := Blk.lt hB
  have hne : w.heap.size ≠ g := by omega
  have hne2 : g ≠ w.heap.size := by omega
  go_enter Tryz.func18, Tryz.ntmps18
  go_wp2_with fail
  go_quiet (fail)
  clear q1 q2 q3 q4 q5
  go_wp2_with fail
  all_goals
    obtain ⟨W1, hW1⟩ : ∃ W1 : World, (w.alloc (.cells #[.int .i64 0, .bool false, .int .i64 0, .slice none 0 0, .slice none 0 0, .string ⟨#[]⟩, .string ⟨#[]⟩] 40)).drewN nq = W1 := ⟨_, rfl⟩
    obtain ⟨G, hG⟩ : ∃ G, w.heap.size = G := ⟨_, rfl⟩
    have hF1 : FBlk W1 g K lim md .nilIface := by rw [← hW1]; exact Blk.drewN hBa nq
    have hZ1 : Blk W1 G 40 #[.int .i64 0, .bool false, .int .i64 0, .slice none 0 0, .slice none 0 0, .string ⟨#[]⟩, .string ⟨#[]⟩] := by rw [← hW1, ← hG]; exact Blk.drewN hZ nq
    have hb1 : Below w.heap.size w W1 := by rw [← hW1]; exact below_dF hb0 nq
    refine wp_worldF hW1 ?_
    try rw [hG]
    clear hW1 c0 c1 c2 c3 f0 f2 f3 d0 d1 d2 d3 e0 e2 e3 z0 z1 z2 z3 z4 z5 z6 y0 y1 y2 y3 y4 y5 y6 hBa hb0 hZ hB
    obtain ⟨c0, c1, c2, c3, f0, f2, f3⟩ := FBlk.cells hF1
    have hg1 := Blk.lt hF1
    go_region_held3 (fun w' => w'.cell? ⟨g, 0, none⟩ = some (.string K) ∧ w'.cell? ⟨g, 2, none⟩ = some (.int .i64 md)) (first | go_keep | exact ⟨c0, c2⟩ | exact k02) ((go_at_call 51; refine (sizeN K md N _ hmd h48 hKz hN.out).mono ?_; rintro e W2 ⟨rfl, hb2⟩; have k02 := And.intro ((hb2.cell (p := ⟨g, 0, none⟩) hg1).trans c0) ((hb2.cell (p := ⟨g, 2, none⟩) hg1).trans c2)))
    have hF2 := Blk.below (Blk.drew hF1) hb2 hg1
    have hZ2 := hZ1.drew.below hb2 hZ1.lt
    have hbw2 : Below w.heap.size w W2 := below_step hb1.drew hb2
    clear k02 c0 c1 c2 c3 f0 f2 f3
    obtain ⟨c0, c1, c2, c3, f0, f2, f3⟩ := FBlk.cells hF2
    have z0 := hZ2.cell 0
    have z1 := hZ2.cell 1
    have z2 := hZ2.cell 2
    have z3 := hZ2.cell 3
    have z4 := hZ2.cell 4
    have z5 := hZ2.cell 5
    have z6 := hZ2.cell 6
    have y0 := hZ2.frozen 0
    have y1 := hZ2.frozen 1
    have y2 := hZ2.frozen 2
    have y3 := hZ2.frozen 3
    have y4 := hZ2.frozen 4
    have y5 := hZ2.frozen 5
    have y6 := hZ2.frozen 6
    have hNI : (N : Int) ≤ K.size := by omega
    have hdN : decide ((K.size : Int) < (N : Int)) = false := by simp; omega
    have hXz : (K.extract 0 N).size ≤ 1000000 := Nat.le_trans (size_ext _ _ _) hKz
    have hS2 := shaped_ons hS hbw2
    have hL2 := hL.on hbw2
    have T2 := T.on hbw2
    have hg2 := Blk.lt hF2
    go_wp2_with fail
    have hbA : Below W2.heap.size W2 W2.drew := (Below.refl _ _).drew
    have hbB : Below W2.heap.size W2 (W2.alloc (.cells #[.int .i64 0, .bool false, .int .i64 0, .slice none 0 0, .slice none 0 0, .string ⟨#[]⟩] 38)).drew := ((Below.refl _ _).alloc (Nat.le_refl _) _).drew
    have hgW : g ≠ W2.heap.size := by omega
    have hgW' := hgW.symm
    go_region_held3 (fun w' => w'.cell? ⟨g, 0, none⟩ = some (.string K) ∧ w'.cell? ⟨g, 2, none⟩ = some (.int .i64 md)) (first | go_keep | (with_reducible exact ⟨c0, c2⟩) | (with_reducible exact k02)) ((first | (go_at_call 52; with_reducible refine (readQ_bad (K.extract 0 N) md c _ hE.out hmd hXz (hL2.on hbB) (T2.on hbB) (shaped_ons hS2 hbB)).mono ?_; rintro e W3 ⟨rfl, hb3⟩; have hb23 := below_step hbB hb3; have hgW3 : g ≠ W3.heap.size := (by have := hb23.size; omega); have hgW3' := hgW3.symm; have k02 := And.intro ((hb23.cell (p := ⟨g, 0, none⟩) hg2).trans c0) ((hb23.cell (p := ⟨g, 2, none⟩) hg2).trans c2); have hZZ : Blk W3 W2.heap.size 38 #[.int .i64 0, .bool false, .int .i64 0, .slice none 0 0, .slice none 0 0, .string ⟨#[]⟩] := Blk.below (Blk.drew (Blk.new W2 38 #[.int .i64 0, .bool false, .int .i64 0, .slice none 0 0, .slice none 0 0, .string ⟨#[]⟩])) hb3 (Blk.lt (Blk.drew (Blk.new W2 38 #[.int .i64 0, .bool false, .int .i64 0, .slice none 0 0, .slice none 0 0, .string ⟨#[]⟩]))); have zz0 := Blk.cell hZZ 0; have yy0 := Blk.frozen hZZ 0; have zz1 := Blk.cell hZZ 1; have yy1 := Blk.frozen hZZ 1; have zz2 := Blk.cell hZZ 2; have yy2 := Blk.frozen hZZ 2; have zz3 := Blk.cell hZZ 3; have yy3 := Blk.frozen hZZ 3; have zz4 := Blk.cell hZZ 4; have yy4 := Blk.frozen hZZ 4; have zz5 := Blk.cell hZZ 5; have yy5 := Blk.frozen hZZ 5) | (go_at_call 52; with_reducible refine (readQ_bad (K.extract 0 N) md c _ hE.out hmd hXz (hL2.on hbA) (T2.on hbA) (shaped_ons hS2 hbA)).mono ?_; rintro e W3 ⟨rfl, hb3⟩; have hb23 := below_step hbA hb3; have hgW3 : g ≠ W3.heap.size := (by have := hb23.size; omega); have hgW3' := hgW3.symm; have k02 := And.intro ((hb23.cell (p := ⟨g, 0, none⟩) hg2).trans c0) ((hb23.cell (p := ⟨g, 2, none⟩) hg2).trans c2))))
    any_goals (obtain ⟨W4, hW4⟩ : ∃ W4 : World, W3.alloc (.cells #[.int .i64 0, .bool false, .int .i64 0, .slice none 0 0, .slice none 0 0, .string ⟨#[]⟩] 38) = W4 := ⟨_, rfl⟩; rw [hW4]; have hB4 : Below W2.heap.size W2 W4 := (by rw [← hW4]; exact hb23.alloc hb23.size _); have hZP : Blk W4 W3.heap.size 38 #[.int .i64 0, .bool false, .int .i64 0, .slice none 0 0, .slice none 0 0, .string ⟨#[]⟩] := (by rw [← hW4]; exact Blk.new W3 38 #[.int .i64 0, .bool false, .int .i64 0, .slice none 0 0, .slice none 0 0, .string ⟨#[]⟩]); obtain ⟨GP, hGP⟩ : ∃ GP, W3.heap.size = GP := ⟨_, rfl⟩; try rw [hGP]; rw [hGP] at hZP; clear hW4 hGP)
    any_goals (obtain ⟨W4, hW4⟩ : ∃ W4 : World, put6 W3 W2.heap.size (.int .i64 0) (.bool false) (.int .i64 0) (.slice none 0 0) (.slice none 0 0) (.string ⟨#[]⟩) = W4 := ⟨_, rfl⟩; unfold put6 at hW4; rw [hW4]; have hB4 : Below W2.heap.size W2 W4 := (by rw [← hW4]; exact put6_below hb23 (Nat.le_refl _) _ _ _ _ _ _); have hZP : Blk W4 W2.heap.size 38 #[.int .i64 0, .bool false, .int .i64 0, .slice none 0 0, .slice none 0 0, .string ⟨#[]⟩] := (by rw [← hW4]; exact put6_blk hZZ _ _ _ _ _ _); obtain ⟨GP, hGP⟩ : ∃ GP, W2.heap.size = GP := ⟨_, rfl⟩; try rw [hGP]; rw [hGP] at hZP; clear hW4 hGP)
    all_goals
      have hF4 := Blk.below hF2 hB4 hg2
      have hZ4 := Blk.below hZ2 hB4 hZ2.lt
      have hbw4 := below_step hbw2 hB4
      have k13 : ((c : Int) == 13) = false := by simp; omega
      have k0 : ((c : Int) != 0) = true := by simp; omega
      clear k02 c0 c1 c2 c3 f0 f2 f3 z0 z1 z2 z3 z4 z5 z6 y0 y1 y2 y3 y4 y5 y6 hF2 hZ2 hF1 hZ1
      try clear zz0 zz1 zz2 zz3 zz4 zz5 yy0 yy1 yy2 yy3 yy4 yy5 hZZ
      go_wp2_with fail
      refine (tell_errno c _ (hL.on hbw4)).mono ?_
      rintro e W5 ⟨rfl, hb5⟩
      have hF5 := Blk.below hF4 hb5 hF4.lt
      have hZ5 := Blk.below hZ4 hb5 hZ4.lt
      have hbw5 := below_step hbw4 hb5
      go_wp2_with fail
      refine (ffail g K lim md c .nilIface _ hF5).mono ?_
      rintro e W6 ⟨rfl, hF6, hst⟩
      unfold zeroPcC
      have hgG : g ≠ G := by omega
      have hZ6 : Blk W6 G 40 #[.int .i64 0, .bool false, .int .i64 0, .slice none 0 0, .slice none 0 0, .string ⟨#[]⟩, .string ⟨#[]⟩] := (hst.block G (by omega) hZ5.lt).trans hZ5
      have hs6 : Step g w W6 := (Step.of_below hbw5).trans hst
      have z0 := hZ6.cell 0
      have z1 := hZ6.cell 1
      have z2 := hZ6.cell 2
      have z3 := hZ6.cell 3
      have z4 := hZ6.cell 4
      have z5 := hZ6.cell 5
      have z6 := hZ6.cell 6
      have y0 := hZ6.frozen 0
      have y1 := hZ6.frozen 1
      have y2 := hZ6.frozen 2
      have y3 := hZ6.frozen 3
      have y4 := hZ6.frozen 4
      have y5 := hZ6.frozen 5
      have y6 := hZ6.frozen 6
      go_wp2_with fail
      refine bodyPost_ret (results_f3 rfl _ _ G _ _ _ _ _ rfl rfl rfl (put7_blk hZ6 _ _ _ _ _ _ _) Tryz.underlying40 rfl (by kernel_rfl)) rfl ⟨rfl, ?_, ?_⟩
      · exact put7_far hF6 hgG _ _ _ _ _ _ _
      · exact put7_step hs6 (Nat.le_of_eq hG) _ _ _ _ _ _ _
end Go.Proofs.YtifniblffjgfkaaGreatDoor
