/- feed.Next where a PDU is not there yet (under way). -/
import Derived.Test.YtifniblffjgfkaaGreatDoorFeedNext2
import Derived.Test.YtifniblffjgfkaaGreatDoorFeedP
import Derived.Deep.RegionHeld3
import Derived.IntWalk
namespace Go.Proofs.YtifniblffjgfkaaGreatDoor
open Go.ChangeShapes Go.WideShapes Go.ChangeAt Go.RowKit Go.Shelf
set_option linter.unusedVariables false
theorem wp_worldF {P : Program} {c : Code} {Q : Exit → Act → World → Prop} {a : Act} {w w' : World} (h : w = w') (hw : c.wp P Q a w') : c.wp P Q a w := by rw [h]; exact hw
theorem put7_below {w w1 : World} {g n : Nat} (h : Below n w w1) (hn : n ≤ g) (a b c d e f k : Value) : Below n w (put7 w1 g a b c d e f k) :=
  ((((((h.setCell hn a).setCell hn b).setCell hn c).setCell hn d).setCell hn e).setCell hn f).setCell hn k
theorem sizeN (s : ByteArray) (k N : Nat) (w : World) (hk : k < 4) (h48 : 48 ≤ s.size) (hs : s.size ≤ 1000000) (hN : allN s.data.toList (hdM k) (ddM k) = N) : Calls Tryz.prog 51 #[.string s, .int .i64 k] w fun e w' => e = .returned (.tuple #[.int .i64 N, .nilIface]) ∧ Below w.heap.size w w' := by
  rw [← hN]
  exact size_ok s k w hk h48 hs
set_option maxRecDepth 100000 in
set_option maxHeartbeats 2000000 in
theorem fnext_wait (g : Nat) (K : ByteArray) (lim md N : Nat) (w : World) (hB : FBlk w g K lim md .nilIface) (h48 : 48 ≤ K.size) (hKz : K.size ≤ 1000000) (hmd : md < 4) (hlim : dataN K.data.toList ≤ lim) (hN : Hid (allN K.data.toList (hdM md) (ddM md) = N)) (hlt : K.size < N) : Calls Tryz.prog 18 #[.pointer (some ⟨g, 0, none⟩)] w fun e w' =>
    e = .returned (.tuple #[.agg zeroPcC, .bool false, .nilIface]) ∧ Below w.heap.size w w' := by
  have g5 : (5 : Int) < K.size := by omega
  have g6 : (6 : Int) < K.size := by omega
  have g7 : (7 : Int) < K.size := by omega
  have a5 : ((K[5]'(by omega)).toNat : Int) = ((rB K.data.toList 5 : Nat) : Int) := by rw [rB_at K 5 (by omega)]
  have a6 : ((K[6]'(by omega)).toNat : Int) = ((rB K.data.toList 6 : Nat) : Int) := by rw [rB_at K 6 (by omega)]
  have a7 : ((K[7]'(by omega)).toNat : Int) = ((rB K.data.toList 7 : Nat) : Int) := by rw [rB_at K 7 (by omega)]
  have hB5 := rB_lt K.data.toList 5
  have hB6 := rB_lt K.data.toList 6
  have hB7 := rB_lt K.data.toList 7
  have hor := or_data _ _ _ hB5 hB6 hB7
  have hDl := dataN_lt K.data.toList
  obtain ⟨D, hD⟩ : ∃ D, dataN K.data.toList = D := ⟨_, rfl⟩
  rw [hD] at hlim hDl
  unfold dataN at hD
  obtain ⟨B5, hb5⟩ : ∃ B, rB K.data.toList 5 = B := ⟨_, rfl⟩
  obtain ⟨B6, hb6⟩ : ∃ B, rB K.data.toList 6 = B := ⟨_, rfl⟩
  obtain ⟨B7, hb7⟩ : ∃ B, rB K.data.toList 7 = B := ⟨_, rfl⟩
  rw [hb5, hb6, hb7] at hD hor
  rw [hb5] at a5 hB5
  rw [hb6] at a6 hB6
  rw [hb7] at a7 hB7
  rw [hD] at hor
  have hKI : (48 : Int) ≤ K.size := by omega
  have hBa := Blk.alloc hB (.cells zeroPcC 40)
  have hb0 : Below w.heap.size w (w.alloc (.cells zeroPcC 40)) := (Below.refl _ _).alloc (Nat.le_refl _) _
  have hZ := Blk.new w 40 #[.int .i64 0, .bool false, .int .i64 0, .slice none 0 0, .slice none 0 0, .string ⟨#[]⟩, .string ⟨#[]⟩]
  have z0 := hZ.cell 0
  have z1 := hZ.cell 1
  have z2 := hZ.cell 2
  have z3 := hZ.cell 3
  have z4 := hZ.cell 4
  have z5 := hZ.cell 5
  have z6 := hZ.cell 6
  have y0 := hZ.frozen 0
  have y1 := hZ.frozen 1
  have y2 := hZ.frozen 2
  have y3 := hZ.frozen 3
  have y4 := hZ.frozen 4
  have y5 := hZ.frozen 5
  have y6 := hZ.frozen 6
  obtain ⟨c0, c1, c2, c3, f0, f2, f3⟩ := FBlk.cells hBa
  unfold zeroPcC at c0 c1 c2 c3 f0 f2 f3
  clear hb5 hb6 hb7
  have hlI : (D : Int) ≤ lim := by omega
  have q1 : IntKind.i64.wrap (B5 : Int) = B5 := IntWalk.i64_in _ (by omega)
  have q2 : IntKind.i64.wrap ((B5 : Int) * 65536) = (B5 : Int) * 65536 := IntWalk.i64_in _ (by omega)
  have q3 : IntKind.i64.wrap (B6 : Int) = B6 := IntWalk.i64_in _ (by omega)
  have q4 : IntKind.i64.wrap ((B6 : Int) * 256) = (B6 : Int) * 256 := IntWalk.i64_in _ (by omega)
  have q5 : IntKind.i64.wrap (B7 : Int) = B7 := IntWalk.i64_in _ (by omega)
  have HD := Lib.hid hD
  clear hD hDl hlim
  obtain ⟨d0, d1, d2, d3, e0, e2, e3⟩ := FBlk.cells hB
  have hgl := Blk.lt hB
  have hne : w.heap.size ≠ g := by omega
  have hne2 : g ≠ w.heap.size := by omega
  go_enter Tryz.func18, Tryz.ntmps18
  go_wp2_with fail
  go_region_held3 (fun w' => w'.cell? ⟨g, 0, none⟩ = some (.string K)) (first | go_keep | exact d0 | exact c0) (fail)
  clear q1 q2 q3 q4 q5
  go_wp2_with fail
  all_goals
    obtain ⟨W1, hW1⟩ : ∃ W1 : World, (w.alloc (.cells #[.int .i64 0, .bool false, .int .i64 0, .slice none 0 0, .slice none 0 0, .string ⟨#[]⟩, .string ⟨#[]⟩] 40)).drew = W1 := ⟨_, rfl⟩
    obtain ⟨G, hG⟩ : ∃ G, w.heap.size = G := ⟨_, rfl⟩
    have hF1 : FBlk W1 g K lim md .nilIface := by rw [← hW1]; exact hBa
    have hZ1 : Blk W1 G 40 #[.int .i64 0, .bool false, .int .i64 0, .slice none 0 0, .slice none 0 0, .string ⟨#[]⟩, .string ⟨#[]⟩] := by rw [← hW1, ← hG]; exact hZ
    have hb1 : Below w.heap.size w W1 := by rw [← hW1]; exact hb0.drew
    refine wp_worldF hW1 ?_
    try rw [hG]
    have hNI : (K.size : Int) < N := by omega
    clear hW1 c0 c1 c2 c3 f0 f2 f3 d0 d1 d2 d3 e0 e2 e3 z0 z1 z2 z3 z4 z5 z6 y0 y1 y2 y3 y4 y5 y6 hBa hb0 hZ hB
    obtain ⟨c0, c1, c2, c3, f0, f2, f3⟩ := FBlk.cells hF1
    have hg1 := Blk.lt hF1
    go_region_held3 (fun w' => w'.cell? ⟨g, 0, none⟩ = some (.string K) ∧ w'.cell? ⟨g, 2, none⟩ = some (.int .i64 md)) (first | go_keep | exact ⟨c0, c2⟩ | exact k02) ((go_at_call 51; refine (sizeN K md N _ hmd h48 hKz hN.out).mono ?_; rintro e W2 ⟨rfl, hb2⟩; have k02 := And.intro ((hb2.cell (p := ⟨g, 0, none⟩) hg1).trans c0) ((hb2.cell (p := ⟨g, 2, none⟩) hg1).trans c2)))
    have hF2 := Blk.below (Blk.drew hF1) hb2 hg1
    have hZ2 := hZ1.drew.below hb2 hZ1.lt
    have hbw2 : Below w.heap.size w W2 := below_step hb1.drew hb2
    obtain ⟨j0, j1, j2, j3, _, _, _⟩ := FBlk.cells hF2
    have z0 := hZ2.cell 0
    have z1 := hZ2.cell 1
    have z2 := hZ2.cell 2
    have z3 := hZ2.cell 3
    have z4 := hZ2.cell 4
    have z5 := hZ2.cell 5
    have z6 := hZ2.cell 6
    have y0 := hZ2.frozen 0
    have y1 := hZ2.frozen 1
    have y2 := hZ2.frozen 2
    have y3 := hZ2.frozen 3
    have y4 := hZ2.frozen 4
    have y5 := hZ2.frozen 5
    have y6 := hZ2.frozen 6
    go_wp2_with fail
    refine bodyPost_ret (results_f3 rfl _ _ G _ _ _ _ _ rfl rfl rfl (put7_blk hZ2 _ _ _ _ _ _ _) Tryz.underlying40 rfl (by kernel_rfl)) rfl ⟨rfl, ?_⟩
    exact put7_below hbw2 (Nat.le_of_eq hG) _ _ _ _ _ _ _
end Go.Proofs.YtifniblffjgfkaaGreatDoor
