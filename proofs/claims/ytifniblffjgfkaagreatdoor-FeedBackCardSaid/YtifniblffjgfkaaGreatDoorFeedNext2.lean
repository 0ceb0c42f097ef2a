/- feed.Next where more data than may be is told; pieces. -/
import Derived.Test.YtifniblffjgfkaaGreatDoorFeedNext1
import Derived.Test.YtifniblffjgfkaaGreatDoorFeedP
import Derived.Deep.RegionHeld3
import Derived.IntWalk
namespace Go.Proofs.YtifniblffjgfkaaGreatDoor
open Go.ChangeShapes Go.WideShapes Go.ChangeAt Go.RowKit Go.Shelf
set_option linter.unusedVariables false
def pcC (p : Pc) (A B : Option Addr) (cap bcap : Nat) : Array Value := #[.int .i64 p.op, .bool p.now, .int .i64 p.fl, .slice A p.vals.length cap, .slice B p.al.length bcap, .string ⟨p.data.toArray⟩, .string ⟨p.sp.toArray⟩]
def PcAt (w : World) (base : Nat) (p : Pc) (A B : Option Addr) (cap bcap : Nat) : Prop :=
  SRd w (.slice A p.vals.length cap) 1 p.vals.length (p.vals.map u64V) ∧ SRd w (.slice B p.al.length bcap) 2 p.al.length (ahsCells p.al) ∧ (∀ a, A = some a → base ≤ a.block) ∧ (∀ a, B = some a → base ≤ a.block)
set_option maxRecDepth 100000 in
set_option maxHeartbeats 2000000 in
theorem fnext_limit (g : Nat) (K : ByteArray) (lim md : Nat) (w : World) (hB : FBlk w g K lim md .nilIface) (h48 : 48 ≤ K.size) (hKz : K.size ≤ 1000000) (hlim : lim < dataN K.data.toList) : Calls Tryz.prog 18 #[.pointer (some ⟨g, 0, none⟩)] w fun e w' =>
    e = .returned (.tuple #[.agg zeroPcC, .bool false, .iface 43 (.int .i64 4)]) ∧ FBlk w' g ⟨#[]⟩ lim md (.iface 43 (.int .i64 4)) ∧ Step g w w' := by
  have g5 : (5 : Int) < K.size := by omega
  have g6 : (6 : Int) < K.size := by omega
  have g7 : (7 : Int) < K.size := by omega
  have a5 : ((K[5]'(by omega)).toNat : Int) = ((rB K.data.toList 5 : Nat) : Int) := by rw [rB_at K 5 (by omega)]
  have a6 : ((K[6]'(by omega)).toNat : Int) = ((rB K.data.toList 6 : Nat) : Int) := by rw [rB_at K 6 (by omega)]
  have a7 : ((K[7]'(by omega)).toNat : Int) = ((rB K.data.toList 7 : Nat) : Int) := by rw [rB_at K 7 (by omega)]
  have hB5 := rB_lt K.data.toList 5
  have hB6 := rB_lt K.data.toList 6
  have hB7 := rB_lt K.data.toList 7
  have hor := or_data _ _ _ hB5 hB6 hB7
  have hDl := dataN_lt K.data.toList
  obtain ⟨D, hD⟩ : ∃ D, dataN K.data.toList = D := ⟨_, rfl⟩
  rw [hD] at hlim hDl
  unfold dataN at hD
  obtain ⟨B5, hb5⟩ : ∃ B, rB K.data.toList 5 = B := ⟨_, rfl⟩
  obtain ⟨B6, hb6⟩ : ∃ B, rB K.data.toList 6 = B := ⟨_, rfl⟩
  obtain ⟨B7, hb7⟩ : ∃ B, rB K.data.toList 7 = B := ⟨_, rfl⟩
  rw [hb5, hb6, hb7] at hD hor
  rw [hb5] at a5 hB5
  rw [hb6] at a6 hB6
  rw [hb7] at a7 hB7
  rw [hD] at hor
  have hKI : (48 : Int) ≤ K.size := by omega
  have hBa := Blk.alloc hB (.cells zeroPcC 40)
  have hb0 : Below w.heap.size w (w.alloc (.cells zeroPcC 40)) := (Below.refl _ _).alloc (Nat.le_refl _) _
  have hZ := Blk.new w 40 #[.int .i64 0, .bool false, .int .i64 0, .slice none 0 0, .slice none 0 0, .string ⟨#[]⟩, .string ⟨#[]⟩]
  have z0 := hZ.cell 0
  have z1 := hZ.cell 1
  have z2 := hZ.cell 2
  have z3 := hZ.cell 3
  have z4 := hZ.cell 4
  have z5 := hZ.cell 5
  have z6 := hZ.cell 6
  have y0 := hZ.frozen 0
  have y1 := hZ.frozen 1
  have y2 := hZ.frozen 2
  have y3 := hZ.frozen 3
  have y4 := hZ.frozen 4
  have y5 := hZ.frozen 5
  have y6 := hZ.frozen 6
  obtain ⟨c0, c1, c2, c3, f0, f2, f3⟩ := FBlk.cells hBa
  unfold zeroPcC at c0 c1 c2 c3 f0 f2 f3
  clear hb5 hb6 hb7
  have hlI : (lim : Int) < D := by omega
  have q1 : IntKind.i64.wrap (B5 : Int) = B5 := IntWalk.i64_in _ (by omega)
  have q2 : IntKind.i64.wrap ((B5 : Int) * 65536) = (B5 : Int) * 65536 := IntWalk.i64_in _ (by omega)
  have q3 : IntKind.i64.wrap (B6 : Int) = B6 := IntWalk.i64_in _ (by omega)
  have q4 : IntKind.i64.wrap ((B6 : Int) * 256) = (B6 : Int) * 256 := IntWalk.i64_in _ (by omega)
  have q5 : IntKind.i64.wrap (B7 : Int) = B7 := IntWalk.i64_in _ (by omega)
  have HD := Lib.hid hD
  clear hD hDl hlim
  obtain ⟨d0, d1, d2, d3, e0, e2, e3⟩ := FBlk.cells hB
  have hgl := Blk.lt hB
  have hne : w.heap.size ≠ g := by omega
  have hne2 : g ≠ w.heap.size := by omega
  go_enter Tryz.func18, Tryz.ntmps18
  go_wp2_with fail
  go_region_held3 (fun w' => w'.cell? ⟨g, 0, none⟩ = some (.string K)) (first | go_keep | exact d0 | exact c0) (fail)
  clear q1 q2 q3 q4 q5
  go_wp2_with fail
  all_goals
    obtain ⟨W1, hW1⟩ : ∃ W1 : World, (w.alloc (.cells #[.int .i64 0, .bool false, .int .i64 0, .slice none 0 0, .slice none 0 0, .string ⟨#[]⟩, .string ⟨#[]⟩] 40)).drew = W1 := ⟨_, rfl⟩
    obtain ⟨G, hG⟩ : ∃ G, w.heap.size = G := ⟨_, rfl⟩
    have hF1 : FBlk W1 g K lim md .nilIface := by rw [← hW1]; exact hBa
    have hZ1 : Blk W1 G 40 #[.int .i64 0, .bool false, .int .i64 0, .slice none 0 0, .slice none 0 0, .string ⟨#[]⟩, .string ⟨#[]⟩] := by rw [← hW1, ← hG]; exact hZ
    have hs1 : Step g w W1 := by rw [← hW1]; exact Step.of_below hb0.drew
    rw [hW1]
    try rw [hG]
    clear hW1 c0 c1 c2 c3 f0 f2 f3 d0 d1 d2 d3 e0 e2 e3 z0 z1 z2 z3 z4 z5 z6 y0 y1 y2 y3 y4 y5 y6 hBa hb0 hZ hB
    refine (ffail g K lim md 4 .nilIface _ hF1).mono ?_
    rintro e W2 ⟨rfl, hF2, hst⟩
    unfold zeroPcC
    have hgG : g ≠ G := by omega
    have hZ2 : Blk W2 G 40 #[.int .i64 0, .bool false, .int .i64 0, .slice none 0 0, .slice none 0 0, .string ⟨#[]⟩, .string ⟨#[]⟩] := (hst.block G (by omega) hZ1.lt).trans hZ1
    have hs2 := hs1.trans hst
    have z0 := hZ2.cell 0
    have z1 := hZ2.cell 1
    have z2 := hZ2.cell 2
    have z3 := hZ2.cell 3
    have z4 := hZ2.cell 4
    have z5 := hZ2.cell 5
    have z6 := hZ2.cell 6
    have y0 := hZ2.frozen 0
    have y1 := hZ2.frozen 1
    have y2 := hZ2.frozen 2
    have y3 := hZ2.frozen 3
    have y4 := hZ2.frozen 4
    have y5 := hZ2.frozen 5
    have y6 := hZ2.frozen 6
    have hwG : w.heap.size ≤ G := Nat.le_of_eq hG
    go_wp2_with fail
    refine bodyPost_ret (results_f3 rfl _ _ G _ _ _ _ _ rfl rfl rfl (put7_blk hZ2 _ _ _ _ _ _ _) Tryz.underlying40 rfl (by kernel_rfl)) rfl ⟨rfl, ?_, ?_⟩
    · exact put7_far hF2 hgG _ _ _ _ _ _ _
    · exact put7_step hs2 hwG _ _ _ _ _ _ _
end Go.Proofs.YtifniblffjgfkaaGreatDoor
