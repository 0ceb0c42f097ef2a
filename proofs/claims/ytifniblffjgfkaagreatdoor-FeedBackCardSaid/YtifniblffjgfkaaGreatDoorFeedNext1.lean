/- feed.fail, and feed.Next where nothing is read. -/
import Derived.Test.YtifniblffjgfkaaGreatDoorFeedOps
import Derived.Test.YtifniblffjgfkaaGreatDoorGpdu
import Derived.Test.YtifniblffjgfkaaGreatDoorGbase
import Derived.Deep.RegionHeld3
namespace Go.Proofs.YtifniblffjgfkaaGreatDoor
open Go.ChangeShapes Go.WideShapes Go.ChangeAt Go.RowKit Go.Shelf
set_option linter.unusedVariables false
theorem results_f3 {P : Program} {fn : Func} {p a b : Tmp} {ty : TypeId} (h : fn.results = #[.cell p ty, .tmp a, .tmp b]) (tmps : Array Value) (w : World) (g : Nat) (t : TypeId) (cs : Array Value) (d : TypeDesc) (va vb : Value)
    (hp : tmps.getD p undef = .pointer (some ⟨g, 0, none⟩)) (ha : tmps.getD a undef = va) (hb : tmps.getD b undef = vb) (hg : Blk w g t cs)
    (hu : P.underlying ty = some d) (hd : (match d with | .struct _ | .array _ _ => true | _ => false) = true) (hi : (P.info? ty).map (·.size) = some cs.size) :
    (results fn tmps).run P w = .ok (.tuple #[.agg cs, va, vb]) w := by
  have e : (results fn tmps).run P w = ((asAddr (tmps.getD p undef)).run P w).andThen fun x w₁ => ((loadVar ty x).run P w₁).andThen fun v w₂ => .ok (.tuple #[v, tmps.getD a undef, tmps.getD b undef]) w₂ := by
    simp only [results, h]
    simp [Sem.run_bind, Result.andThen]
  rw [e, hp, ha, hb]
  have := run_loadVar_row (P := P) w g t ty cs (0, 0) d hg hu hd hi
  simp [asAddr, this]
def put7 (w : World) (g : Nat) (a b c d e f k : Value) : World := ((((((w.setCell ⟨g, 0, none⟩ a).setCell ⟨g, 1, none⟩ b).setCell ⟨g, 2, none⟩ c).setCell ⟨g, 3, none⟩ d).setCell ⟨g, 4, none⟩ e).setCell ⟨g, 5, none⟩ f).setCell ⟨g, 6, none⟩ k
theorem put7_blk {w : World} {g : Nat} {t : TypeId} {a0 b0 c0 d0 e0 f0 k0 : Value} (h : Blk w g t #[a0, b0, c0, d0, e0, f0, k0]) (a b c d e f k : Value) : Blk (put7 w g a b c d e f k) g t #[a, b, c, d, e, f, k] := by
  have h1 : Blk _ g t #[a, b0, c0, d0, e0, f0, k0] := h.put 0 a
  have h2 : Blk _ g t #[a, b, c0, d0, e0, f0, k0] := h1.put 1 b
  have h3 : Blk _ g t #[a, b, c, d0, e0, f0, k0] := h2.put 2 c
  have h4 : Blk _ g t #[a, b, c, d, e0, f0, k0] := h3.put 3 d
  have h5 : Blk _ g t #[a, b, c, d, e, f0, k0] := h4.put 4 e
  have h6 : Blk _ g t #[a, b, c, d, e, f, k0] := h5.put 5 f
  have h7 : Blk _ g t #[a, b, c, d, e, f, k] := h6.put 6 k
  exact h7
theorem put7_far {w : World} {G g : Nat} {t : TypeId} {cs : Array Value} (h : Blk w g t cs) (hne : g ≠ G) (a b c d e f k : Value) : Blk (put7 w G a b c d e f k) g t cs :=
  ((((((h.far (p := ⟨G, 0, none⟩) hne a).far (p := ⟨G, 1, none⟩) hne b).far (p := ⟨G, 2, none⟩) hne c).far (p := ⟨G, 3, none⟩) hne d).far (p := ⟨G, 4, none⟩) hne e).far (p := ⟨G, 5, none⟩) hne f).far (p := ⟨G, 6, none⟩) hne k
theorem Step.setNew {g : Nat} {w W : World} (h : Step g w W) {p : Addr} (hp : w.heap.size ≤ p.block) (u : Value) : Step g w (W.setCell p u) :=
  ⟨h.os, h.tape, h.output, by simpa [World.setCell] using h.size, fun k hk hl => (Below.heap_setCell W p u k (by omega)).trans (h.block k hk hl)⟩
theorem put7_step {w W : World} {g G : Nat} (h : Step g w W) (hG : w.heap.size ≤ G) (a b c d e f k : Value) : Step g w (put7 W G a b c d e f k) :=
  ((((((h.setNew (p := ⟨G, 0, none⟩) hG a).setNew (p := ⟨G, 1, none⟩) hG b).setNew (p := ⟨G, 2, none⟩) hG c).setNew (p := ⟨G, 3, none⟩) hG d).setNew (p := ⟨G, 4, none⟩) hG e).setNew (p := ⟨G, 5, none⟩) hG f).setNew (p := ⟨G, 6, none⟩) hG k
theorem below_dF {B : Nat} {a w : World} (h : Below B a w) (k : Nat) : Below B a (w.drewN k) := h.trans ⟨rfl, rfl, rfl, Nat.le_refl _, fun _ _ => rfl⟩
set_option maxHeartbeats 2000000 in
set_option maxRecDepth 20000 in
theorem ffail (g : Nat) (K : ByteArray) (lim md c : Nat) (er : Value) (w : World) (hB : FBlk w g K lim md er) : Calls Tryz.prog 50 #[.pointer (some ⟨g, 0, none⟩), .int .i64 c] w fun e w' =>
    e = .returned (.tuple #[.agg zeroPcC, .bool false, .iface 43 (.int .i64 c)]) ∧ FBlk w' g ⟨#[]⟩ lim md (.iface 43 (.int .i64 c)) ∧ Step g w w' := by
  have hBa := Blk.alloc hB (.cells zeroPcC 40)
  obtain ⟨c0, c1, c2, c3, f0, f2, f3⟩ := FBlk.cells hBa
  unfold zeroPcC at c0 c1 c2 c3 f0 f2 f3
  obtain ⟨d0, d1, d2, d3, e0, e2, e3⟩ := FBlk.cells hB
  have hgl := Blk.lt hB
  have hZ := Blk.new w 40 #[.int .i64 0, .bool false, .int .i64 0, .slice none 0 0, .slice none 0 0, .string ⟨#[]⟩, .string ⟨#[]⟩]
  have hne : w.heap.size ≠ g := by omega
  have hne2 : g ≠ w.heap.size := by omega
  have hb0 : Below w.heap.size w (w.alloc (.cells #[.int .i64 0, .bool false, .int .i64 0, .slice none 0 0, .slice none 0 0, .string ⟨#[]⟩, .string ⟨#[]⟩] 40)) := (Below.refl _ _).alloc (Nat.le_refl _) _
  go_enter Tryz.func50, Tryz.ntmps50
  go_upto_region 2 with (fail)
  obtain ⟨W2, hW2⟩ : ∃ W2 : World, ((w.setCell ⟨g, 3, none⟩ (.iface 43 (.int .i64 c))).setCell ⟨g, 0, none⟩ (.string ⟨#[]⟩)).alloc (.cells #[.int .i64 0, .bool false, .int .i64 0, .slice none 0 0, .slice none 0 0, .string ⟨#[]⟩, .string ⟨#[]⟩] 40) = W2 := ⟨_, rfl⟩
  obtain ⟨G, hG⟩ : ∃ G, w.heap.size = G := ⟨_, rfl⟩
  have hZ2 : Blk W2 G 40 #[.int .i64 0, .bool false, .int .i64 0, .slice none 0 0, .slice none 0 0, .string ⟨#[]⟩, .string ⟨#[]⟩] := by
    rw [← hW2, ← hG]
    have h := Blk.new ((w.setCell ⟨g, 3, none⟩ (.iface 43 (.int .i64 c))).setCell ⟨g, 0, none⟩ (.string ⟨#[]⟩)) 40 #[.int .i64 0, .bool false, .int .i64 0, .slice none 0 0, .slice none 0 0, .string ⟨#[]⟩, .string ⟨#[]⟩]
    simpa [World.setCell] using h
  have hF2 : FBlk W2 g ⟨#[]⟩ lim md (.iface 43 (.int .i64 c)) := by
    rw [← hW2]
    exact Blk.alloc (Blk.put (Blk.put hB 3 _) 0 _) _
  have hst : Step g w W2 := by
    rw [← hW2]
    exact ((Step.setCell g 3 w _).trans (Step.setCell g 0 _ _)).trans (Step.of_below ((Below.refl _ _).alloc (Nat.le_refl _) _))
  rw [hW2]
  try rw [hG]
  have z0 := hZ2.cell 0
  have z1 := hZ2.cell 1
  have z2 := hZ2.cell 2
  have z3 := hZ2.cell 3
  have z4 := hZ2.cell 4
  have z5 := hZ2.cell 5
  have z6 := hZ2.cell 6
  have y0 := hZ2.frozen 0
  have y1 := hZ2.frozen 1
  have y2 := hZ2.frozen 2
  have y3 := hZ2.frozen 3
  have y4 := hZ2.frozen 4
  have y5 := hZ2.frozen 5
  have y6 := hZ2.frozen 6
  clear hW2 c0 c1 c2 c3 f0 f2 f3 hZ hBa hb0
  go_wp2_with fail
  have hgG : g ≠ G := by omega
  have hwG : w.heap.size ≤ G := Nat.le_of_eq hG
  refine bodyPost_ret (results_f3 rfl _ _ G _ _ _ _ _ rfl rfl rfl (put7_blk hZ2 _ _ _ _ _ _ _) Tryz.underlying40 rfl (by kernel_rfl)) rfl ⟨rfl, ?_, ?_⟩
  · exact put7_far hF2 hgG _ _ _ _ _ _ _
  · exact put7_step hst hwG _ _ _ _ _ _ _
theorem fnext_dead (g : Nat) (K : ByteArray) (lim md : Nat) (t : TypeId) (x : Value) (w : World) (hB : FBlk w g K lim md (.iface t x)) : Calls Tryz.prog 18 #[.pointer (some ⟨g, 0, none⟩)] w fun e w' =>
    e = .returned (.tuple #[.agg zeroPcC, .bool false, .nilIface]) ∧ Below w.heap.size w w' := by
  have hBa := Blk.alloc hB (.cells zeroPcC 40)
  have hZ := Blk.new w 40 #[.int .i64 0, .bool false, .int .i64 0, .slice none 0 0, .slice none 0 0, .string ⟨#[]⟩, .string ⟨#[]⟩]
  have z0 := hZ.cell 0
  have z1 := hZ.cell 1
  have z2 := hZ.cell 2
  have z3 := hZ.cell 3
  have z4 := hZ.cell 4
  have z5 := hZ.cell 5
  have z6 := hZ.cell 6
  have y0 := hZ.frozen 0
  have y1 := hZ.frozen 1
  have y2 := hZ.frozen 2
  have y3 := hZ.frozen 3
  have y4 := hZ.frozen 4
  have y5 := hZ.frozen 5
  have y6 := hZ.frozen 6
  obtain ⟨c0, c1, c2, c3, f0, f2, f3⟩ := FBlk.cells hBa
  unfold zeroPcC at c0 c1 c2 c3 f0 f2 f3
  obtain ⟨d0, d1, d2, d3, e0, e2, e3⟩ := FBlk.cells hB
  have hgl := Blk.lt hB
  have hne : w.heap.size ≠ g := by omega
  have hne2 : g ≠ w.heap.size := by omega
  go_enter Tryz.func18, Tryz.ntmps18
  go_wp2_with fail
  exact bodyPost_ret (results_f3 rfl _ _ w.heap.size _ _ _ _ _ rfl rfl rfl hZ Tryz.underlying40 rfl (by kernel_rfl)) rfl ⟨rfl, (Below.refl _ _).alloc (Nat.le_refl _) _⟩
theorem fnext_short (g : Nat) (K : ByteArray) (lim md : Nat) (w : World) (hB : FBlk w g K lim md .nilIface) (h : K.size < 48) : Calls Tryz.prog 18 #[.pointer (some ⟨g, 0, none⟩)] w fun e w' =>
    e = .returned (.tuple #[.agg zeroPcC, .bool false, .nilIface]) ∧ Below w.heap.size w w' := by
  have hBa := Blk.alloc hB (.cells zeroPcC 40)
  have hZ := Blk.new w 40 #[.int .i64 0, .bool false, .int .i64 0, .slice none 0 0, .slice none 0 0, .string ⟨#[]⟩, .string ⟨#[]⟩]
  have z0 := hZ.cell 0
  have z1 := hZ.cell 1
  have z2 := hZ.cell 2
  have z3 := hZ.cell 3
  have z4 := hZ.cell 4
  have z5 := hZ.cell 5
  have z6 := hZ.cell 6
  have y0 := hZ.frozen 0
  have y1 := hZ.frozen 1
  have y2 := hZ.frozen 2
  have y3 := hZ.frozen 3
  have y4 := hZ.frozen 4
  have y5 := hZ.frozen 5
  have y6 := hZ.frozen 6
  obtain ⟨c0, c1, c2, c3, f0, f2, f3⟩ := FBlk.cells hBa
  unfold zeroPcC at c0 c1 c2 c3 f0 f2 f3
  have hI : (K.size : Int) < 48 := by omega
  obtain ⟨d0, d1, d2, d3, e0, e2, e3⟩ := FBlk.cells hB
  have hgl := Blk.lt hB
  have hne : w.heap.size ≠ g := by omega
  have hne2 : g ≠ w.heap.size := by omega
  go_enter Tryz.func18, Tryz.ntmps18
  go_wp2_with fail
  exact bodyPost_ret (results_f3 rfl _ _ w.heap.size _ _ _ _ _ rfl rfl rfl hZ Tryz.underlying40 rfl (by kernel_rfl)) rfl ⟨rfl, (Below.refl _ _).alloc (Nat.le_refl _) _⟩
end Go.Proofs.YtifniblffjgfkaaGreatDoor
