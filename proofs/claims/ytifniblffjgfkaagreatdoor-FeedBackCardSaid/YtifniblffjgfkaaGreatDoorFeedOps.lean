/- The contracts of package feed: New, Mode, Put, Kept. -/
import Derived.Test.YtifniblffjgfkaaGreatDoorGpdu
namespace Go.Proofs.YtifniblffjgfkaaGreatDoor
open Go.ChangeShapes Go.WideShapes Go.ChangeAt Go.RowKit Go.Shelf
set_option linter.unusedVariables false
def FBlk (w : World) (g : Nat) (K : ByteArray) (lim md : Nat) (er : Value) : Prop := Blk w g 99 #[.string K, .int .i64 lim, .int .i64 md, er]
theorem FBlk.cells {w : World} {g : Nat} {K : ByteArray} {lim md : Nat} {er : Value} (h : FBlk w g K lim md er) : w.cell? ⟨g, 0, none⟩ = some (.string K) ∧ w.cell? ⟨g, 1, none⟩ = some (.int .i64 lim) ∧ w.cell? ⟨g, 2, none⟩ = some (.int .i64 md) ∧ w.cell? ⟨g, 3, none⟩ = some er ∧
    w.frozen? ⟨g, 0, none⟩ = false ∧ w.frozen? ⟨g, 2, none⟩ = false ∧ w.frozen? ⟨g, 3, none⟩ = false :=
  ⟨Blk.cell h 0, Blk.cell h 1, Blk.cell h 2, Blk.cell h 3, Blk.frozen h 0, Blk.frozen h 2, Blk.frozen h 3⟩
theorem fnew_ok (lim : Nat) (w : World) (h : lim ≤ 100000) : Calls Tryz.prog 14 #[.int .i64 lim] w fun e w' => e = .returned (.tuple #[.pointer (some ⟨w.heap.size, 0, none⟩), .nilIface]) ∧ FBlk w' w.heap.size ⟨#[]⟩ lim 0 .nilIface ∧ Below w.heap.size w w' := by
  have hI : (lim : Int) ≤ 100000 := by omega
  go_enter Tryz.func14, Tryz.ntmps14
  go_wp2_with fail
  go_ret2
  exact ⟨rfl, Blk.new w _ _, (Below.refl _ _).alloc (Nat.le_refl _) _⟩
theorem fmode_ok (g : Nat) (K : ByteArray) (lim md k : Nat) (w : World) (hB : FBlk w g K lim md .nilIface) (hk : k < 4) : Calls Tryz.prog 22 #[.pointer (some ⟨g, 0, none⟩), .int .i64 k] w fun e w' =>
    e = .returned .nilIface ∧ FBlk w' g K lim k .nilIface ∧ Step g w w' := by
  obtain ⟨c0, c1, c2, c3, f0, f2, f3⟩ := hB.cells
  go_enter Tryz.func22, Tryz.ntmps22
  go_wp2_with fail
  refine (modes_any k hk _).mono ?_
  rintro e w' ⟨rfl, rfl⟩
  go_wp2_with fail
  go_ret
  exact ⟨rfl, Blk.put hB 2 _, Step.setCell _ _ _ _⟩
theorem fmode_bad (g : Nat) (K : ByteArray) (lim md k : Nat) (t : TypeId) (x : Value) (w : World) (hB : FBlk w g K lim md (.iface t x)) (hk : k < 4) : Calls Tryz.prog 22 #[.pointer (some ⟨g, 0, none⟩), .int .i64 k] w fun e w' =>
    e = .returned (.iface 43 (.int .i64 6)) ∧ w = w' := by
  obtain ⟨c0, c1, c2, c3, f0, f2, f3⟩ := hB.cells
  go_enter Tryz.func22, Tryz.ntmps22
  go_wp2_with fail
  refine (modes_any k hk _).mono ?_
  rintro e w' ⟨rfl, rfl⟩
  go_wp2_with fail
  go_ret
  exact ⟨rfl, rfl⟩
theorem fput_ok (g : Nat) (K s : ByteArray) (lim md : Nat) (w : World) (hB : FBlk w g K lim md .nilIface) (hz : K.size + s.size ≤ 1000000) : Calls Tryz.prog 16 #[.pointer (some ⟨g, 0, none⟩), .string s] w fun e w' =>
    e = .returned .nilIface ∧ FBlk w' g (K ++ s) lim md .nilIface ∧ Step g w w' := by
  obtain ⟨c0, c1, c2, c3, f0, f2, f3⟩ := hB.cells
  have h1 : K.size ≤ 1000000 := by omega
  have h2 : s.size ≤ 1000000 := by omega
  go_enter Tryz.func16, Tryz.ntmps16
  go_wp2_with fail
  go_ret
  exact ⟨rfl, Blk.put hB 0 _, Step.setCell _ _ _ _⟩
theorem fput_bad (g : Nat) (K s : ByteArray) (lim md : Nat) (t : TypeId) (x : Value) (w : World) (hB : FBlk w g K lim md (.iface t x)) : Calls Tryz.prog 16 #[.pointer (some ⟨g, 0, none⟩), .string s] w fun e w' =>
    e = .returned (.iface 43 (.int .i64 6)) ∧ w = w' := by
  obtain ⟨c0, c1, c2, c3, f0, f2, f3⟩ := hB.cells
  go_enter Tryz.func16, Tryz.ntmps16
  go_wp2_with fail
  go_ret
  exact ⟨rfl, rfl⟩
theorem fkept (g : Nat) (K : ByteArray) (lim md : Nat) (er : Value) (w : World) (hB : FBlk w g K lim md er) : Calls Tryz.prog 20 #[.pointer (some ⟨g, 0, none⟩)] w fun e w' =>
    e = .returned (.int .i64 K.size) ∧ w = w' := by
  obtain ⟨c0, c1, c2, c3, f0, f2, f3⟩ := hB.cells
  go_enter Tryz.func20, Tryz.ntmps20
  go_wp2_with fail
  go_ret
  exact ⟨rfl, rfl⟩
def zeroPcC : Array Value := #[.int .i64 0, .bool false, .int .i64 0, .slice none 0 0, .slice none 0 0, .string ⟨#[]⟩, .string ⟨#[]⟩]
end Go.Proofs.YtifniblffjgfkaaGreatDoor
