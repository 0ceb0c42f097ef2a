/- How much may be sent where it was told. -/
import Derived.Test.YtamlepacljjpiaaGreatDoorGfd
namespace Go.Proofs.YtamlepacljjpiaaGreatDoor
open Go.ChangeShapes Go.WideShapes Go.ChangeAt Go.RowKit Go.Shelf
set_option linter.unusedVariables false
set_option maxRecDepth 100000 in
theorem mr_all : ∀ k : Fin 2000, mostN (ansRc [] [] [(mrB, ba (dgs (512 + k.val)))] true false) = 512 + k.val := by decide +kernel
theorem mr_most (n : Nat) (h0 : 512 ≤ n) (h1 : n < 2512) : mostN (ansRc [] [] [(mrB, ba (dgs n))] true false) = n := by
  have := mr_all ⟨n - 512, by omega⟩
  simp only at this
  rw [show 512 + (n - 512) = n by omega] at this
  exact this
theorem pair_mk (a b : ByteArray) (w : World) : Calls Tryz.prog 25 #[.string a, .string b] w fun e w' => e = .returned (.agg #[.string a, .string b]) ∧ Below w.heap.size w w' := by
  have hb0 : Below w.heap.size w (w.alloc (.cells #[.string a, .string b] 62)) := (Below.refl _ _).alloc (Nat.le_refl _) _
  have hB0 := Blk.new w 62 #[.string a, .string b]
  go_enter Tryz.func25, Tryz.ntmps25
  go_wp2_with fail
  refine bodyPost_ret (results_s1 rfl _ _ w.heap.size _ _ _ (by rfl) hB0 Tryz.underlying62 rfl (by kernel_rfl)) rfl ?_
  exact ⟨rfl, hb0⟩

end Go.Proofs.YtamlepacljjpiaaGreatDoor
