/- What api.Tell tells of nil, and of an Errno. -/
import Derived.Test.YtecembemhjjdhaaGreatDoorTell
namespace Go.Proofs.YtecembemhjjdhaaGreatDoor
open Go.RowKit Go.Extern.Stop Go.Stop Go.Extern
set_option linter.unusedVariables false
theorem tell_nil (w : World) : Calls Tryz.prog 25 #[.nilIface] w fun e w' => e = .returned (.int .i64 0) ∧ w = w' := by
  go_enter Tryz.func25, Tryz.ntmps25
  go_wp2
  go_ret
  exact ⟨rfl, rfl⟩
theorem tell_errno (k : Int) (w : World) (hg : LaidE w) : Calls Tryz.prog 25 #[.iface 31 (.int .i64 k)] w fun e w' => e = .returned (.int .i64 k) ∧ Below w.heap.size w w' := by
  have hga := hg.alloc (.cells #[.int .i64 0] 31)
  go_enter Tryz.func25, Tryz.ntmps25
  go_wp2_with fail
  refine (as_hit k _ (.int .i64 0) _ hga (by simp) (by simp)).mono ?_
  rintro e w' ⟨rfl, rfl⟩
  go_wp2_with fail
  go_ret
  refine ⟨rfl, ?_⟩
  repeat (first | exact Below.refl _ _ | refine Below.alloc ?_ (by first | exact Nat.le_refl _ | (simp; done) | (simp; omega)) _ | refine Below.setCell ?_ (by first | exact Nat.le_refl _ | (simp; done) | (simp; omega)) _)
theorem tell_errv (k : Nat) (w : World) (hg : LaidE w) : Calls Tryz.prog 25 #[errv k] w fun e w' => e = .returned (.int .i64 k) ∧ Below w.heap.size w w' := by
  unfold errv
  split
  · rename_i h
    subst h
    exact (tell_nil w).mono fun e w' ⟨h1, h2⟩ => ⟨h1, by rw [← h2]; exact Below.refl _ _⟩
  · exact tell_errno k w hg
end Go.Proofs.YtecembemhjjdhaaGreatDoor
