/- feed.Next by what comes next. -/
import Derived.Test.YtifniblffjgfkaaGreatDoorFeedNext5
import Derived.Test.YtifniblffjgfkaaGreatDoorFeedNext6
import Derived.Test.YtifniblffjgfkaaGreatDoorGpdub
namespace Go.Proofs.YtifniblffjgfkaaGreatDoor
open Go.ChangeShapes Go.WideShapes Go.ChangeAt Go.RowKit Go.Shelf
set_option linter.unusedVariables false
theorem fnext_no (g : Nat) (K : ByteArray) (lim md : Nat) (w : World) (hB : FBlk w g K lim md .nilIface) (hKz : K.size ≤ 1000000) (hmd : md < 4) (hQ : nextP lim (hdM md) (ddM md) K.data.toList = .no) :
    Calls Tryz.prog 18 #[.pointer (some ⟨g, 0, none⟩)] w fun e w' => e = .returned (.tuple #[.agg zeroPcC, .bool false, .nilIface]) ∧ Below w.heap.size w w' := by
  unfold nextP at hQ
  rw [len_of] at hQ
  split at hQ
  · exact fnext_short g K lim md w hB (by assumption)
  split at hQ
  · cases hQ
  split at hQ
  · exact fnext_wait g K lim md _ w hB (by omega) hKz hmd (by omega) (Lib.hid rfl) (by assumption)
  split at hQ
  · split at hQ
    · cases hQ
    · cases hQ
  · cases hQ
theorem fnext_err (g : Nat) (K : ByteArray) (lim md c : Nat) (w : World) (hB : FBlk w g K lim md .nilIface) (hKz : K.size ≤ 1000000) (hmd : md < 4) (hQ : nextP lim (hdM md) (ddM md) K.data.toList = .bad c) (hL : LaidE w) (T : Tabs w) (hS : w.ShapedOpen Tryz.prog) :
    Calls Tryz.prog 18 #[.pointer (some ⟨g, 0, none⟩)] w fun e w' => e = .returned (.tuple #[.agg zeroPcC, .bool false, .iface 43 (.int .i64 c)]) ∧ FBlk w' g ⟨#[]⟩ lim md (.iface 43 (.int .i64 c)) ∧ Step g w w' := by
  have hnz := next_nz lim (hdM md) (ddM md) _ c hQ
  unfold nextP at hQ
  rw [len_of] at hQ
  split at hQ
  · cases hQ
  split at hQ
  · injection hQ with hQ
    subst hQ
    exact fnext_limit g K lim md w hB (by omega) hKz (by assumption)
  split at hQ
  · cases hQ
  split at hQ
  · rename_i c' hc
    split at hQ
    · cases hQ
    · injection hQ with hQ
      subst hQ
      exact fnext_bad g K lim md _ _ w hB (by omega) hKz hmd (by omega) (Lib.hid rfl) (by omega) (Lib.hid (by rw [take_ext]; exact hc)) (by assumption) hnz hL T hS
  · cases hQ
theorem fnext_pc (g : Nat) (K : ByteArray) (lim md n : Nat) (p : Pc) (w : World) (hB : FBlk w g K lim md .nilIface) (hKz : K.size ≤ 1000000) (hmd : md < 4) (hQ : nextP lim (hdM md) (ddM md) K.data.toList = .pc p n) (hL : LaidE w) (T : Tabs w) (hS : w.ShapedOpen Tryz.prog) :
    Calls Tryz.prog 18 #[.pointer (some ⟨g, 0, none⟩)] w fun e w' => ∃ A B cap bcap, e = .returned (.tuple #[.agg (pcC p A B cap bcap), .bool true, .nilIface]) ∧ PcAt w' w.heap.size p A B cap bcap ∧ FBlk w' g (K.extract n K.size) lim md .nilIface ∧ Step g w w' := by
  unfold nextP at hQ
  rw [len_of] at hQ
  split at hQ
  · cases hQ
  split at hQ
  · cases hQ
  split at hQ
  · cases hQ
  split at hQ
  · rename_i c' hc
    split at hQ
    · rename_i h13
      injection hQ with h1 h2
      subst h13
      refine (fnext_spoilt g K lim md n w hB (by omega) hKz hmd (by omega) (Lib.hid h2) (by omega) (Lib.hid (by rw [take_ext, ← h2]; exact hc)) hL T hS).mono ?_
      rintro e w' ⟨he, hF, hst⟩
      subst h1
      refine ⟨none, none, 0, 0, ?_, ⟨nilS _ 1, nilS _ 2, (fun a h => by cases h), (fun a h => by cases h)⟩, hF, hst⟩
      rw [he, ext_of, List.drop_zero, Nat.sub_zero]
      rfl
    · cases hQ
  · rename_i hc
    injection hQ with h1 h2
    refine (fnext_piece g K lim md n p w hB (by omega) hKz hmd (by omega) (Lib.hid h2) (by omega) (Lib.hid (by rw [take_ext, ← h2]; exact hc)) (Lib.hid (by rw [take_ext, ← h2]; exact h1)) hL T hS).mono ?_
    rintro e w' ⟨A, B, cap, bcap, he, hP, hF, hst⟩
    exact ⟨A, B, cap, bcap, he, hP, hF, hst⟩
end Go.Proofs.YtifniblffjgfkaaGreatDoor
