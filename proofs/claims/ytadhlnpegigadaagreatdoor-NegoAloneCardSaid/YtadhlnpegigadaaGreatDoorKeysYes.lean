/- keys.yes. -/
import Derived.Test.YtadhlnpegigadaaGreatDoorKeysNum
import Derived.Test.YtadhlnpegigadaaGreatDoorGkeys
import Derived.Maps.StringElems
namespace Go.Proofs.YtadhlnpegigadaaGreatDoor
open Go.ChangeShapes Go.WideShapes Go.ChangeAt Go.RowKit Go.Shelf
set_option linter.unusedVariables false
set_option linter.unusedSimpArgs false
set_option maxHeartbeats 2000000 in
set_option maxRecDepth 20000 in
theorem yes_any (b : Bool) (w : World) : Calls Tryz.prog 73 #[.bool b] w fun e w' => e = .returned (.string ⟨(yesB b).toArray⟩) ∧ Below w.heap.size w w' := by
  have hmm := @run_makeMap Tryz.prog
  have u4 : (Tryz.prog).underlying 4 = some .bool := by kernel_rfl
  have u9 : (Tryz.prog).underlying 9 = some .string := by kernel_rfl
  have u136 : (Tryz.prog).underlying 159 = some (.map 4 9) := by kernel_rfl
  have o0 := World.ownsMap_made (H := Unit) w Tryz.prog 4 (plainElem Tryz.prog 9)
  obtain ⟨w1, r1, o1, g1⟩ := o0.update (Maps.bool_keyed u4) u136 (by unfold maxLen; omega) (key := .bool true) (kl := .bool true) (Maps.keyOf_bool_mk u4 true) (plainElem_string u9 (s := ⟨#[89, 101, 115]⟩) (by decide))
  obtain ⟨w2, r2, o2, g2⟩ := o1.update (Maps.bool_keyed u4) u136 (by unfold maxLen; omega) (key := .bool false) (kl := .bool false) (Maps.keyOf_bool_mk u4 false) (plainElem_string u9 (s := ⟨#[78, 111]⟩) (by decide))
  obtain ⟨v, ps, r3, hv⟩ := o2.lookup (t := 159) (e := 9) (Maps.bool_keyed u4) u136 (z := .string ⟨#[]⟩) (by go_simp) (plainElem_string u9 (s := ⟨#[]⟩) (by decide)) (Maps.keyOf_bool_mk u4 b)
  have hbw : Below w.heap.size w w2 := (((Below.refl _ _).alloc (Nat.le_refl _) _).grown g1 (Nat.le_of_lt o0.lt) (by rintro k ⟨⟩; exact Nat.le_refl _)).grown g2 (Nat.le_of_lt o1.lt) (by rintro k ⟨⟩; exact Nat.le_refl _)
  obtain ⟨s, rfl, hs⟩ := plainElem_string_inv u9 hv
  have hse : s = ⟨(yesB b).toArray⟩ := by
    have h2 := congrArg Prod.fst hs.1
    apply ByteArray.ext
    apply Array.ext'
    cases b <;> (simp [DataW.put, DataW.atKey, DataW.insert, Lit.sameKey, Lit.before, yesB] at h2 ⊢; exact h2.symm)
  subst hse
  go_enter Tryz.func73, Tryz.ntmps73
  go_wp2_with fail
  go_ret
  exact ⟨rfl, hbw⟩
end Go.Proofs.YtadhlnpegigadaaGreatDoor
