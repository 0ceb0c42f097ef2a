/- The fact of keys; the walks of the laws KeysTold, KeysBoth, KeysAgain. -/
import Derived.Test.YtamlepacljjpiaaGreatDoorKeysRes
import Derived.Test.YtamlepacljjpiaaGreatDoorGbase
import Derived.Test.YtamlepacljjpiaaGreatDoorGkeysb
import Derived.Deep.RegionHeld3
namespace Go.Proofs.YtamlepacljjpiaaGreatDoor
open Go.ChangeShapes Go.WideShapes Go.ChangeAt Go.RowKit Go.Shelf
set_option linter.unusedVariables false
set_option linter.unusedSimpArgs false
theorem result_inr (n a b : ByteArray) (X : ByteArray) (w : World) (h : resE n.data.toList a.data.toList b.data.toList = .inr X.data.toList) (ha : a.size ≤ 1000000) (hb : b.size ≤ 1000000) (V : Env w) : Calls Tryz.prog 103 #[.string n, .string a, .string b] w fun e w' =>
    e = .returned (.tuple #[.string X, .nilIface]) ∧ Below w.heap.size w w' := by
  refine (result_any n a b w ha hb V.T V.E V.S).mono ?_
  rintro e w' ⟨rfl, hb⟩
  rw [h]
  exact ⟨ret_eq (resV_inr X _ rfl), hb⟩
theorem result_inl (n a b : ByteArray) (c : Nat) (w : World) (h : resE n.data.toList a.data.toList b.data.toList = .inl c) (ha : a.size ≤ 1000000) (hb : b.size ≤ 1000000) (V : Env w) : Calls Tryz.prog 103 #[.string n, .string a, .string b] w fun e w' =>
    e = .returned (.tuple #[.string ⟨#[]⟩, .iface 56 (.int .i64 c)]) ∧ Below w.heap.size w w' := by
  refine (result_any n a b w ha hb V.T V.E V.S).mono ?_
  rintro e w' ⟨rfl, hb⟩
  rw [h]
  exact ⟨rfl, hb⟩
def resB (n a b : ByteArray) : Nat ⊕ List UInt8 := resE n.data.toList a.data.toList b.data.toList
theorem resB_cases (n a b : ByteArray) : (∃ c, resE n.data.toList a.data.toList b.data.toList = .inl c) ∨ ∃ X : ByteArray, resE n.data.toList a.data.toList b.data.toList = .inr X.data.toList := by
  rcases h : resE n.data.toList a.data.toList b.data.toList with c | x
  · exact .inl ⟨c, rfl⟩
  · exact .inr ⟨⟨x.toArray⟩, rfl⟩
theorem kinds_pos : ∀ r ∈ keyT, 1 ≤ r.kind := by decide +kernel
theorem kindV (n : ByteArray) : keyRow n.data.toList = none ∨ ∃ (r : KeyR) (K : Nat), keyRow n.data.toList = some r ∧ r.kind = K ∧ K ≤ 7 := by
  rcases h : keyRow n.data.toList with _ | r
  · exact .inl rfl
  · exact .inr ⟨r, r.kind, rfl, rfl, (keyT_len r (keyRow_mem h)).2.2.2.1⟩
end Go.Proofs.YtamlepacljjpiaaGreatDoor
