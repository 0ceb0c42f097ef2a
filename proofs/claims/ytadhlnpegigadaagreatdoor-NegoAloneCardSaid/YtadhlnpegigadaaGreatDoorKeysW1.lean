/- The fact of keys; the walks of the laws KeysTold, KeysBoth, KeysAgain. -/
import Derived.Test.YtadhlnpegigadaaGreatDoorKeysRes
import Derived.Test.YtadhlnpegigadaaGreatDoorGbase
import Derived.Test.YtadhlnpegigadaaGreatDoorEnvK
import Derived.Deep.RegionHeld3
namespace Go.Proofs.YtadhlnpegigadaaGreatDoor
open Go.ChangeShapes Go.WideShapes Go.ChangeAt Go.RowKit Go.Shelf
set_option linter.unusedVariables false
set_option linter.unusedSimpArgs false
theorem result_inr (n a b : ByteArray) (X : ByteArray) (w : World) (h : resE n.data.toList a.data.toList b.data.toList = .inr X.data.toList) (ha : a.size ≤ 1000000) (hb : b.size ≤ 1000000) (V : Env w) : Calls Tryz.prog 51 #[.string n, .string a, .string b] w fun e w' =>
    e = .returned (.tuple #[.string X, .nilIface]) ∧ Below w.heap.size w w' := by
  refine (result_any n a b w ha hb V.T V.E V.S).mono ?_
  rintro e w' ⟨rfl, hb⟩
  rw [h]
  exact ⟨ret_eq (resV_inr X _ rfl), hb⟩
theorem result_inl (n a b : ByteArray) (c : Nat) (w : World) (h : resE n.data.toList a.data.toList b.data.toList = .inl c) (ha : a.size ≤ 1000000) (hb : b.size ≤ 1000000) (V : Env w) : Calls Tryz.prog 51 #[.string n, .string a, .string b] w fun e w' =>
    e = .returned (.tuple #[.string ⟨#[]⟩, .iface 53 (.int .i64 c)]) ∧ Below w.heap.size w w' := by
  refine (result_any n a b w ha hb V.T V.E V.S).mono ?_
  rintro e w' ⟨rfl, hb⟩
  rw [h]
  exact ⟨rfl, hb⟩
def resB (n a b : ByteArray) : Nat ⊕ List UInt8 := resE n.data.toList a.data.toList b.data.toList
theorem resB_cases (n a b : ByteArray) : (∃ c, resE n.data.toList a.data.toList b.data.toList = .inl c) ∨ ∃ X : ByteArray, resE n.data.toList a.data.toList b.data.toList = .inr X.data.toList := by
  rcases h : resE n.data.toList a.data.toList b.data.toList with c | x
  · exact .inl ⟨c, rfl⟩
  · exact .inr ⟨⟨x.toArray⟩, rfl⟩
set_option maxRecDepth 20000 in
set_option maxHeartbeats 4000000 in
theorem keyed_fact (w : World) (V : Env w) : Calls Tryz.prog 34 #[] w fun e w' => e = .returned (.bool true) ∧ Below w.heap.size w w' := by
  obtain ⟨k1, k2, k3, k4⟩ := keyed_plain
  have K1 := Lib.hid k1
  have K2 := Lib.hid k2
  have K3 := Lib.hid k3
  have K4 := Lib.hid k4
  clear k1 k2 k3 k4
  obtain ⟨A, hA⟩ : ∃ A : ByteArray, (⟨#[89, 101, 115]⟩ : ByteArray) = A := ⟨_, rfl⟩
  obtain ⟨B, hB⟩ : ∃ A : ByteArray, (⟨#[49, 48, 50, 52]⟩ : ByteArray) = A := ⟨_, rfl⟩
  obtain ⟨C, hC⟩ : ∃ A : ByteArray, (⟨#[67, 82, 67, 51, 50, 67]⟩ : ByteArray) = A := ⟨_, rfl⟩
  have hAl : A.data.toList = [89, 101, 115] := by rw [← hA]
  have hBl : B.data.toList = [49, 48, 50, 52] := by rw [← hB]
  have hCl : C.data.toList = [67, 82, 67, 51, 50, 67] := by rw [← hC]
  obtain ⟨a1, a2⟩ := eq_facts A _ hAl
  obtain ⟨b1, b2⟩ := eq_facts B _ hBl
  obtain ⟨c1, c2⟩ := eq_facts C _ hCl
  have HA := Lib.hid hAl
  have HB := Lib.hid hBl
  have HC := Lib.hid hCl
  clear hA hB hC hAl hBl hCl a2 b2 c2
  go_enter Tryz.func34, Tryz.ntmps34
  go_wp2_with fail
  refine (result_inr _ _ _ A _ (by rw [HA.out]; exact K1.out) (by decide) (by decide) V).mono ?_
  rintro e w1 ⟨rfl, hb1⟩
  have V1 := V.on hb1
  go_wp2_with fail
  refine (result_inr _ _ _ B _ (by rw [HB.out]; exact K2.out) (by decide) (by decide) V1).mono ?_
  rintro e w2 ⟨rfl, hb2⟩
  have V2 := V1.on hb2
  have hbw2 := below_step hb1 hb2
  go_wp2_with fail
  refine (result_inr _ _ _ C _ (by rw [HC.out]; exact K3.out) (by decide) (by decide) V2).mono ?_
  rintro e w3 ⟨rfl, hb3⟩
  have V3 := V2.on hb3
  have hbw3 := below_step hbw2 hb3
  go_wp2_with fail
  refine (result_inl _ _ _ 8 _ K4.out (by decide) (by decide) V3).mono ?_
  rintro e w4 ⟨rfl, hb4⟩
  have V4 := V3.on hb4
  have hbw4 := below_step hbw3 hb4
  go_wp2_with fail
  refine (tell_errno 8 _ V4.L).mono ?_
  rintro e w5 ⟨rfl, hb5⟩
  go_wp2_with fail
  go_ret
  exact ⟨rfl, below_step hbw4 hb5⟩
theorem kinds_pos : ∀ r ∈ keyT, 1 ≤ r.kind := by decide +kernel
theorem kindV (n : ByteArray) : keyRow n.data.toList = none ∨ ∃ (r : KeyR) (K : Nat), keyRow n.data.toList = some r ∧ r.kind = K ∧ K ≤ 7 := by
  rcases h : keyRow n.data.toList with _ | r
  · exact .inl rfl
  · exact .inr ⟨r, r.kind, rfl, rfl, (keyT_len r (keyRow_mem h)).2.2.2.1⟩
end Go.Proofs.YtadhlnpegigadaaGreatDoor
