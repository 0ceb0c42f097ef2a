/- Arguments that are structs of two fields: pairs, users, draws. -/
import Derived.Test.YtadhlnpegigadaaGreatDoorGbase
import Derived.ChangeSame
namespace Go.Proofs.YtadhlnpegigadaaGreatDoor
open Go.ChangeShapes Go.WideShapes Go.ChangeAt Go.RowKit
set_option linter.unusedVariables false
theorem weights_parts {H : Type} {P : Program} {t : TypeId} {a b : DataW H} {f0 f1 : Field} (ht : P.underlying t = some (.struct #[f0, f1])) (n : Nat) (h : n ∈ a.weights P f0.type ∨ n ∈ b.weights P f1.type) :
    n ∈ (DataW.agg [a, b]).weights P t := by
  simp only [DataW.weights, ht]
  simp only [DataW.weightsEach, List.mem_append, List.map_cons, List.map_nil, List.append_nil]
  exact h
set_option maxRecDepth 100000 in
theorem open_pair {H : Type} {enc : TypeId × Value → H} {W : World} {base : Nat} {spare : Nat → Bool} {held : Bool} {v : Value} {d : DataW H} {p : List MemPlace} {ts : List TypeId} {ds : List (DataW H)} {j : Nat} {b0 : Nat}
    (hv : Value.okWide Tryz.prog W .any b0 52 v) (h : DataW.Trod enc Tryz.prog W base spare held 52 v d p)
    (hsz : (DataW.weightsEach Tryz.prog ts ds).all (· ≤ reachBytes) = true) (ht : ts[j]? = some 52) (hd : ds[j]? = some d) :
    ∃ q : ByteArray × ByteArray, v = .agg #[.string q.1, .string q.2] ∧ q.1.size ≤ 140737488351232 ∧ q.2.size ≤ 140737488351232 := by
  obtain ⟨cs, rfl, hcs⟩ := okWide_struct Tryz.underlying52 hv
  obtain ⟨fuel, hf⟩ := h
  obtain ⟨y0, y1, n, hx, hl, h0, h1⟩ := trod_struct2 Tryz.underlying52 hf
  have hz : cs.size = 2 := hcs.trans (by kernel_rfl)
  obtain ⟨c0, c1, rfl⟩ : ∃ c0 c1, cs = #[c0, c1] := by
    match cs, hz with
    | ⟨[a, b]⟩, _ => exact ⟨a, b, rfl⟩
  have k9 : Tryz.prog.cellsOf 9 = 1 := by kernel_rfl
  obtain ⟨s0, e0, x0, _⟩ := DataW.trod_string Tryz.underlying9 h0
  obtain ⟨s1, e1, x1, _⟩ := DataW.trod_string Tryz.underlying9 h1
  change List.take (Tryz.prog.cellsOf 9) [c0, c1] = _ at e0
  change List.take (Tryz.prog.cellsOf 9) [c1] = _ at e1
  rw [k9] at e0 e1
  obtain rfl : c0 = .string s0 := by simpa using e0
  obtain rfl : c1 = .string s1 := by simpa using e1
  have hd' : d = .agg [y0.1, y1.1] := congrArg Prod.fst hx
  rw [x0, x1] at hd'
  rw [hd'] at hd
  refine ⟨(s0, s1), rfl, ?_, ?_⟩
  · refine str_size rfl (of_decide_eq_true (List.all_eq_true.1 hsz _ (DataW.weights_mem_each ht hd _ (weights_parts Tryz.underlying52 _ (Or.inl ?_)))))
    simp [DataW.weights]
  · refine str_size rfl (of_decide_eq_true (List.all_eq_true.1 hsz _ (DataW.weights_mem_each ht hd _ (weights_parts Tryz.underlying52 _ (Or.inr ?_)))))
    simp [DataW.weights]
end Go.Proofs.YtadhlnpegigadaaGreatDoor
