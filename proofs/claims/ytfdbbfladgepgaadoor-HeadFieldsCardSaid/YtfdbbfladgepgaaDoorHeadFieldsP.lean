/- Fields and their places: the plain law. -/
import Derived.Test.YtfdbbfladgepgaaDoorHeadGet
import Derived.Test.YtfdbbfladgepgaaDoorMapBool
namespace Go.Proofs.YtfdbbfladgepgaaDoor
open Go.ChangeShapes Go.WideShapes Go.ChangeAt Go.RowKit Go.Shelf
set_option linter.unusedVariables false
def base6 : List Int := [0, 1, 4, 5, 6, 7]
def spanK (f : List UInt8 × Nat × Nat) (j : Nat) : List Int := (List.range j).map fun i => ((f.2.1 + i : Nat) : Int)
def spansF (fs : FieldL) : List Int := base6 ++ fs.flatMap fun f => spanK f f.2.2
theorem spans_nodup : ∀ r ∈ headT, (spansF r.2.2.2).Nodup := by decide +kernel
theorem fields_rng : ∀ r ∈ headT, r.2.1 ≠ [] ∧ (∀ f ∈ r.2.2.2, 1 ≤ f.2.2 ∧ f.2.2 ≤ 8 ∧ f.1 ≠ [] ∧ 2 ≤ f.2.1 ∧ f.2.1 + f.2.2 ≤ 48) ∧ ([73, 84, 84] : List UInt8) ∈ r.2.2.2.map (·.1) ∧ r.1 < 64 ∧ r.2.2.2.length < 20 := by decide +kernel
theorem fnames_nodup : ∀ r ∈ headT, (r.2.2.2.map (·.1)).Nodup := by decide +kernel
theorem spanK_succ (f : List UInt8 × Nat × Nat) (j : Nat) : spanK f (j + 1) = spanK f j ++ [((f.2.1 + j : Nat) : Int)] := by
  unfold spanK
  rw [List.range_succ, List.map_append]
  rfl
theorem spansF_succ {fs : FieldL} {k : Nat} {f : List UInt8 × Nat × Nat} (hf : fs[k]? = some f) : spansF (fs.take (k + 1)) = spansF (fs.take k) ++ spanK f f.2.2 := by
  unfold spansF
  rw [List.take_add_one, hf, List.flatMap_append, List.append_assoc]
  simp
theorem span_new {fs : FieldL} (h : (spansF fs).Nodup) {k : Nat} {f : List UInt8 × Nat × Nat} (hf : fs[k]? = some f) {j : Nat} (hj : j < f.2.2) : ((f.2.1 + j : Nat) : Int) ∉ spansF (fs.take k) ++ spanK f j := by
  have hk := (List.getElem?_eq_some_iff.1 hf).1
  have e : spansF fs = spansF (fs.take k) ++ (spanK f f.2.2 ++ (fs.drop (k + 1)).flatMap fun f => spanK f f.2.2) := by
    have e1 : fs = fs.take k ++ f :: fs.drop (k + 1) := by
      obtain ⟨h1, h2⟩ := List.getElem?_eq_some_iff.1 hf
      rw [← h2, ← List.drop_eq_getElem_cons h1, List.take_append_drop]
    conv => lhs; rw [e1]
    unfold spansF
    rw [List.flatMap_append, List.flatMap_cons, List.append_assoc]
  rw [e, List.nodup_append] at h
  have hmem : ((f.2.1 + j : Nat) : Int) ∈ spanK f f.2.2 := List.mem_map.2 ⟨j, List.mem_range.2 hj, rfl⟩
  intro hm
  rcases List.mem_append.1 hm with hm | hm
  · exact h.2.2 _ hm _ (List.mem_append_left _ hmem) rfl
  · obtain ⟨i, hi, e2⟩ := List.mem_map.1 hm
    have := List.mem_range.1 hi
    omega
theorem name_new {fs : FieldL} (h : (fs.map (·.1)).Nodup) {k : Nat} {f : List UInt8 × Nat × Nat} (hf : fs[k]? = some f) : f.1 ∉ (fs.take k).map (·.1) := by
  obtain ⟨h1, h2⟩ := List.getElem?_eq_some_iff.1 hf
  have e1 : fs = fs.take k ++ f :: fs.drop (k + 1) := by
    rw [← h2, ← List.drop_eq_getElem_cons h1, List.take_append_drop]
  rw [e1, List.map_append, List.nodup_append] at h
  intro hm
  exact h.2.2 _ hm _ (by simp) rfl
def SeenI (D : DataW Unit) (l : List Int) : Prop := ∀ x : Int, D.atKey (.int .i64 x) (.lit (.bool false)) = .lit (.bool (decide (x ∈ l)))
theorem SeenI.nil : SeenI (.map []) [] := fun x => rfl
theorem SeenI.put {D : DataW Unit} {l : List Int} (h : SeenI D l) (hD : Maps.IsMap D) (y : Int) : SeenI (D.put (.int .i64 y) (.lit (.bool true))) (l ++ [y]) := by
  intro x
  by_cases hx : x = y
  · subst hx
    rw [Maps.atKey_put_same hD (show WideAt.IsKeyLit (.int .i64 x) from trivial)]
    simp
  · rw [Maps.atKey_put_other (fun e => hx (by injection e)), h x]
    congr 2
    simp [hx]
def SeenS (D : DataW Unit) (l : List (List UInt8)) : Prop := ∀ x : List UInt8, D.atKey (.string x) (.lit (.bool false)) = .lit (.bool (decide (x ∈ l)))
theorem SeenS.nil : SeenS (.map []) [] := fun x => rfl
theorem SeenS.put {D : DataW Unit} {l : List (List UInt8)} (h : SeenS D l) (hD : Maps.IsMap D) (y : List UInt8) : SeenS (D.put (.string y) (.lit (.bool true))) (l ++ [y]) := by
  intro x
  by_cases hx : x = y
  · subst hx
    rw [Maps.atKey_put_same hD (show WideAt.IsKeyLit (.string x) from trivial)]
    simp
  · rw [Maps.atKey_put_other (fun e => hx (by injection e)), h x]
    congr 2
    simp [hx]
theorem int_key {P : Program} {k : TypeId} (hk : P.underlying k = some (.int .i64)) (x : Int) (h0 : 0 ≤ x) (h1 : x ≤ 1000) : keyOf P k (.int .i64 x) = some (.int .i64 x) := by
  refine Maps.keyOf_int_mk hk ?_
  show (decide (IntKind.i64.min ≤ x) && decide (x ≤ IntKind.i64.max)) = true
  have h2 : IntKind.i64.min = -9223372036854775808 := rfl
  have h3 : IntKind.i64.max = 9223372036854775807 := rfl
  rw [h2, h3]
  simp
  omega
end Go.Proofs.YtfdbbfladgepgaaDoor
