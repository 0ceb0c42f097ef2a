/- What a head has by a field's name, and a head that is made of one name and one number: the plain law. -/
import Derived.Test.YtifniblffjgfkaaDoorHeadMake
import Derived.Test.YtifniblffjgfkaaDoorHeadFlagsW
namespace Go.Proofs.YtifniblffjgfkaaDoor
open Go.ChangeShapes Go.WideShapes Go.ChangeAt Go.RowKit
set_option linter.unusedVariables false
def valGo : FieldL → List Nat → List UInt8 → Nat ⊕ Nat
  | [], _, _ => .inl 5
  | f :: fs, vs, n => if f.1 = n then (match vs with | [] => .inl 7 | v :: _ => .inr v) else valGo fs vs.tail n
theorem valGo_at : ∀ (fs : FieldL) (vs : List Nat) (j : Nat) (f : List UInt8 × Nat × Nat) (v : Nat), fs[j]? = some f → vs[j]? = some v → (∀ i g, i < j → fs[i]? = some g → g.1 ≠ f.1) → valGo fs vs f.1 = .inr v
  | [], _, _, _, _, h, _, _ => by simp at h
  | g :: fs, [], j, f, v, _, h, _ => by simp at h
  | g :: fs, u :: vs, 0, f, v, h, h2, _ => by
    simp only [List.getElem?_cons_zero, Option.some.injEq] at h h2
    subst h h2
    simp [valGo]
  | g :: fs, u :: vs, j + 1, f, v, h, h2, h3 => by
    have hne := h3 0 g (by omega) rfl
    rw [valGo, if_neg hne]
    exact valGo_at fs vs j f v (by simpa using h) (by simpa using h2) (fun i x hi hx => h3 (i + 1) x (by omega) (by simpa using hx))
theorem names_nodup : ∀ r ∈ headT, (r.2.2.2.map (·.1)).Nodup := by decide +kernel
theorem name_inj {fs : FieldL} (hn : (fs.map (·.1)).Nodup) {i j : Nat} {f g : List UInt8 × Nat × Nat} (hf : fs[i]? = some f) (hg : fs[j]? = some g) (h : f.1 = g.1) : i = j := by
  have hi : i < (fs.map (·.1)).length := by rw [List.length_map]; exact (List.getElem?_eq_some_iff.1 hf).1
  refine (List.getElem?_inj hi hn).1 ?_
  rw [List.getElem?_map, List.getElem?_map, hf, hg, Option.map_some, Option.map_some, h]
theorem lastI_one (fs : FieldL) (hn : (fs.map (·.1)).Nodup) (j : Nat) (f : List UInt8 × Nat × Nat) (hf : fs[j]? = some f) : ∀ k, lastI fs f.1 k = if j < k then (j : Int) else -1
  | 0 => by simp [lastI]
  | k + 1 => by
    rw [lastI, lastI_one fs hn j f hf k]
    by_cases h : (fs[k]?).map (·.1) = some f.1
    · rw [if_pos h]
      rcases hk : fs[k]? with _ | g
      · rw [hk] at h; simp at h
      · rw [hk, Option.map_some, Option.some.injEq] at h
        have := name_inj hn hk hf h
        subst this
        simp
    · rw [if_neg h]
      have hne : k ≠ j := fun e => h (by rw [e, hf]; rfl)
      by_cases hj : j < k
      · rw [if_pos hj, if_pos (by omega)]
      · rw [if_neg hj, if_neg (by omega)]
theorem rangeGo_set : ∀ (fs : FieldL) (j i : Nat) (f : List UInt8 × Nat × Nat) (x : Nat), fs[j]? = some f → rangeGo fs ((List.replicate fs.length 0).set j x) i = if f.2.2 < 8 ∧ x / 2 ^ (8 * f.2.2) ≠ 0 then some (2, some (i + j)) else none
  | [], j, _, _, _, h => by simp at h
  | g :: fs, 0, i, f, x, h => by
    simp only [List.getElem?_cons_zero, Option.some.injEq] at h
    subst h
    rw [List.length_cons, List.replicate_succ, List.set_cons_zero, rangeGo, rangeGo_zero]
    rfl
  | g :: fs, j + 1, i, f, x, h => by
    rw [List.length_cons, List.replicate_succ, List.set_cons_succ, rangeGo, if_neg (by simp), rangeGo_set fs j (i + 1) f x (by simpa using h)]
    rw [show i + 1 + j = i + (j + 1) by omega]
def oneL (r : HeadR) (j x : Nat) : List Nat := (List.replicate r.2.2.2.length 0).set j x
theorem right_one (op fl : Int) (r : HeadR) (hr : headRow op = some r) (j x : Nat) (f : List UInt8 × Nat × Nat) (hf : r.2.2.2[j]? = some f) :
    rightR op false fl (oneL r j x) = if (decide (fl < 0) || offM fl r.2.2.1) = true then some (3, none) else if f.2.2 < 8 ∧ x / 2 ^ (8 * f.2.2) ≠ 0 then some (2, some j) else none := by
  unfold rightR oneL
  rw [hr]
  simp only [badR, Bool.false_and, Bool.false_or]
  rw [rangeGo_set _ _ _ _ _ hf]
  simp
theorem make_one (op fl : Int) (r : HeadR) (hr : headRow op = some r) (j x : Nat) (f : List UInt8 × Nat × Nat) (hf : r.2.2.2[j]? = some f) :
    makeR op fl [f.1] [x] = match rightR op false fl (oneL r j x) with | some E => .inl E | none => .inr (oneL r j x) := by
  have hj : j < r.2.2.2.length := (List.getElem?_eq_some_iff.1 hf).1
  have hl := lastI_one r.2.2.2 (names_nodup r (headRow_mem hr)) j f hf r.2.2.2.length
  rw [if_pos hj] at hl
  unfold makeR
  rw [hr]
  simp only [mkGo, List.head?_cons]
  rw [mkStep_some (by rw [hl]; omega), hl]
  rfl
theorem oneL_at (r : HeadR) (j x k : Nat) (hk : k < r.2.2.2.length) : (oneL r j x)[k]? = some (if k = j then x else 0) := by
  unfold oneL
  rw [List.getElem?_set]
  by_cases h : j = k
  · subst h
    simp [hk]
  · rw [if_neg h, if_neg (fun e => h e.symm)]
    simp [hk]
theorem val_one (r : HeadR) (hr : r ∈ headT) (j x k : Nat) (g : List UInt8 × Nat × Nat) (hg : r.2.2.2[k]? = some g) : valGo r.2.2.2 (oneL r j x) g.1 = .inr (if k = j then x else 0) := by
  have hk : k < r.2.2.2.length := (List.getElem?_eq_some_iff.1 hg).1
  refine valGo_at _ _ k g _ hg (oneL_at r j x k hk) (fun i y hi hy e => ?_)
  have := name_inj (names_nodup r hr) hy hg e
  omega
end Go.Proofs.YtifniblffjgfkaaDoor
