/- Bytes laid over others, field by field: what is read back, and what stays. -/
import Derived.Test.YtfdbbfladgepgaaDoorFieldPlain
import Derived.Test.YtfdbbfladgepgaaDoorHeadPlain
namespace Go.Proofs.YtfdbbfladgepgaaDoor
set_option linter.unusedVariables false
def layAt (l : List UInt8) (p : Nat) (s : List UInt8) : List UInt8 := l.take p ++ s ++ l.drop (p + s.length)
theorem layAt_len (l : List UInt8) (p : Nat) (s : List UInt8) (h : p + s.length ≤ l.length) : (layAt l p s).length = l.length := by
  unfold layAt
  rw [List.length_append, List.length_append, List.length_take, List.length_drop]
  omega
theorem layAt_in (l : List UInt8) (p : Nat) (s : List UInt8) (h : p + s.length ≤ l.length) (j : Nat) (hj : j < s.length) : (layAt l p s)[p + j]? = s[j]? := by
  unfold layAt
  rw [List.append_assoc, List.getElem?_append_right (by rw [List.length_take]; omega), List.length_take, Nat.min_eq_left (by omega), Nat.add_sub_cancel_left, List.getElem?_append_left hj]
theorem layAt_out (l : List UInt8) (p : Nat) (s : List UInt8) (h : p + s.length ≤ l.length) (j : Nat) (hj : j < p ∨ p + s.length ≤ j) : (layAt l p s)[j]? = l[j]? := by
  unfold layAt
  rcases hj with hj | hj
  · rw [List.append_assoc, List.getElem?_append_left (by rw [List.length_take]; omega), List.getElem?_take, if_pos hj]
  · rw [List.getElem?_append_right (by rw [List.length_append, List.length_take]; omega), List.getElem?_drop, List.length_append, List.length_take, Nat.min_eq_left (by omega)]
    congr 1
    omega
abbrev FieldL := List (List UInt8 × Nat × Nat)
def layAll (b : List UInt8) : FieldL → List Nat → List UInt8
  | f :: fs, v :: vs => layAll (layAt b f.2.1 (putB v f.2.2)) fs vs
  | _, _ => b
def inF (f : List UInt8 × Nat × Nat) (j : Nat) : Bool := decide (f.2.1 ≤ j) && decide (j < f.2.1 + f.2.2)
def okF (f : List UInt8 × Nat × Nat) : Bool := decide (2 ≤ f.2.1) && decide (f.2.1 + f.2.2 ≤ 48) && (decide (f.2.1 + f.2.2 ≤ 4) || decide (8 ≤ f.2.1)) && decide (1 ≤ f.2.2) && decide (f.2.2 ≤ 8)
def apart (f g : List UInt8 × Nat × Nat) : Bool := decide (f.2.1 + f.2.2 ≤ g.2.1) || decide (g.2.1 + g.2.2 ≤ f.2.1)
def okAll : FieldL → Bool
  | [] => true
  | f :: fs => okF f && fs.all (apart f) && okAll fs
theorem layAll_len : ∀ (fs : FieldL) (vs : List Nat) (b : List UInt8), okAll fs = true → b.length = 48 → (layAll b fs vs).length = 48
  | [], vs, b, _, hb => by cases vs <;> exact hb
  | f :: fs, [], b, _, hb => hb
  | f :: fs, v :: vs, b, h, hb => by
    simp only [okAll, okF, Bool.and_eq_true, decide_eq_true_eq] at h
    rw [layAll]
    refine layAll_len fs vs _ h.2 ?_
    rw [layAt_len _ _ _ (by rw [putB_len]; omega), hb]
theorem layAll_out : ∀ (fs : FieldL) (vs : List Nat) (b : List UInt8) (j : Nat), okAll fs = true → b.length = 48 → (∀ f ∈ fs, inF f j = false) → (layAll b fs vs)[j]? = b[j]?
  | [], vs, b, j, _, _, _ => by cases vs <;> rfl
  | f :: fs, [], b, j, _, _, _ => rfl
  | f :: fs, v :: vs, b, j, h, hb, hj => by
    simp only [okAll, okF, Bool.and_eq_true, decide_eq_true_eq] at h
    have h0 := hj f (List.mem_cons_self ..)
    simp only [inF, Bool.and_eq_false_iff, decide_eq_false_iff_not] at h0
    rw [layAll, layAll_out fs vs _ j h.2 (by rw [layAt_len _ _ _ (by rw [putB_len]; omega), hb]) (fun g hg => hj g (List.mem_cons_of_mem _ hg)),
      layAt_out _ _ _ (by rw [putB_len]; omega) _ (by rw [putB_len]; omega)]
theorem layAll_in : ∀ (fs : FieldL) (vs : List Nat) (b : List UInt8) (i : Nat) (f : List UInt8 × Nat × Nat) (v : Nat), okAll fs = true → b.length = 48 → fs[i]? = some f → vs[i]? = some v →
    ∀ j, j < f.2.2 → (layAll b fs vs)[f.2.1 + j]? = (putB v f.2.2)[j]?
  | [], _, _, i, f, v, _, _, hf, _ => by simp at hf
  | g :: fs, [], _, i, f, v, _, _, _, hv => by simp at hv
  | g :: fs, u :: vs, b, 0, f, v, h, hb, hf, hv => by
    simp only [List.getElem?_cons_zero, Option.some.injEq] at hf hv
    subst hf hv
    intro j hj
    simp only [okAll, okF, Bool.and_eq_true, decide_eq_true_eq] at h
    have ha := h.1.2
    rw [List.all_eq_true] at ha
    rw [layAll, layAll_out fs vs _ _ h.2 (by rw [layAt_len _ _ _ (by rw [putB_len]; omega), hb]) (fun g hg => by
      have := ha g hg
      simp only [apart, Bool.or_eq_true, decide_eq_true_eq] at this
      simp only [inF, Bool.and_eq_false_iff, decide_eq_false_iff_not]
      omega), layAt_in _ _ _ (by rw [putB_len]; omega) _ (by rw [putB_len]; exact hj)]
  | g :: fs, u :: vs, b, i + 1, f, v, h, hb, hf, hv => by
    simp only [List.getElem?_cons_succ] at hf hv
    intro j hj
    simp only [okAll, okF, Bool.and_eq_true, decide_eq_true_eq] at h
    rw [layAll]
    exact layAll_in fs vs _ i f v h.2 (by rw [layAt_len _ _ _ (by rw [putB_len]; omega), hb]) hf hv j hj
theorem slice_eq {l s : List UInt8} {p : Nat} (h : p + s.length ≤ l.length) (hj : ∀ j, j < s.length → l[p + j]? = s[j]?) : (l.drop p).take s.length = s := by
  apply List.ext_getElem?
  intro j
  rw [List.getElem?_take]
  by_cases h1 : j < s.length
  · rw [if_pos h1, List.getElem?_drop, hj j h1]
  · rw [if_neg h1, List.getElem?_eq_none (by omega)]
theorem layAll_read (fs : FieldL) (vs : List Nat) (b : List UInt8) (i : Nat) (f : List UInt8 × Nat × Nat) (v : Nat) (h : okAll fs = true) (hb : b.length = 48) (hf : fs[i]? = some f) (hv : vs[i]? = some v) :
    ((layAll b fs vs).drop f.2.1).take f.2.2 = putB v f.2.2 := by
  have hok : ∀ (fs : FieldL), okAll fs = true → ∀ f ∈ fs, f.2.1 + f.2.2 ≤ 48 := by
    intro fs
    induction fs with
    | nil => intro _ f hf; cases hf
    | cons g fs ih =>
      intro h f hf
      simp only [okAll, okF, Bool.and_eq_true, decide_eq_true_eq] at h
      rcases List.mem_cons.1 hf with rfl | hf
      · omega
      · exact ih h.2 f hf
  have h48 := hok fs h f (List.mem_of_getElem? hf)
  have hl := layAll_len fs vs b h hb
  have := slice_eq (l := layAll b fs vs) (s := putB v f.2.2) (p := f.2.1) (by rw [putB_len, hl]; exact h48) (fun j hj => layAll_in fs vs b i f v h hb hf hv j (by rw [putB_len] at hj; exact hj))
  rw [putB_len] at this
  exact this
def readV (fs : FieldL) (s : List UInt8) : List Nat := fs.map fun f => getN ((s.drop f.2.1).take f.2.2)
theorem readV_len (fs : FieldL) (s : List UInt8) : (readV fs s).length = fs.length := by rw [readV, List.length_map]
theorem readV_back (fs : FieldL) (vs : List Nat) (b : List UInt8) (h : okAll fs = true) (hb : b.length = 48) (hl : vs.length = fs.length) (hv : ∀ (i : Nat) (f : List UInt8 × Nat × Nat) (v : Nat), fs[i]? = some f → vs[i]? = some v → v < 2 ^ (8 * f.2.2)) :
    readV fs (layAll b fs vs) = vs := by
  apply List.ext_getElem?
  intro i
  rw [readV, List.getElem?_map]
  by_cases hi : i < fs.length
  · have hf : fs[i]? = some fs[i] := List.getElem?_eq_getElem hi
    have hvv : vs[i]? = some vs[i] := List.getElem?_eq_getElem (by omega)
    rw [hf, hvv, Option.map_some, layAll_read fs vs b i _ _ h hb hf hvv, putB_get, Nat.mod_eq_of_lt (hv i _ _ hf hvv)]
  · rw [List.getElem?_eq_none (by omega), List.getElem?_eq_none (by omega)]
    rfl
theorem readV_lt (fs : FieldL) (s : List UInt8) (i : Nat) (f : List UInt8 × Nat × Nat) (v : Nat) (hf : fs[i]? = some f) (hv : (readV fs s)[i]? = some v) : v < 2 ^ (8 * f.2.2) := by
  rw [readV, List.getElem?_map, hf, Option.map_some, Option.some.injEq] at hv
  subst hv
  refine Nat.lt_of_lt_of_le (getN_lt _) ?_
  rw [show (256 : Nat) = 2 ^ 8 from rfl, ← Nat.pow_mul]
  exact Nat.pow_le_pow_right (by omega) (Nat.mul_le_mul_left 8 (by rw [List.length_take]; omega))
theorem okAll_mem : ∀ (fs : FieldL), okAll fs = true → ∀ f ∈ fs, okF f = true
  | [], _, f, hf => by cases hf
  | g :: fs, h, f, hf => by
    simp only [okAll, Bool.and_eq_true] at h
    rcases List.mem_cons.1 hf with rfl | hf
    · exact h.1.1
    · exact okAll_mem fs h.2 f hf
theorem readV_only (fs : FieldL) (s b : List UInt8) (h : okAll fs = true) (hs : s.length = 48) (hb : b.length = 48) (j : Nat) (f : List UInt8 × Nat × Nat) (hf : f ∈ fs) (hj : inF f j = true) : (layAll b fs (readV fs s))[j]? = s[j]? := by
  obtain ⟨i, hi⟩ := List.getElem?_of_mem hf
  have hv : (readV fs s)[i]? = some (getN ((s.drop f.2.1).take f.2.2)) := by rw [readV, List.getElem?_map, hi]; rfl
  have hk := okAll_mem fs h f hf
  simp only [okF, inF, Bool.and_eq_true, decide_eq_true_eq] at hk hj
  have h1 := layAll_in fs (readV fs s) b i f _ h hb hi hv (j - f.2.1) (by omega)
  rw [Nat.add_sub_cancel' hj.1] at h1
  have hl : ((s.drop f.2.1).take f.2.2).length = f.2.2 := by rw [List.length_take, List.length_drop]; omega
  have h2 := get_put ((s.drop f.2.1).take f.2.2)
  rw [hl] at h2
  rw [h1, h2, List.getElem?_take, if_pos (by omega), List.getElem?_drop, Nat.add_sub_cancel' hj.1]
theorem headT_ok : ∀ r ∈ headT, okAll r.2.2.2 = true := by decide +kernel
theorem headT_mask : ∀ r ∈ headT, 0 < r.2.2.1 ∧ r.2.2.1 < 256 := by decide +kernel
end Go.Proofs.YtfdbbfladgepgaaDoor
