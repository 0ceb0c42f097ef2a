/- Plain laws of a stream of PDUs: what comes next, and all that comes. -/
import Derived.Test.YtifniblffjgfkaaGreatDoorGpdub
namespace Go.Proofs.YtifniblffjgfkaaGreatDoor
open Go.ChangeShapes Go.WideShapes Go.ChangeAt Go.RowKit Go.Shelf
set_option linter.unusedVariables false
/- a piece: a PDU, or the head of one whose data are spoilt -/
structure Pc where
  op : Nat
  now : Bool
  fl : Nat
  vals : List Nat
  al : AhsL
  data : List UInt8
  sp : List UInt8
def zeroPc : Pc := ⟨0, false, 0, [], [], [], []⟩
def okPc (l : List UInt8) (hd : Bool) : Pc := match headRow ((rB l 0 % 64 : Nat) : Int), readGo 1021 (moreS l) 0 with
  | some r, .inr al => ⟨rB l 0 % 64, decide (64 ≤ rB l 0), rB l 1, readV r.2.2.2 (l.take 48), al, bodyS l hd, []⟩
  | _, _ => zeroPc
inductive Nx where
  | no
  | bad (c : Nat)
  | pc (p : Pc) (n : Nat)
def nextP (limit : Nat) (hd dd : Bool) (l : List UInt8) : Nx :=
  if l.length < 48 then .no else if limit < dataN l then .bad 4 else if l.length < allN l hd dd then .no else
  match prE (l.take (allN l hd dd)) hd dd with
  | some c => if c = 13 then .pc { zeroPc with sp := l.take 48 } (allN l hd dd) else .bad c
  | none => .pc (okPc (l.take (allN l hd dd)) hd) (allN l hd dd)
def allP (limit : Nat) (hd dd : Bool) : Nat → List UInt8 → List Pc × Nat × List UInt8
  | 0, l => ([], 0, l)
  | f + 1, l => match nextP limit hd dd l with
    | .no => ([], 0, l)
    | .bad c => ([], c, [])
    | .pc p n => (p :: (allP limit hd dd f (l.drop n)).1, (allP limit hd dd f (l.drop n)).2.1, (allP limit hd dd f (l.drop n)).2.2)
theorem dataN_append (a b : List UInt8) (h : 48 ≤ a.length) : dataN (a ++ b) = dataN a := by
  unfold dataN
  rw [rB_append _ _ _ (by omega), rB_append _ _ _ (by omega), rB_append _ _ _ (by omega)]
theorem allN_append (a b : List UInt8) (hd dd : Bool) (h : 48 ≤ a.length) : allN (a ++ b) hd dd = allN a hd dd := by
  unfold allN
  rw [dataN_append a b h, rB_append _ _ _ (by omega)]
theorem allN_ge (l : List UInt8) (hd dd : Bool) : 48 ≤ allN l hd dd := by unfold allN; omega
theorem nextP_pc {limit : Nat} {hd dd : Bool} {l : List UInt8} {p : Pc} {n : Nat} (h : nextP limit hd dd l = .pc p n) : 48 ≤ n ∧ n ≤ l.length ∧ n = allN l hd dd := by
  unfold nextP at h
  split at h
  · cases h
  split at h
  · cases h
  split at h
  · cases h
  have h48 := allN_ge l hd dd
  split at h
  · split at h
    · injection h with h1 h2
      exact ⟨by omega, by omega, h2.symm⟩
    · cases h
  · injection h with h1 h2
    exact ⟨by omega, by omega, h2.symm⟩
theorem nextP_append {limit : Nat} {hd dd : Bool} {a b : List UInt8} (h : nextP limit hd dd a ≠ .no) : nextP limit hd dd (a ++ b) = nextP limit hd dd a := by
  unfold nextP at h ⊢
  by_cases h1 : a.length < 48
  · rw [if_pos h1] at h
    exact absurd rfl h
  rw [if_neg h1] at h ⊢
  rw [if_neg (by rw [List.length_append]; omega), dataN_append a b (by omega), allN_append a b hd dd (by omega)]
  by_cases h2 : limit < dataN a
  · rw [if_pos h2, if_pos h2]
  rw [if_neg h2] at h ⊢
  rw [if_neg h2]
  by_cases h3 : a.length < allN a hd dd
  · rw [if_pos h3] at h
    exact absurd rfl h
  rw [if_neg h3, if_neg (by rw [List.length_append]; omega), List.take_append_of_le_length (by omega), List.take_append_of_le_length (by omega)]
theorem allP_no {limit : Nat} {hd dd : Bool} {f : Nat} {l : List UInt8} (h : nextP limit hd dd l = .no) : allP limit hd dd f l = ([], 0, l) := by
  rcases f with _ | f
  · rfl
  · rw [allP, h]
theorem allP_fuel (limit : Nat) (hd dd : Bool) : ∀ (f g : Nat) (l : List UInt8), l.length ≤ f → l.length ≤ g → allP limit hd dd f l = allP limit hd dd g l
  | 0, g, l, hf, hg => by
    have hl : l = [] := List.eq_nil_of_length_eq_zero (by omega)
    subst hl
    exact (allP_no (by unfold nextP; rfl)).symm
  | f + 1, 0, l, hf, hg => by
    have hl : l = [] := List.eq_nil_of_length_eq_zero (by omega)
    subst hl
    exact allP_no (by unfold nextP; rfl)
  | f + 1, g + 1, l, hf, hg => by
    rw [allP, allP]
    rcases hn : nextP limit hd dd l with _ | c | ⟨p, n⟩
    · rfl
    · rfl
    · obtain ⟨h1, h2, h3⟩ := nextP_pc hn
      simp only
      rw [allP_fuel limit hd dd f g (l.drop n) (by rw [List.length_drop]; omega) (by rw [List.length_drop]; omega)]
def allF (limit : Nat) (hd dd : Bool) (l : List UInt8) : List Pc × Nat × List UInt8 := allP limit hd dd l.length l
theorem nextP_nil (limit : Nat) (hd dd : Bool) : nextP limit hd dd [] = .no := by unfold nextP; rfl
theorem allF_no {limit : Nat} {hd dd : Bool} {l : List UInt8} (h : nextP limit hd dd l = .no) : allF limit hd dd l = ([], 0, l) := allP_no h
theorem allF_bad {limit : Nat} {hd dd : Bool} {l : List UInt8} {c : Nat} (h : nextP limit hd dd l = .bad c) : allF limit hd dd l = ([], c, []) := by
  unfold allF
  rcases l with _ | ⟨x, l⟩
  · unfold nextP at h; cases h
  · rw [List.length_cons, allP, h]
theorem allF_pc {limit : Nat} {hd dd : Bool} {l : List UInt8} {p : Pc} {n : Nat} (h : nextP limit hd dd l = .pc p n) : allF limit hd dd l = (p :: (allF limit hd dd (l.drop n)).1, (allF limit hd dd (l.drop n)).2.1, (allF limit hd dd (l.drop n)).2.2) := by
  obtain ⟨h1, h2, h3⟩ := nextP_pc h
  unfold allF
  obtain ⟨f, hf⟩ : ∃ f, l.length = f + 1 := ⟨l.length - 1, by omega⟩
  rw [hf, allP, h]
  simp only
  rw [allP_fuel limit hd dd f (l.drop n).length (l.drop n) (by rw [List.length_drop]; omega) (Nat.le_refl _)]
theorem nextP_code {limit : Nat} {hd dd : Bool} {l : List UInt8} {c : Nat} (h : nextP limit hd dd l = .bad c) (h0 : prE (l.take (allN l hd dd)) hd dd ≠ some 0) : c ≠ 0 := by
  unfold nextP at h
  split at h
  · cases h
  split at h
  · injection h with h; omega
  split at h
  · cases h
  split at h
  · rename_i c' hc
    split at h
    · cases h
    · injection h with h
      subst h
      rintro rfl
      exact h0 hc
  · cases h
/- in two parts it is what it is at once -/
theorem allF_cut (limit : Nat) (hd dd : Bool) : ∀ (m : Nat) (a b : List UInt8), a.length ≤ m → ((allF limit hd dd a).2.1 = 0 → (∀ l' c, nextP limit hd dd l' = .bad c → c ≠ 0) →
      allF limit hd dd (a ++ b) = ((allF limit hd dd a).1 ++ (allF limit hd dd ((allF limit hd dd a).2.2 ++ b)).1, (allF limit hd dd ((allF limit hd dd a).2.2 ++ b)).2.1, (allF limit hd dd ((allF limit hd dd a).2.2 ++ b)).2.2)) ∧
    ((allF limit hd dd a).2.1 ≠ 0 → allF limit hd dd (a ++ b) = allF limit hd dd a)
  | 0, a, b, hm => by
    have hl : a = [] := List.eq_nil_of_length_eq_zero (by omega)
    subst hl
    rw [allF_no (nextP_nil limit hd dd)]
    exact ⟨fun _ _ => by simp, fun h => absurd rfl h⟩
  | m + 1, a, b, hm => by
    rcases hn : nextP limit hd dd a with _ | c | ⟨p, n⟩
    · rw [allF_no hn]
      exact ⟨fun _ _ => by simp, fun h => absurd rfl h⟩
    · rw [allF_bad hn, allF_bad ((nextP_append (b := b) (by rw [hn]; intro h; cases h)).trans hn)]
      exact ⟨fun h hc => absurd h (hc _ _ hn), fun _ => rfl⟩
    · obtain ⟨h1, h2, h3⟩ := nextP_pc hn
      obtain ⟨i1, i2⟩ := allF_cut limit hd dd m (a.drop n) b (by rw [List.length_drop]; omega)
      have hd2 : (a ++ b).drop n = a.drop n ++ b := List.drop_append_of_le_length h2
      rw [allF_pc ((nextP_append (b := b) (by rw [hn]; intro h; cases h)).trans hn), allF_pc hn, hd2]
      refine ⟨fun h hc => ?_, fun h => ?_⟩
      · rw [i1 h hc]
        simp
      · rw [i2 h]
/- behind all that is there nothing comes -/
theorem allF_rest (limit : Nat) (hd dd : Bool) : ∀ (m : Nat) (a : List UInt8), a.length ≤ m → (allF limit hd dd a).2.1 = 0 → (∀ l' c, nextP limit hd dd l' = .bad c → c ≠ 0) → nextP limit hd dd (allF limit hd dd a).2.2 = .no
  | 0, a, hm, h, hc => by
    have hl : a = [] := List.eq_nil_of_length_eq_zero (by omega)
    subst hl
    rw [allF_no (nextP_nil limit hd dd)]
    exact nextP_nil limit hd dd
  | m + 1, a, hm, h, hc => by
    rcases hn : nextP limit hd dd a with _ | c | ⟨p, n⟩
    · rw [allF_no hn]; exact hn
    · rw [allF_bad hn] at h
      exact absurd h (hc _ _ hn)
    · obtain ⟨h1, h2, h3⟩ := nextP_pc hn
      rw [allF_pc hn] at h ⊢
      exact allF_rest limit hd dd m (a.drop n) (by rw [List.length_drop]; omega) h hc
theorem allF_bad_rest (limit : Nat) (hd dd : Bool) : ∀ (m : Nat) (a : List UInt8), a.length ≤ m → (allF limit hd dd a).2.1 ≠ 0 → (allF limit hd dd a).2.2 = []
  | 0, a, hm, h => by
    have hl : a = [] := List.eq_nil_of_length_eq_zero (by omega)
    subst hl
    rw [allF_no (nextP_nil limit hd dd)]
  | m + 1, a, hm, h => by
    rcases hn : nextP limit hd dd a with _ | c | ⟨p, n⟩
    · rw [allF_no hn] at h; exact absurd rfl h
    · rw [allF_bad hn]
    · obtain ⟨h1, h2, h3⟩ := nextP_pc hn
      rw [allF_pc hn] at h ⊢
      exact allF_bad_rest limit hd dd m (a.drop n) (by rw [List.length_drop]; omega) h
theorem allF_left (limit : Nat) (hd dd : Bool) : ∀ (m : Nat) (a : List UInt8), a.length ≤ m → (allF limit hd dd a).2.2.length ≤ a.length ∧ 48 * (allF limit hd dd a).1.length ≤ a.length
  | 0, a, hm => by
    have hl : a = [] := List.eq_nil_of_length_eq_zero (by omega)
    subst hl
    rw [allF_no (nextP_nil limit hd dd)]
    simp
  | m + 1, a, hm => by
    rcases hn : nextP limit hd dd a with _ | c | ⟨p, n⟩
    · rw [allF_no hn]; simp
    · rw [allF_bad hn]; simp
    · obtain ⟨h1, h2, h3⟩ := nextP_pc hn
      rw [allF_pc hn]
      obtain ⟨i1, i2⟩ := allF_left limit hd dd m (a.drop n) (by rw [List.length_drop]; omega)
      rw [List.length_drop] at i1 i2
      simp only [List.length_cons]
      omega
/- no code is 0 -/
theorem rangeGo_nz : ∀ (fs : FieldL) (vs : List Nat) (i : Nat) (e : Nat × Option Nat), rangeGo fs vs i = some e → e.1 ≠ 0
  | [], vs, i, e, h => by simp [rangeGo] at h
  | f :: fs, vs, i, e, h => by
    rcases vs with _ | ⟨v, vs⟩
    · simp [rangeGo] at h
    · rw [rangeGo] at h
      split at h
      · injection h with h; subst h; simp
      · exact rangeGo_nz fs vs _ e h
theorem rightR_nz {op : Int} {now : Bool} {fl : Int} {vals : List Nat} {e : Nat × Option Nat} (h : rightR op now fl vals = some e) : e.1 ≠ 0 := by
  unfold rightR at h
  split at h
  · injection h with h; subst h; decide
  · split at h
    · injection h with h; subst h; decide
    · split at h
      · injection h with h; subst h; decide
      · exact rangeGo_nz _ _ _ e h
theorem readE_nz {l : List UInt8} {e : Nat × Option Nat} (h : readE l = some e) : e.1 ≠ 0 := by
  unfold readE at h
  split at h
  · injection h with h; subst h; decide
  split at h
  · injection h with h; subst h; decide
  split at h
  · injection h with h; subst h; decide
  split at h
  · rename_i e' he
    injection h with h; subst h
    exact rightR_nz he
  · split at h
    · cases h
    · injection h with h; subst h; decide
theorem readGo_nz : ∀ (f : Nat) (r : List UInt8) (i : Nat) (c : Nat × Nat), readGo f r i = .inl c → c.1 ≠ 0
  | 0, r, i, c, h => by rw [readGo] at h; cases h
  | f + 1, r, i, c, h => by
    rw [readGo] at h
    split at h
    · cases h
    split at h
    · injection h with h; subst h; simp
    split at h
    · rename_i hu
      injection h with h; subst h; exact hu
    split at h
    · rename_i e he
      injection h with h; subst h
      exact readGo_nz f _ _ e he
    · cases h
theorem prE_nz (l : List UInt8) (hd dd : Bool) : prE l hd dd ≠ some 0 := by
  intro h
  unfold prE bodyE at h
  split at h
  · injection h with h; omega
  split at h
  · injection h with h; omega
  split at h
  · injection h with h; omega
  split at h
  · rename_i c hc
    injection h with h
    exact readE_nz hc h
  split at h
  · rename_i c hc
    injection h with h
    exact readGo_nz _ _ _ c hc h
  split at h
  · rename_i hu
    injection h with h
    exact hu h
  split at h
  · injection h with h; omega
  split at h
  · injection h with h; omega
  · cases h
theorem next_nz (limit : Nat) (hd dd : Bool) : ∀ l' c, nextP limit hd dd l' = .bad c → c ≠ 0 := fun l' c h => nextP_code h (prE_nz _ _ _)
end Go.Proofs.YtifniblffjgfkaaGreatDoor
