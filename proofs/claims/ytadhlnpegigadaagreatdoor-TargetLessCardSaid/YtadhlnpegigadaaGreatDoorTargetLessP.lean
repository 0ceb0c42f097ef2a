/- TargetLess, the plain law: what is right is right without one. -/
import Derived.Test.YtadhlnpegigadaaGreatDoorTargetAllP
namespace Go.Proofs.YtadhlnpegigadaaGreatDoor
set_option linter.unusedVariables false
def lessL {α : Type} (l : List α) (i : Nat) : List α := l.take i ++ l.drop (i + 1)
theorem lessL_sub {α : Type} (l : List α) (i : Nat) : (lessL l i).Sublist l := by
  unfold lessL
  rw [← List.eraseIdx_eq_take_drop_succ]
  exact List.eraseIdx_sublist l i
theorem less_map {α β : Type} (f : α → β) (l : List α) (i : Nat) : (l.map f).take i ++ (l.map f).drop (i + 1) = (lessL l i).map f := by
  unfold lessL
  rw [List.map_append, List.map_take, List.map_drop]
theorem flat2_take {α β : Type} (f : α → List β) (hf : ∀ x, (f x).length = 2) : ∀ (l : List α) (i : Nat), (l.flatMap f).take (i * 2) = (l.take i).flatMap f
  | [], i => by simp
  | x :: l, 0 => by simp
  | x :: l, i + 1 => by
    rw [List.flatMap_cons, List.take_succ_cons, List.flatMap_cons, List.take_append, hf, List.take_of_length_le (by rw [hf]; omega), show (i + 1) * 2 - 2 = i * 2 by omega, flat2_take f hf l i]
theorem flat2_drop {α β : Type} (f : α → List β) (hf : ∀ x, (f x).length = 2) : ∀ (l : List α) (i : Nat), (l.flatMap f).drop (i * 2) = (l.drop i).flatMap f
  | [], i => by simp
  | x :: l, 0 => by simp
  | x :: l, i + 1 => by
    rw [List.flatMap_cons, List.drop_succ_cons, List.drop_append, hf, List.drop_of_length_le (by rw [hf]; omega), List.nil_append, show (i + 1) * 2 - 2 = i * 2 by omega, flat2_drop f hf l i]
theorem less_pocells (l : PoL) (i : Nat) : (poCells l).take (i * 2) ++ (poCells l).drop ((i + 1) * 2) = poCells (lessL l i) := by
  unfold lessL poCells
  rw [flat2_take _ (fun _ => rfl), flat2_drop _ (fun _ => rfl), List.flatMap_append]
theorem less_paircells (l : PairL) (i : Nat) : (pairCells l).take (i * 2) ++ (pairCells l).drop ((i + 1) * 2) = pairCells (lessL l i) := by
  unfold lessL pairCells
  rw [flat2_take _ (fun _ => rfl), flat2_drop _ (fun _ => rfl), List.flatMap_append]
theorem lessL_len {α : Type} (l : List α) (i : Nat) (h : i < l.length) : (lessL l i).length = l.length - 1 := by
  unfold lessL
  rw [List.length_append, List.length_take, List.length_drop]
  omega
theorem less_tg (c : Cfg) (i : Nat) (h : cRight c = none) : cRight { c with tg := lessL c.tg i } = none := by
  rw [cRight_parts] at h ⊢
  obtain ⟨⟨h1, h2, h3⟩, h4, h5, h6, h7⟩ := h
  have hs := lessL_sub c.tg i
  obtain ⟨ha, hb⟩ := tgGo_none _ _ h4
  refine ⟨⟨Nat.le_trans hs.length_le h1, h2, h3⟩, tgGo_ok _ _ (fun t ht => ha t (hs.subset ht)) (hb.sublist hs), h5, h6, h7⟩
theorem less_po (c : Cfg) (i : Nat) (h : cRight c = none) : cRight { c with po := lessL c.po i } = none := by
  rw [cRight_parts] at h ⊢
  obtain ⟨⟨h1, h2, h3⟩, h4, h5, h6, h7⟩ := h
  have hs := lessL_sub c.po i
  rw [poGo_none] at h5
  refine ⟨⟨h1, Nat.le_trans hs.length_le h2, h3⟩, h4, (poGo_none _ _).2 (fun p hp => h5 p (hs.subset hp)), h6, h7⟩
theorem less_us (c : Cfg) (i : Nat) (h : cRight c = none) : cRight { c with us := lessL c.us i } = none := by
  rw [cRight_parts] at h ⊢
  obtain ⟨⟨h1, h2, h3⟩, h4, h5, h6, h7⟩ := h
  have hs := lessL_sub c.us i
  rw [usGo_none] at h6
  refine ⟨⟨h1, h2, Nat.le_trans hs.length_le h3⟩, h4, h5, (usGo_none _ _).2 ⟨fun u hu => h6.1 u (hs.subset hu), h6.2.sublist (hs.map _)⟩, h7⟩
theorem small_tg {c : Cfg} (h : c.Small) (i : Nat) : ({ c with tg := lessL c.tg i } : Cfg).Small := ⟨fun t ht => h.tg t ((lessL_sub _ _).subset ht), h.po, h.us, h.sn, h.ss, h.lim, h.own⟩
theorem small_po {c : Cfg} (h : c.Small) (i : Nat) : ({ c with po := lessL c.po i } : Cfg).Small := ⟨h.tg, fun t ht => h.po t ((lessL_sub _ _).subset ht), h.us, h.sn, h.ss, h.lim, h.own⟩
theorem small_us {c : Cfg} (h : c.Small) (i : Nat) : ({ c with us := lessL c.us i } : Cfg).Small := ⟨h.tg, h.po, fun t ht => h.us t ((lessL_sub _ _).subset ht), h.sn, h.ss, h.lim, h.own⟩
end Go.Proofs.YtadhlnpegigadaaGreatDoor
