/- Keys and values as text: what is read is right, and is written so; what is written is read; cut: the plain laws. -/
import Derived.Test.YthfibnoekfkamaaDoorPairsPrint
namespace Go.Proofs.YthfibnoekfkamaaDoor
set_option linter.unusedVariables false
theorem cut_true {s x r : List UInt8} {c : UInt8} (h : Lib.cut s [c] = (x, r, true)) : s = x ++ c :: r ∧ ∀ y ∈ x, y ≠ c := by
  by_cases hn : Lib.indexByte s c < 0
  · rw [cut_no hn] at h; cases h
  · obtain ⟨n, hn⟩ := Int.eq_ofNat_of_zero_le (show 0 ≤ Lib.indexByte s c by omega)
    rw [cut_yes hn] at h
    obtain ⟨h1, h2⟩ := Lib.indexByte_some hn
    have hlt : n < s.length := (List.getElem?_eq_some_iff.1 h1).1
    have hx : x = s.take n := (congrArg Prod.fst h).symm
    have hr : r = s.drop (n + 1) := (congrArg (fun t => t.2.1) h).symm
    subst hx hr
    refine ⟨?_, fun y hy => ?_⟩
    · have e : s.drop n = c :: s.drop (n + 1) := by
        rw [List.drop_eq_getElem_cons hlt]
        rw [List.getElem?_eq_getElem hlt] at h1
        rw [Option.some.inj h1]
      rw [← e, List.take_append_drop]
    · obtain ⟨k, hk, rfl⟩ := List.getElem_of_mem hy
      rw [List.length_take] at hk
      intro he
      refine h2 k (by omega) ?_
      rw [List.getElem?_eq_getElem (by omega), ← he, List.getElem_take]
theorem cut_none {s : List UInt8} {c : UInt8} (h : ∀ y ∈ s, y ≠ c) : (Lib.cut s [c]).2.2 = false := by
  by_cases hn : Lib.indexByte s c < 0
  · rw [cut_no hn]
  · obtain ⟨n, hn⟩ := Int.eq_ofNat_of_zero_le (show 0 ≤ Lib.indexByte s c by omega)
    obtain ⟨h1, _⟩ := Lib.indexByte_some hn
    obtain ⟨hlt, he⟩ := List.getElem?_eq_some_iff.1 h1
    exact absurd he (h _ (List.getElem_mem hlt))
theorem right1_zero {k v : List UInt8} (h : right1 k v = 0) : keyB k = true ∧ valB v = true := by
  unfold right1 at h
  split at h
  · cases h
  · split at h
    · cases h
    · rename_i h1 h2
      exact ⟨by simpa using h1, by simpa using h2⟩
theorem parse_ok : ∀ (f : Nat) (s : List UInt8) (i : Nat) (l : PairL), s.length < f → i ≤ 60 → parseGo f s i = .inr l → pairsB l = s ∧ (∀ p ∈ l, keyB p.1.data.toList = true ∧ valB p.2.data.toList = true) ∧ l.length + i ≤ 60
  | 0, s, i, l, hf, _, _ => by omega
  | f + 1, s, i, l, hf, hi, h => by
    rw [parseGo] at h
    split at h
    · rename_i h0
      cases h
      have : s = [] := by simpa using h0
      subst this
      exact ⟨rfl, fun p hp => (List.not_mem_nil hp).elim, by simpa using hi⟩
    · split at h
      · cases h
      · rename_i h0 h1
        obtain ⟨⟨x, r, b⟩, hc⟩ : ∃ t, Lib.cut s [0] = t := ⟨_, rfl⟩
        rw [hc] at h h1
        simp only at h h1
        have hb : b = true := by simpa using h1
        subst hb
        split at h
        · cases h
        · rename_i h2
          obtain ⟨⟨k, v, b2⟩, hc2⟩ : ∃ t, Lib.cut x [61] = t := ⟨_, rfl⟩
          rw [hc2] at h h2
          simp only at h h2
          have hb : b2 = true := by simpa using h2
          subst hb
          split at h
          · cases h
          · rename_i h60
            split at h
            · cases h
            · rename_i hr1
              have hr1 : right1 k v = 0 := by simpa using hr1
              obtain ⟨e1, _⟩ := cut_true hc
              obtain ⟨e2, _⟩ := cut_true hc2
              obtain ⟨k1, k2⟩ := right1_zero hr1
              have hlr : r.length < s.length := by rw [e1, List.length_append, List.length_cons]; omega
              split at h
              · cases h
              · rename_i m hm
                cases h
                obtain ⟨i1, i2, i3⟩ := parse_ok f r (i + 1) m (by omega) (by omega) hm
                refine ⟨?_, ?_, ?_⟩
                · show pairB _ ++ pairsB m = s
                  rw [i1, e1, e2]
                  simp [pairB]
                · intro p hp
                  rcases List.mem_cons.1 hp with rfl | hp
                  · exact ⟨k1, k2⟩
                  · exact i2 p hp
                · rw [List.length_cons]; omega
theorem keyGo_mem : ∀ (l : List UInt8) (i : Nat), keyGo l i = true → ∀ c ∈ l, greatB c = true ∨ mayB c = true
  | [], _, _, c, hc => (List.not_mem_nil hc).elim
  | d :: l, i, h, c, hc => by
    rw [keyGo] at h
    split at h
    · rename_i h1
      rcases List.mem_cons.1 hc with rfl | hc
      · rcases h1 with h1 | h1
        · exact .inl h1
        · exact .inr h1.2
      · exact keyGo_mem l _ h c hc
    · cases h
theorem char_ne (c : UInt8) (h : greatB c = true ∨ mayB c = true) : c ≠ 61 ∧ c ≠ 0 := by
  constructor
  · rintro rfl
    exact absurd h (by decide +kernel)
  · rintro rfl
    exact absurd h (by decide +kernel)
theorem keyB_mem {l : List UInt8} (h : keyB l = true) : ∀ c ∈ l, c ≠ 61 ∧ c ≠ 0 := by
  intro c hc
  unfold keyB at h
  rw [Bool.and_eq_true] at h
  exact char_ne c (keyGo_mem l 0 h.1 c hc)
theorem valB_mem {l : List UInt8} (h : valB l = true) : ∀ c ∈ l, c ≠ 0 := by
  intro c hc
  unfold valB at h
  rw [Bool.and_eq_true, List.all_eq_true] at h
  have := h.1 c hc
  rintro rfl
  exact absurd this (by decide)
theorem keyB_ne {l : List UInt8} (h : keyB l = true) : l ≠ [] := by
  rintro rfl
  exact absurd h (by decide)
theorem right1_ok {k v : List UInt8} (h1 : keyB k = true) (h2 : valB v = true) : right1 k v = 0 := by
  unfold right1
  rw [if_neg (by rw [h1]; simp), if_neg (by rw [h2]; simp)]
def rightP (l : PairL) : Prop := ∀ p ∈ l, keyB p.1.data.toList = true ∧ valB p.2.data.toList = true
theorem parse_step (p : ByteArray × ByteArray) (t : List UInt8) (f i : Nat) (h1 : keyB p.1.data.toList = true) (h2 : valB p.2.data.toList = true) (hi : i < 60) :
    parseGo (f + 1) (pairB p ++ t) i = pAcc [p] (parseGo f t (i + 1)) := by
  have hk := keyB_mem h1
  have hv := valB_mem h2
  have e1 : pairB p ++ t = (p.1.data.toList ++ 61 :: p.2.data.toList) ++ 0 :: t := by simp [pairB]
  have hc : Lib.cut (pairB p ++ t) [0] = (p.1.data.toList ++ 61 :: p.2.data.toList, t, true) := by
    rw [e1]
    refine cut_append _ _ _ fun y hy => ?_
    rcases List.mem_append.1 hy with hy | hy
    · exact (hk y hy).2
    · rcases List.mem_cons.1 hy with rfl | hy
      · decide
      · exact hv y hy
  have hc2 : Lib.cut (p.1.data.toList ++ 61 :: p.2.data.toList) [61] = (p.1.data.toList, p.2.data.toList, true) := cut_append _ _ _ fun y hy => (hk y hy).1
  rw [parseGo, if_neg (by rw [e1]; simp), hc]
  simp only
  rw [if_neg (by simp), hc2]
  simp only
  rw [if_neg (by simp), if_neg (by omega), if_neg (by rw [right1_ok h1 h2]; simp)]
  have ep : ((⟨p.1.data.toList.toArray⟩ : ByteArray), (⟨p.2.data.toList.toArray⟩ : ByteArray)) = p := by
    rw [← str_of, ← str_of]
  rw [ep]
  cases parseGo f t (i + 1) <;> rfl
theorem parse_app : ∀ (l : PairL) (t : List UInt8) (f i : Nat), rightP l → i + l.length ≤ 60 → (pairsB l ++ t).length < f → ∃ f', t.length < f' ∧ parseGo f (pairsB l ++ t) i = pAcc l (parseGo f' t (i + l.length))
  | [], t, f, i, _, _, hf => ⟨f, by simpa [pairsB] using hf, by
      have e : pairsB [] = [] := rfl
      rw [e, List.nil_append, List.length_nil, Nat.add_zero]
      cases parseGo f t i <;> rfl⟩
  | p :: l, t, f, i, h, hi, hf => by
    obtain ⟨f, rfl⟩ : ∃ f', f = f' + 1 := ⟨f - 1, by omega⟩
    have e : pairsB (p :: l) ++ t = pairB p ++ (pairsB l ++ t) := by simp [pairsB]
    obtain ⟨h1, h2⟩ := h p (by simp)
    rw [List.length_cons] at hi
    rw [e, List.length_append, pairB_len] at hf
    obtain ⟨f', hf', he⟩ := parse_app l t f (i + 1) (fun q hq => h q (by simp [hq])) (by omega) (by omega)
    refine ⟨f', hf', ?_⟩
    rw [e, parse_step p _ f i h1 h2 (by omega), he, pAcc_pAcc, List.length_cons]
    congr 2
    omega
theorem parse_pairsB (l : PairL) (f : Nat) (h : rightP l) (hl : l.length ≤ 60) (hf : (pairsB l).length < f) : parseGo f (pairsB l) 0 = .inr l := by
  obtain ⟨f', hf', he⟩ := parse_app l [] f 0 h (by omega) (by simpa using hf)
  rw [List.append_nil] at he
  rw [he]
  obtain ⟨f', rfl⟩ : ∃ g, f' = g + 1 := ⟨f' - 1, by simp at hf'; omega⟩
  rw [parseGo, if_pos (show ([] : List UInt8).isEmpty = true from rfl)]
  simp [pAcc]
theorem parse_cutoff (l : PairL) (p : ByteArray × ByteArray) (f : Nat) (h : rightP (l ++ [p])) (hl : l.length + 1 ≤ 60) (hf : (pairsB (l ++ [p])).length ≤ f) :
    parseGo f ((pairsB (l ++ [p])).take ((pairsB (l ++ [p])).length - 1)) 0 = .inl (7, some l.length) := by
  have e : (pairsB (l ++ [p])).take ((pairsB (l ++ [p])).length - 1) = pairsB l ++ (p.1.data.toList ++ 61 :: p.2.data.toList) := by
    have e1 : pairsB (l ++ [p]) = (pairsB l ++ (p.1.data.toList ++ 61 :: p.2.data.toList)) ++ [0] := by
      rw [pairsB_snoc]; simp [pairB]
    rw [e1, List.length_append, List.length_singleton, Nat.add_sub_cancel, List.take_left]
  obtain ⟨h1, h2⟩ := h p (by simp)
  have hz : (pairsB (l ++ [p])).length = (pairsB l).length + (p.1.size + p.2.size + 2) := by rw [pairsB_snoc, List.length_append, pairB_len]
  rw [e]
  obtain ⟨f', hf', he⟩ := parse_app l (p.1.data.toList ++ 61 :: p.2.data.toList) f 0 (fun q hq => h q (by simp [hq])) (by omega) (by
    rw [List.length_append, List.length_append, List.length_cons, len_of, len_of]; omega)
  rw [he, Nat.zero_add]
  obtain ⟨f', rfl⟩ : ∃ g, f' = g + 1 := ⟨f' - 1, by omega⟩
  have hk := keyB_mem h1
  have hv := valB_mem h2
  rw [parseGo, if_neg (by simp), if_pos (cut_none fun y hy => by
    rcases List.mem_append.1 hy with hy | hy
    · exact (hk y hy).2
    · rcases List.mem_cons.1 hy with rfl | hy
      · decide
      · exact hv y hy)]
  rfl
theorem count_pairsB (l : PairL) (h : rightP l) : (pairsB l).count 0 = l.length := by
  induction l with
  | nil => rfl
  | cons p l ih =>
    obtain ⟨h1, h2⟩ := h p (by simp)
    have hk := keyB_mem h1
    have hv := valB_mem h2
    have c1 : p.1.data.toList.count 0 = 0 := List.count_eq_zero.2 fun hm => (hk 0 hm).2 rfl
    have c2 : p.2.data.toList.count 0 = 0 := List.count_eq_zero.2 fun hm => hv 0 hm rfl
    have e : pairsB (p :: l) = pairB p ++ pairsB l := rfl
    rw [e, List.count_append, ih fun q hq => h q (by simp [hq]), pairB, List.count_append, List.count_append, List.count_append, c1, c2, List.length_cons]
    simp
    omega
end Go.Proofs.YthfibnoekfkamaaDoor
