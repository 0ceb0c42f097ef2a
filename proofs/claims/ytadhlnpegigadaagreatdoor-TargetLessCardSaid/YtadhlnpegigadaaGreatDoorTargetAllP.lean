/- TargetAll, the plain law: who is there is each target. -/
import Derived.Test.YtadhlnpegigadaaGreatDoorTargetList
namespace Go.Proofs.YtadhlnpegigadaaGreatDoor
set_option linter.unusedVariables false
theorem tgGo_none : ∀ (l pre : List (List UInt8)), tgGo pre l = none → (∀ t ∈ l, txtB t = true ∧ t ∉ pre) ∧ l.Nodup
  | [], _, _ => ⟨fun t ht => (List.not_mem_nil ht).elim, List.nodup_nil⟩
  | t :: r, pre, h => by
    rw [tgGo] at h
    split at h
    · rename_i hc
      obtain ⟨h1, h2⟩ := tgGo_none r _ h
      refine ⟨fun x hx => ?_, ?_⟩
      · rcases List.mem_cons.1 hx with rfl | hx
        · exact hc
        · exact ⟨(h1 x hx).1, fun hp => (h1 x hx).2 (List.mem_append_left _ hp)⟩
      · rw [List.nodup_cons]
        exact ⟨fun hm => (h1 t hm).2 (by simp), h2⟩
    · cases h
theorem tgGo_ok : ∀ (l pre : List (List UInt8)), (∀ t ∈ l, txtB t = true ∧ t ∉ pre) → l.Nodup → tgGo pre l = none
  | [], _, _, _ => rfl
  | t :: r, pre, h, hn => by
    rw [tgGo, if_pos (h t (by simp))]
    rw [List.nodup_cons] at hn
    refine tgGo_ok r _ (fun x hx => ⟨(h x (by simp [hx])).1, fun hp => ?_⟩) hn.2
    rcases List.mem_append.1 hp with hp | hp
    · exact (h x (by simp [hx])).2 hp
    · simp at hp
      subst hp
      exact hn.1 hx
theorem poGo_none : ∀ (l : PoL) (k : Nat), poGo k l = none ↔ ∀ p ∈ l, txtB p.1.data.toList = true ∧ 0 ≤ p.2 ∧ p.2 ≤ 65535
  | [], k => by simp [poGo]
  | p :: r, k => by
    rw [poGo]
    by_cases h1 : txtB p.1.data.toList = false
    · rw [if_pos h1]
      constructor
      · intro h; cases h
      · intro h
        have := (h p (by simp)).1
        rw [h1] at this
        cases this
    · rw [if_neg h1]
      by_cases h2 : p.2 < 0 ∨ p.2 > 65535
      · rw [if_pos h2]
        constructor
        · intro h; cases h
        · intro h
          have := (h p (by simp)).2
          omega
      · rw [if_neg h2, poGo_none r]
        constructor
        · intro h q hq
          rcases List.mem_cons.1 hq with rfl | hq
          · exact ⟨by simpa using h1, by omega, by omega⟩
          · exact h q hq
        · intro h q hq
          exact h q (by simp [hq])
theorem usGo_none : ∀ (l : PairL) (pre : List (List UInt8)), usGo pre l = none ↔ (∀ u ∈ l, txtB u.1.data.toList = true ∧ txtB u.2.data.toList = true ∧ u.1.data.toList ∉ pre) ∧ (l.map fun u => u.1.data.toList).Nodup
  | [], pre => by simp [usGo]
  | u :: r, pre => by
    rw [usGo]
    by_cases hc : (txtB u.1.data.toList = true ∧ txtB u.2.data.toList = true) ∧ u.1.data.toList ∉ pre
    · rw [if_pos hc, usGo_none r, List.map_cons, List.nodup_cons]
      constructor
      · rintro ⟨h1, h2⟩
        refine ⟨fun x hx => ?_, fun hm => ?_, h2⟩
        · rcases List.mem_cons.1 hx with rfl | hx
          · exact ⟨hc.1.1, hc.1.2, hc.2⟩
          · exact ⟨(h1 x hx).1, (h1 x hx).2.1, fun hp => (h1 x hx).2.2 (List.mem_append_left _ hp)⟩
        · obtain ⟨x, hx, he⟩ := List.mem_map.1 hm
          exact (h1 x hx).2.2 (by rw [he]; simp)
      · rintro ⟨h1, h2, h3⟩
        refine ⟨fun x hx => ⟨(h1 x (by simp [hx])).1, (h1 x (by simp [hx])).2.1, fun hp => ?_⟩, h3⟩
        rcases List.mem_append.1 hp with hp | hp
        · exact (h1 x (by simp [hx])).2.2 hp
        · simp at hp
          exact h2 (List.mem_map.2 ⟨x, hx, by rw [hp]⟩)
    · rw [if_neg hc]
      constructor
      · intro h; cases h
      · rintro ⟨h1, _⟩
        have := h1 u (by simp)
        exact (hc ⟨⟨this.1, this.2.1⟩, this.2.2⟩).elim
theorem cRight_parts (c : Cfg) : cRight c = none ↔ (c.tg.length ≤ 8 ∧ c.po.length ≤ 4 ∧ c.us.length ≤ 8) ∧ tgGo [] c.tg = none ∧ poGo 0 c.po = none ∧ usGo [] c.us = none ∧ selfR c = none := by
  unfold cRight
  by_cases h : c.tg.length > 8 ∨ c.po.length > 4 ∨ c.us.length > 8
  · rw [if_pos h]
    constructor
    · intro h; cases h
    · rintro ⟨h1, _⟩; omega
  · rw [if_neg h]
    have h' : c.tg.length ≤ 8 ∧ c.po.length ≤ 4 ∧ c.us.length ≤ 8 := by omega
    rcases h1 : tgGo [] c.tg with _ | e
    · rcases h2 : poGo 0 c.po with _ | e
      · rcases h3 : usGo [] c.us with _ | e
        · simp [h']
        · simp
      · simp
    · simp
theorem digits_val : ∀ (n u : Nat), u < n → (Lib.decDigits u).all valC = true
  | 0, u, h => by omega
  | n + 1, u, h => by
    rw [Lib.decDigits]
    have hd : ∀ k, k < 10 → valC (UInt8.ofNat (48 + k)) = true := by decide
    split
    · rw [List.all_cons, List.all_nil, hd u (by omega)]; rfl
    · rw [List.all_append, digits_val n (u / 10) (by omega)]
      rw [List.all_cons, List.all_nil, hd (u % 10) (by omega)]; rfl
theorem txt_val {l : List UInt8} (h : txtB l = true) : l.length ≤ 100 ∧ l.all valC = true := by
  unfold txtB valB at h
  simp only [Bool.and_eq_true, decide_eq_true_eq] at h
  exact ⟨h.2.1, h.2.2.1⟩
theorem adr_val (p : ByteArray × Int) (h1 : txtB p.1.data.toList = true) (h2 : 0 ≤ p.2) (h3 : p.2 ≤ 65535) : valB (adr p).2.data.toList = true := by
  obtain ⟨hl, hv⟩ := txt_val h1
  have e : (adr p).2.data.toList = p.1.data.toList ++ [44] ++ Lib.itoa p.2 := by
    unfold adr
    simp only [ByteArray.data_append, Array.toList_append]
  rw [e]
  have hi := Lib.itoa_length_le p.2 (by omega) (by omega)
  have hd : (Lib.itoa p.2).all valC = true := by
    unfold Lib.itoa
    rw [if_neg (by omega)]
    exact digits_val _ _ (Nat.lt_succ_self _)
  unfold valB
  rw [List.all_append, List.all_append, hv, hd]
  simp only [List.length_append, List.length_cons, List.length_nil]
  have hz := len_of p.1
  simp
  exact ⟨by decide, by omega⟩
theorem listG_one (po : PoL) (t : List UInt8) : ∀ (l : List (List UInt8)), l.Nodup → t ∈ l → listG po t false l = oneT po t
  | [], _, h => (List.not_mem_nil h).elim
  | x :: r, hn, h => by
    rw [List.nodup_cons] at hn
    have e : listG po t false (x :: r) = (if false = true ∨ x = t then oneT po x else []) ++ listG po t false r := rfl
    have hno : t ∉ r → listG po t false r = [] := by
      intro ht
      unfold listG
      rw [List.flatMap_eq_nil_iff]
      intro y hy
      rw [if_neg]
      rintro (h | h)
      · cases h
      · subst h; exact ht hy
    rw [e]
    rcases List.mem_cons.1 h with rfl | h
    · rw [if_pos (Or.inr rfl), hno hn.1, List.append_nil]
    · rw [if_neg, List.nil_append]
      · exact listG_one po t r hn.2 h
      · rintro (h' | h')
        · cases h'
        · subst h'; exact hn.1 h
theorem all_right (po : PoL) (x : List UInt8) (tg : List (List UInt8)) (h1 : ∀ t ∈ tg, txtB t = true) (h2 : ∀ p ∈ po, txtB p.1.data.toList = true ∧ 0 ≤ p.2 ∧ p.2 ≤ 65535) (h3 : tg.length ≤ 8) (h4 : po.length ≤ 4) : pRightR (listG po x true tg) = none := by
  have hl := listG_len po x true tg
  have hm : tg.length * (po.length + 1) ≤ 8 * 5 := Nat.mul_le_mul h3 (by omega)
  rw [pRightR, if_neg (by omega), pRightGo_ok]
  · rfl
  · intro p hp
    unfold listG at hp
    obtain ⟨t, ht, hp⟩ := List.mem_flatMap.1 hp
    rw [if_pos (Or.inl rfl)] at hp
    rcases List.mem_cons.1 hp with rfl | hp
    · refine ⟨(by decide +kernel : keyB tnB.data.toList = true), ?_⟩
      obtain ⟨ha, hb⟩ := txt_val (h1 t ht)
      show valB t = true
      unfold valB
      rw [hb]
      simp
      omega
    · obtain ⟨q, hq, rfl⟩ := List.mem_map.1 hp
      refine ⟨(by decide +kernel : keyB taB.data.toList = true), ?_⟩
      have := h2 q hq
      exact adr_val q this.1 this.2.1 this.2.2
end Go.Proofs.YtadhlnpegigadaaGreatDoor
