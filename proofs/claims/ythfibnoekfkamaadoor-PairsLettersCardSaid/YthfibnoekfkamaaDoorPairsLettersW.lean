/- The walk of the law PairsLetters. -/
import Derived.Test.YthfibnoekfkamaaDoorPairsW1
namespace Go.Proofs.YthfibnoekfkamaaDoor
open Go.ChangeShapes Go.WideShapes Go.ChangeAt Go.RowKit
set_option linter.unusedVariables false
def mayAll (c : UInt8) : Bool := greatB c || mayB c
theorem keyGo_append : ∀ (a b : List UInt8) (i : Nat), keyGo (a ++ b) i = (keyGo a i && keyGo b (i + a.length))
  | [], b, i => by simp [keyGo]
  | c :: a, b, i => by
    rw [List.cons_append, keyGo, keyGo]
    split
    · rw [keyGo_append a b (i + 1), List.length_cons]
      congr 2
      omega
    · rfl
theorem keyB_snoc (l : List UInt8) (c : UInt8) (h : keyB l = true) : keyB (l ++ [c]) = (mayAll c && decide (l.length < 63)) := by
  have hne := keyB_ne h
  have hpos : 0 < l.length := List.length_pos_iff.2 hne
  unfold keyB at h
  rw [Bool.and_eq_true] at h
  have e1 : keyGo [c] (0 + l.length) = mayAll c := by
    rw [keyGo]
    unfold mayAll
    by_cases hg : greatB c = true
    · rw [if_pos (.inl hg), hg]; rfl
    · by_cases hm : mayB c = true
      · rw [if_pos (.inr ⟨by omega, hm⟩), hm]; simp [keyGo]
      · rw [if_neg (by intro h; rcases h with h | h; exact hg h; exact hm h.2)]
        simp [hg, hm]
  unfold keyB
  rw [keyGo_append, h.1, e1]
  have e2 : (l ++ [c]).isEmpty = false := by simp
  have e3 : decide ((l ++ [c]).length ≤ 63) = decide (l.length < 63) := by rw [decide_eq_decide, List.length_append, List.length_singleton]; omega
  rw [e2, e3]
  simp
theorem keyB_head (s : ByteArray) (h : keyB s.data.toList = true) : ∃ h0 : 0 < s.size, 65 ≤ s[0].toNat ∧ s[0].toNat ≤ 90 := by
  have hne := keyB_ne h
  have hpos : 0 < s.size := by rw [← len_of]; exact List.length_pos_iff.2 hne
  refine ⟨hpos, ?_⟩
  have hd := drop_at s 0 hpos
  rw [List.drop_zero] at hd
  unfold keyB at h
  rw [Bool.and_eq_true, hd, keyGo] at h
  have h1 := h.1
  split at h1
  · rename_i h2
    rcases h2 with h2 | h2
    · simpa [greatB] using h2
    · exact absurd rfl h2.1
  · cases h1
theorem may_cases (c : UInt8) : (mayAll c = true ∧ ((97 ≤ c.toNat ∧ c.toNat ≤ 122) ∨ (65 ≤ c.toNat ∧ c.toNat ≤ 90) ∨ (48 ≤ c.toNat ∧ c.toNat ≤ 57))) ∨
    ((mayAll c = decide (0 ≤ Lib.indexByte signTab c)) ∧ (c.toNat < 48 ∨ (57 < c.toNat ∧ c.toNat < 65) ∨ (90 < c.toNat ∧ c.toNat < 97) ∨ 122 < c.toNat)) := by
  have e : mayAll c = ((decide (65 ≤ c.toNat) && decide (c.toNat ≤ 90)) || ((decide (97 ≤ c.toNat) && decide (c.toNat ≤ 122)) || ((decide (48 ≤ c.toNat) && decide (c.toNat ≤ 57)) || decide (0 ≤ Lib.indexByte signTab c)))) := rfl
  by_cases h1 : 97 ≤ c.toNat ∧ c.toNat ≤ 122
  · exact .inl ⟨by rw [e]; simp [h1], .inl h1⟩
  · by_cases h2 : 65 ≤ c.toNat ∧ c.toNat ≤ 90
    · exact .inl ⟨by rw [e]; simp [h2], .inr (.inl h2)⟩
    · by_cases h3 : 48 ≤ c.toNat ∧ c.toNat ≤ 57
      · exact .inl ⟨by rw [e]; simp [h3], .inr (.inr h3)⟩
      · refine .inr ⟨?_, by omega⟩
        have f1 : (decide (65 ≤ c.toNat) && decide (c.toNat ≤ 90)) = false := by simp; omega
        have f2 : (decide (97 ≤ c.toNat) && decide (c.toNat ≤ 122)) = false := by simp; omega
        have f3 : (decide (48 ≤ c.toNat) && decide (c.toNat ≤ 57)) = false := by simp; omega
        rw [e, f1, f2, f3]
        simp
set_option maxRecDepth 20000 in
set_option maxHeartbeats 16000000 in
theorem lettersPairs (s : ByteArray) (ci : Int) (w : World) (hs : s.size ≤ 140737488351232) (hz : 0 ≤ ci ∧ ci ≤ 255) (hL : LaidE w) (hS : w.ShapedOpen Tryd.prog) :
    Calls Tryd.prog 4 #[.string s, .int .u8 ci] w fun e w' => e = .returned (.bool true) ∧ Below w.heap.size w w' := by
  obtain ⟨c, rfl⟩ : ∃ c : UInt8, ci = c.toNat := ⟨UInt8.ofNat ci.toNat, by simp; omega⟩
  clear hz
  have hcl := c.toNat_lt
  go_enter Tryd.func4, Tryd.ntmps4
  go_wp2_with fail
  refine (paired_fact _ hL hS).mono ?_
  rintro e w1 ⟨rfl, hb1⟩
  have hs1 := hb1.size
  go_wp2_with fail
  refine (key_any s _ hs).mono ?_
  rintro e w2 ⟨rfl, rfl⟩
  obtain ⟨kb, hkb⟩ : ∃ kb, keyB s.data.toList = kb := ⟨_, rfl⟩
  rw [hkb]
  cases kb
  case false =>
    clear hkb
    go_wp2_with fail
    go_ret
    exact ⟨rfl, hb1⟩
  case true =>
    have hsn := keyB_snoc s.data.toList c hkb
    rw [len_of] at hsn
    obtain ⟨h0, h65, h90⟩ := keyB_head s hkb
    have hl63 := keyB_len hkb
    rw [len_of] at hl63
    have hcat : (s ++ ⟨#[c]⟩).data.toList = s.data.toList ++ [c] := by rw [cat_of]
    have hcz : (s ++ ⟨#[c]⟩).size ≤ 64 := by rw [ByteArray.size_append]; show s.size + 1 ≤ 64; omega
    have hcv := lit_string w1 [c] #[.int .u8 (c.toNat : Int)] rfl (by simp [maxLen])
    simp only [List.length_singleton] at hcv
    have HSN := Lib.hid hsn
    have HCAT := Lib.hid hcat
    have d65 : decide ((65 : Int) ≤ s[0].toNat) = true := decide_eq_true (by omega)
    have d90 : decide ((s[0].toNat : Int) ≤ 90) = true := decide_eq_true (by omega)
    clear hkb hsn hcat
    rcases may_cases c with ⟨hm, hc⟩ | ⟨hm, hc⟩
    · have hk2 : ∀ w, Calls Tryd.prog 19 #[.string (s ++ ⟨#[c]⟩)] w fun e w' => e = .returned (.bool (decide (s.size < 63))) ∧ w = w' := fun w => by
        have h := key_any (s ++ ⟨#[c]⟩) w (by omega)
        rw [HCAT.out, HSN.out, hm, Bool.true_and] at h
        exact h
      have HK2 := Lib.hid hk2
      clear hm hk2
      rcases hc with ⟨h1, h2⟩ | ⟨h1, h2⟩ | ⟨h1, h2⟩
      all_goals
        try have e90 : decide ((c.toNat : Int) ≤ 90) = false := decide_eq_false (by omega)
        try have e57 : decide ((c.toNat : Int) ≤ 57) = false := decide_eq_false (by omega)
        try have e122 : decide ((c.toNat : Int) ≤ 122) = false := decide_eq_false (by omega)
        by_cases h63 : s.size < 63
        all_goals
          go_wp2_with fail
          refine (HK2.out _).mono ?_
          rintro e w3 ⟨rfl, rfl⟩
          first | rw [decide_eq_true h63] | rw [decide_eq_false h63]
          go_wp2_with fail
          go_ret
          exact ⟨by first | rfl | (simp; done) | (simp; omega), hb1.alloc hs1 _⟩
    · obtain ⟨j, hj⟩ : ∃ j, Lib.indexByte signTab c = j := ⟨_, rfl⟩
      rw [hj] at hm
      have HJ := Lib.hid hj
      clear hj
      by_cases hj0 : 0 ≤ j
      · have hk2 : ∀ w, Calls Tryd.prog 19 #[.string (s ++ ⟨#[c]⟩)] w fun e w' => e = .returned (.bool (decide (s.size < 63))) ∧ w = w' := fun w => by
          have h := key_any (s ++ ⟨#[c]⟩) w (by omega)
          rw [HCAT.out, HSN.out, hm, decide_eq_true hj0, Bool.true_and] at h
          exact h
        have HK2 := Lib.hid hk2
        clear hm hk2
        rcases hc with h1 | ⟨h1, h2⟩ | ⟨h1, h2⟩ | h1
        all_goals
          try have e90 : decide ((c.toNat : Int) ≤ 90) = false := decide_eq_false (by omega)
          try have e57 : decide ((c.toNat : Int) ≤ 57) = false := decide_eq_false (by omega)
          try have e122 : decide ((c.toNat : Int) ≤ 122) = false := decide_eq_false (by omega)
          have ej : decide ((0 : Int) ≤ j) = true := decide_eq_true hj0
          by_cases h63 : s.size < 63
          all_goals
            go_wp2_with fail
            refine (sign_at _ _ c rfl _).mono ?_
            rintro e w3 ⟨rfl, rfl⟩
            rw [show (ByteArray.mk #[46, 45, 43, 64, 95]).data.toList = signTab from rfl, HJ.out]
            go_wp2_with fail
            refine (HK2.out _).mono ?_
            rintro e w3 ⟨rfl, rfl⟩
            first | rw [decide_eq_true h63] | rw [decide_eq_false h63]
            go_wp2_with fail
            go_ret
            exact ⟨by first | rfl | (simp; done) | (simp; omega), hb1.alloc hs1 _⟩
      · have hk2 : ∀ w, Calls Tryd.prog 19 #[.string (s ++ ⟨#[c]⟩)] w fun e w' => e = .returned (.bool false) ∧ w = w' := fun w => by
          have h := key_any (s ++ ⟨#[c]⟩) w (by omega)
          rw [HCAT.out, HSN.out, hm, decide_eq_false hj0, Bool.false_and] at h
          exact h
        have HK2 := Lib.hid hk2
        clear hm hk2
        rcases hc with h1 | ⟨h1, h2⟩ | ⟨h1, h2⟩ | h1
        all_goals
          try have e90 : decide ((c.toNat : Int) ≤ 90) = false := decide_eq_false (by omega)
          try have e57 : decide ((c.toNat : Int) ≤ 57) = false := decide_eq_false (by omega)
          try have e122 : decide ((c.toNat : Int) ≤ 122) = false := decide_eq_false (by omega)
          have ej : decide ((0 : Int) ≤ j) = false := decide_eq_false hj0
          go_wp2_with fail
          refine (sign_at _ _ c rfl _).mono ?_
          rintro e w3 ⟨rfl, rfl⟩
          rw [show (ByteArray.mk #[46, 45, 43, 64, 95]).data.toList = signTab from rfl, HJ.out]
          go_wp2_with fail
          refine (HK2.out _).mono ?_
          rintro e w3 ⟨rfl, rfl⟩
          go_wp2_with fail
          go_ret
          exact ⟨by first | rfl | (simp; done) | (simp; omega), hb1.alloc hs1 _⟩
end Go.Proofs.YthfibnoekfkamaaDoor
