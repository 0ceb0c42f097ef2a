/- Hardly more than one way to write bytes: the plain laws. -/
import Derived.Test.YtlbojhmhcaecjaaDoorBinPlain
import Derived.Lib.Fold
namespace Go.Proofs.YtlbojhmhcaecjaaDoor
set_option linter.unusedVariables false
set_option maxRecDepth 20000 in
theorem idx_hexd (c : UInt8) (h : 0 ≤ Lib.indexByte hexTab (low c)) : hexd (Lib.indexByte hexTab (low c)).toNat = low c ∧ (Lib.indexByte hexTab (low c)).toNat < 16 ∧ c.toNat < 128 := by
  have e : ∀ m : Fin 256, 0 ≤ Lib.indexByte hexTab (low (UInt8.ofNat m.val)) → hexd (Lib.indexByte hexTab (low (UInt8.ofNat m.val))).toNat = low (UInt8.ofNat m.val) ∧ (Lib.indexByte hexTab (low (UInt8.ofNat m.val))).toNat < 16 ∧ (UInt8.ofNat m.val).toNat < 128 := by decide +kernel
  have h2 := e ⟨c.toNat, c.toNat_lt⟩
  simp only [UInt8.ofNat_toNat] at h2
  exact h2 h
set_option maxRecDepth 20000 in
theorem idx_b64 (c : UInt8) (h : 0 ≤ Lib.indexByte b64Tab c) : b64d (Lib.indexByte b64Tab c).toNat = c ∧ (Lib.indexByte b64Tab c).toNat < 64 ∧ c.toNat < 128 := by
  have e : ∀ m : Fin 256, 0 ≤ Lib.indexByte b64Tab (UInt8.ofNat m.val) → b64d (Lib.indexByte b64Tab (UInt8.ofNat m.val)).toNat = UInt8.ofNat m.val ∧ (Lib.indexByte b64Tab (UInt8.ofNat m.val)).toNat < 64 ∧ (UInt8.ofNat m.val).toNat < 128 := by decide +kernel
  have h2 := e ⟨c.toNat, c.toNat_lt⟩
  simp only [UInt8.ofNat_toNat] at h2
  exact h2 h
theorem nib_parts (x y : Nat) (hx : x < 16) (hy : y < 16) : (UInt8.ofNat (x * 16) ||| UInt8.ofNat y).toNat / 16 = x ∧ (UInt8.ofNat (x * 16) ||| UInt8.ofNat y).toNat % 16 = y := by
  have e : ∀ a b : Fin 16, (UInt8.ofNat (a.val * 16) ||| UInt8.ofNat b.val).toNat / 16 = a.val ∧ (UInt8.ofNat (a.val * 16) ||| UInt8.ofNat b.val).toNat % 16 = b.val := by decide +kernel
  exact e ⟨x, hx⟩ ⟨y, hy⟩
theorem unhexGo_inv : ∀ (n : Nat) (r : List UInt8) (i : Nat) (out t : List UInt8), r.length ≤ n → i % 2 = 0 → r.length % 2 = 0 → unhexGo r i out = .inr t →
    (∃ u, t = out ++ u ∧ hexB u = r.map low) ∧ ∀ c ∈ r, c.toNat < 128
  | n, [], i, out, t, _, _, _, h => by
    rw [unhexGo] at h
    obtain rfl := Sum.inr.inj h
    exact ⟨⟨[], by simp, rfl⟩, fun c hc => by cases hc⟩
  | n, [a], i, out, t, _, _, hl, _ => by simp at hl
  | n, a :: b :: r, i, out, t, hn, hi, hl, h => by
    simp only [List.length_cons] at hn hl
    obtain ⟨m, rfl⟩ : ∃ m, n = m + 2 := ⟨n - 2, by omega⟩
    rw [unhexGo] at h
    by_cases ha : Lib.indexByte hexTab (low a) < 0
    · rw [if_pos ha] at h; cases h
    rw [if_neg ha, if_pos hi, unhexGo] at h
    by_cases hb : Lib.indexByte hexTab (low b) < 0
    · rw [if_pos hb] at h; cases h
    rw [if_neg hb, if_neg (by omega), List.dropLast_concat, List.getLastD_concat] at h
    obtain ⟨a1, a2, a3⟩ := idx_hexd a (by omega)
    obtain ⟨b1, b2, b3⟩ := idx_hexd b (by omega)
    obtain ⟨p1, p2⟩ := nib_parts _ _ a2 b2
    obtain ⟨⟨u, hu, hx⟩, hc⟩ := unhexGo_inv m r (i + 1 + 1) _ t (by omega) (by omega) (by omega) h
    refine ⟨⟨_ :: u, by rw [hu, List.append_assoc]; rfl, ?_⟩, ?_⟩
    · show hexd _ :: hexd _ :: hexB u = _
      rw [p1, p2, a1, b1, hx]
      rfl
    · intro c h
      rcases List.mem_cons.1 h with rfl | h
      · exact a3
      · rcases List.mem_cons.1 h with rfl | h
        · exact b3
        · exact hc c h
theorem foldEq_low (c : UInt8) : Lib.foldEq c (low c) = true := by
  unfold Lib.foldEq low
  by_cases h : 65 ≤ c.toNat ∧ c.toNat ≤ 70
  · rw [if_pos h]
    refine decide_eq_true (.inr (.inl ⟨h.1, by omega, ?_⟩))
    rw [UInt8.toNat_add]
    show (c.toNat + 32) % 256 = _
    omega
  · rw [if_neg h]
    exact decide_eq_true (.inl rfl)
theorem fold_low : ∀ r : List UInt8, Lib.equalFold r (r.map low) = true
  | [] => rfl
  | c :: r => by rw [List.map_cons, Lib.equalFold, foldEq_low, fold_low r]; rfl
theorem unb3_n3 (n : Nat) (h : n < 16777216) : n3 (unb3 n) = n := by
  simp [n3, unb3]; omega
theorem grp_of (n k0 k1 k2 k3 : Nat) (h0 : k0 < 64) (h1 : k1 < 64) (h2 : k2 < 64) (h3 : k3 < 64) (hn : n = ((k0 * 64 + k1) * 64 + k2) * 64 + k3) :
    n / 2 ^ (18 - 6 * 0) % 64 = k0 ∧ n / 2 ^ (18 - 6 * 1) % 64 = k1 ∧ n / 2 ^ (18 - 6 * 2) % 64 = k2 ∧ n / 2 ^ (18 - 6 * 3) % 64 = k3 := by
  subst hn
  refine ⟨?_, ?_, ?_, ?_⟩ <;> simp only [Nat.reduceMul, Nat.reduceSub, Nat.reducePow] <;> omega
/- one group of four signs -/
theorem group_inv (last : Bool) (x0 x1 x2 x3 : UInt8) (n h : Nat) (hg : unbGo last x3 [x0, x1, x2, x3] 0 0 4 = .inr (n, h)) (hz : n % 2 ^ (8 * (4 - h)) = 0) :
    grp ((unb3 n).take (h - 1)) = [x0, x1, x2, x3] ∧ ((unb3 n).take (h - 1)).length = h - 1 ∧ (h = 4 ∨ (last = true ∧ (h = 2 ∨ h = 3))) ∧ ∀ c ∈ [x0, x1, x2, x3], c.toNat < 128 := by
  rw [unbGo, if_neg (by omega)] at hg
  by_cases g0 : Lib.indexByte b64Tab x0 < 0
  · rw [if_pos g0] at hg; cases hg
  rw [if_neg g0, unbGo, if_neg (by omega)] at hg
  by_cases g1 : Lib.indexByte b64Tab x1 < 0
  · rw [if_pos g1] at hg; cases hg
  rw [if_neg g1, unbGo] at hg
  obtain ⟨a0, b0, c0⟩ := idx_b64 x0 (by omega)
  obtain ⟨a1, b1, c1⟩ := idx_b64 x1 (by omega)
  by_cases p2 : x2 = 61 ∧ last = true ∧ (0 + 1 + 1 = 3 ∨ (0 + 1 + 1 = 2 ∧ x3 = 61))
  · obtain ⟨e2, hlast, hor⟩ := p2
    have e3 : x3 = 61 := by
      rcases hor with hor | hor
      · omega
      · exact hor.2
    rw [if_pos ⟨e2, hlast, hor⟩, unbGo, if_pos ⟨e3, hlast, .inl rfl⟩, unbGo] at hg
    have hg2 := Sum.inr.inj hg
    have en := congrArg Prod.fst hg2
    have eh := congrArg Prod.snd hg2
    simp only at en eh
    obtain rfl : h = 2 := by omega
    subst e2 e3
    simp only [Nat.reduceSub, Nat.reduceMul, Nat.reducePow] at hz
    have hn : n < 16777216 := by omega
    obtain ⟨q0, q1, _, _⟩ := grp_of n _ _ 0 0 b0 b1 (by omega) (by omega) (by omega)
    have hn3 : n3 ((unb3 n).take 1) = n := by
      simp [n3, unb3]; omega
    refine ⟨?_, rfl, .inr ⟨hlast, .inl rfl⟩, ?_⟩
    · rw [grp_eq]
      show [grpAt ((unb3 n).take 1) 0, grpAt ((unb3 n).take 1) 1, grpAt ((unb3 n).take 1) 2, grpAt ((unb3 n).take 1) 3] = _
      unfold grpAt
      rw [hn3, q0, q1, if_neg (by simp [unb3]), if_neg (by simp [unb3]), if_pos (by simp [unb3]), if_pos (by simp [unb3]), a0, a1]
    · intro c hc
      simp at hc
      rcases hc with rfl | rfl | rfl | rfl
      · exact c0
      · exact c1
      · decide
  · rw [if_neg p2] at hg
    by_cases g2 : Lib.indexByte b64Tab x2 < 0
    · rw [if_pos g2] at hg; cases hg
    rw [if_neg g2, unbGo] at hg
    obtain ⟨a2, b2, c2⟩ := idx_b64 x2 (by omega)
    by_cases p3 : x3 = 61 ∧ last = true ∧ (0 + 1 + 1 + 1 = 3 ∨ (0 + 1 + 1 + 1 = 2 ∧ x3 = 61))
    · obtain ⟨e3, hlast, hor⟩ := p3
      rw [if_pos ⟨e3, hlast, hor⟩, unbGo] at hg
      have hg2 := Sum.inr.inj hg
      have en := congrArg Prod.fst hg2
      have eh := congrArg Prod.snd hg2
      simp only at en eh
      obtain rfl : h = 3 := by omega
      subst e3
      simp only [Nat.reduceSub, Nat.reduceMul, Nat.reducePow] at hz
      have hn : n < 16777216 := by omega
      obtain ⟨q0, q1, q2, _⟩ := grp_of n _ _ _ 0 b0 b1 b2 (by omega) (by omega)
      have hn3 : n3 ((unb3 n).take 2) = n := by
        simp [n3, unb3]; omega
      refine ⟨?_, rfl, .inr ⟨hlast, .inr rfl⟩, ?_⟩
      · rw [grp_eq]
        show [grpAt ((unb3 n).take 2) 0, grpAt ((unb3 n).take 2) 1, grpAt ((unb3 n).take 2) 2, grpAt ((unb3 n).take 2) 3] = _
        unfold grpAt
        rw [hn3, q0, q1, q2, if_neg (by simp [unb3]), if_neg (by simp [unb3]), if_neg (by simp [unb3]), if_pos (by simp [unb3]), a0, a1, a2]
      · intro c hc
        simp at hc
        rcases hc with rfl | rfl | rfl | rfl
        · exact c0
        · exact c1
        · exact c2
        · decide
    · rw [if_neg p3] at hg
      by_cases g3 : Lib.indexByte b64Tab x3 < 0
      · rw [if_pos g3] at hg; cases hg
      rw [if_neg g3, unbGo] at hg
      obtain ⟨a3, b3, c3⟩ := idx_b64 x3 (by omega)
      have hg2 := Sum.inr.inj hg
      have en := congrArg Prod.fst hg2
      have eh := congrArg Prod.snd hg2
      simp only at en eh
      subst eh
      have hn : n < 16777216 := by omega
      obtain ⟨q0, q1, q2, q3⟩ := grp_of n _ _ _ _ b0 b1 b2 b3 (by omega)
      refine ⟨?_, rfl, .inl rfl, ?_⟩
      · rw [grp_eq]
        show [grpAt (unb3 n) 0, grpAt (unb3 n) 1, grpAt (unb3 n) 2, grpAt (unb3 n) 3] = _
        unfold grpAt
        rw [unb3_n3 n hn, q0, q1, q2, q3, if_neg (by simp [unb3]), if_neg (by simp [unb3]), if_neg (by simp [unb3]), if_neg (by simp [unb3]), a0, a1, a2, a3]
      · intro c hc
        simp at hc
        rcases hc with rfl | rfl | rfl | rfl
        · exact c0
        · exact c1
        · exact c2
        · exact c3
theorem unbF_inv : ∀ (f : Nat) (r : List UInt8) (p : Nat) (out t : List UInt8), r.length ≤ f → r.length % 4 = 0 → unbF f r p out = .inr t → (∃ u, t = out ++ u ∧ b64B u = r) ∧ ∀ c ∈ r, c.toNat < 128
  | 0, r, p, out, t, hf, _, h => by
    have : r = [] := List.eq_nil_of_length_eq_zero (by omega)
    subst this
    rw [unbF] at h
    obtain rfl := Sum.inr.inj h
    exact ⟨⟨[], by simp, rfl⟩, fun c hc => by cases hc⟩
  | f + 1, r, p, out, t, hf, hm, h => by
    by_cases h0 : r.length = 0
    · have : r = [] := List.eq_nil_of_length_eq_zero h0
      subst this
      rw [unbF, if_pos (show ([] : List UInt8).length = 0 from rfl)] at h
      obtain rfl := Sum.inr.inj h
      exact ⟨⟨[], by simp, rfl⟩, fun c hc => by cases hc⟩
    · match r, hf, hm, h0, h with
      | x0 :: x1 :: x2 :: x3 :: r, hf, hm, h0, h =>
        rw [unbF, if_neg h0] at h
        have e4 : (x0 :: x1 :: x2 :: x3 :: r).take 4 = [x0, x1, x2, x3] := rfl
        have e3 : (x0 :: x1 :: x2 :: x3 :: r).getD 3 0 = x3 := rfl
        have ed : (x0 :: x1 :: x2 :: x3 :: r).drop 4 = r := rfl
        rw [e4, e3, ed] at h
        rcases hg : unbGo (decide ((x0 :: x1 :: x2 :: x3 :: r).length = 4)) x3 [x0, x1, x2, x3] 0 0 4 with i | ⟨n, k⟩
        · rw [hg] at h; cases h
        · rw [hg] at h
          simp only at h
          by_cases hz : n % 2 ^ (8 * (4 - k)) = 0
          · rw [if_neg (by simpa using hz)] at h
            obtain ⟨q1, q2, q3, q4⟩ := group_inv _ _ _ _ _ _ _ hg hz
            simp only [List.length_cons] at hf hm
            obtain ⟨⟨u, hu, hx⟩, hc⟩ := unbF_inv f r (p + 4) _ t (by omega) (by omega) h
            refine ⟨⟨(unb3 n).take (k - 1) ++ u, by rw [hu, List.append_assoc], ?_⟩, ?_⟩
            · rcases q3 with rfl | ⟨hl, hk⟩
              · rw [b64B_step _ (by rw [List.length_append, q2]; omega), grp_append _ _ (by rw [q2]; decide), q1]
                have : (List.take (4 - 1) (unb3 n) ++ u).drop 3 = u := rfl
                rw [this, hx]
                rfl
              · have hr : r = [] := by
                  have := of_decide_eq_true hl
                  simp only [List.length_cons] at this
                  exact List.eq_nil_of_length_eq_zero (by omega)
                subst hr
                have hu0 : u = [] := by
                  rcases u with _ | ⟨c, u⟩
                  · rfl
                  · rw [b64B_step _ (by simp)] at hx
                    have := congrArg List.length hx
                    rw [List.length_append, grp_len] at this
                    simp at this
                subst hu0
                rw [List.append_nil, b64B_step _ (by rw [q2]; omega), q1]
                have : ((unb3 n).take (k - 1)).drop 3 = [] := List.drop_eq_nil_of_le (by rw [q2]; omega)
                rw [this]
                rfl
            · intro c h
              rcases List.mem_append.1 (show c ∈ [x0, x1, x2, x3] ++ r from h) with h | h
              · exact q4 c h
              · exact hc c h
          · rw [if_pos (by simpa using hz)] at h; cases h
      | [], hf, hm, h0, h => simp at h0
      | [_], hf, hm, h0, h => simp at hm
      | [_, _], hf, hm, h0, h => simp at hm
      | [_, _, _], hf, hm, h0, h => simp at hm
/- What is read was written in one of both ways. -/
theorem readB_inv (s t : List UInt8) (h : readB s = .inr t) : 2 ≤ s.length ∧ (∀ c ∈ s, c.toNat < 128) ∧ (Lib.equalFold s (hexL t) = true ∨ ((s.getD 1 0 = 98 ∨ s.getD 1 0 = 66) ∧ s.drop 2 = b64B t)) := by
  unfold readB at h
  by_cases h0 : s.length < 2 ∨ s.getD 0 0 ≠ 48
  · rw [if_pos h0] at h; cases h
  rw [if_neg h0] at h
  match s, h0, h with
  | a :: b :: r, h0, h =>
    have ha : a = 48 := Classical.byContradiction fun hn => h0 (.inr hn)
    subst ha
    have e1 : (48 :: b :: r).getD 1 0 = b := rfl
    rw [e1] at h
    have h2 : 2 ≤ (48 :: b :: r).length := by simp
    refine ⟨h2, ?_⟩
    by_cases hx : b = 120 ∨ b = 88
    · rw [if_pos hx] at h
      unfold unhexR at h
      by_cases hm : (48 :: b :: r).length % 2 ≠ 0
      · rw [if_pos hm] at h; cases h
      rw [if_neg hm] at h
      have ed : (48 :: b :: r).drop 2 = r := rfl
      rw [ed] at h
      rcases hg : unhexGo r 2 [] with i | u
      · rw [hg] at h; cases h
      · rw [hg] at h
        obtain rfl := Sum.inr.inj h
        simp only [List.length_cons] at hm
        obtain ⟨⟨v, hv, hh⟩, hc⟩ := unhexGo_inv r.length r 2 [] u (Nat.le_refl _) rfl (by omega) hg
        rw [List.nil_append] at hv
        subst hv
        refine ⟨?_, .inl ?_⟩
        · intro c h
          rcases List.mem_cons.1 h with rfl | h
          · decide
          · rcases List.mem_cons.1 h with rfl | h
            · rcases hx with rfl | rfl <;> decide
            · exact hc c h
        · show Lib.equalFold (48 :: b :: r) (48 :: 120 :: hexB u) = true
          rw [hh, Lib.equalFold, Lib.equalFold, fold_low]
          rcases hx with rfl | rfl <;> decide
    · rw [if_neg hx] at h
      by_cases hb : b = 98 ∨ b = 66
      · rw [if_pos hb] at h
        unfold unbaseR at h
        by_cases hm : (48 :: b :: r).length % 4 ≠ 2
        · rw [if_pos hm] at h; cases h
        rw [if_neg hm] at h
        have ed : (48 :: b :: r).drop 2 = r := rfl
        rw [ed] at h
        rcases hg : unbF (48 :: b :: r).length r 2 [] with i | u
        · rw [hg] at h; cases h
        · rw [hg] at h
          obtain rfl := Sum.inr.inj h
          simp only [List.length_cons] at hm
          obtain ⟨⟨v, hv, hh⟩, hc⟩ := unbF_inv _ r 2 [] u (by simp only [List.length_cons]; omega) (by omega) hg
          rw [List.nil_append] at hv
          subst hv
          refine ⟨?_, .inr ⟨hb, ?_⟩⟩
          · intro c h
            rcases List.mem_cons.1 h with rfl | h
            · decide
            · rcases List.mem_cons.1 h with rfl | h
              · rcases hb with rfl | rfl <;> decide
              · exact hc c h
          · rw [ed, hh]
      · rw [if_neg hb] at h; cases h
  | [], h0, h => exact absurd (.inl (by simp)) h0
  | [_], h0, h => exact absurd (.inl (by simp)) h0
end Go.Proofs.YtlbojhmhcaecjaaDoor
