/- Bytes as values of keys: what is written is read, one behind the other: the plain laws. -/
import Derived.Test.YtlbojhmhcaecjaaDoorBinDefs
namespace Go.Proofs.YtlbojhmhcaecjaaDoor
set_option linter.unusedVariables false
set_option maxRecDepth 20000 in
theorem hexd_idx (n : Nat) (h : n < 16) : Lib.indexByte hexTab (low (hexd n)) = n := by
  have e : ∀ m : Fin 16, Lib.indexByte hexTab (low (hexd m.val)) = (m.val : Int) := by decide +kernel
  exact e ⟨n, h⟩
theorem nib (c : UInt8) : UInt8.ofNat (c.toNat / 16 * 16) ||| UInt8.ofNat (c.toNat % 16) = c := by
  have e : ∀ m : Fin 256, UInt8.ofNat (m.val / 16 * 16) ||| UInt8.ofNat (m.val % 16) = UInt8.ofNat m.val := by decide +kernel
  have h := e ⟨c.toNat, c.toNat_lt⟩
  simp only at h
  rw [h]
  simp
theorem unhex_hexB : ∀ (l : List UInt8) (i : Nat) (out : List UInt8), i % 2 = 0 → unhexGo (hexB l) i out = .inr (out ++ l)
  | [], i, out, h => by rw [List.append_nil]; rfl
  | c :: l, i, out, h => by
    have hc := c.toNat_lt
    have e : hexB (c :: l) = hexd (c.toNat / 16) :: hexd (c.toNat % 16) :: hexB l := rfl
    rw [e, unhexGo, hexd_idx _ (by omega), if_neg (by omega), if_pos h, unhexGo, hexd_idx _ (by omega), if_neg (by omega), if_neg (by omega), Int.toNat_natCast, Int.toNat_natCast,
      List.dropLast_concat, List.getLastD_concat, nib, unhex_hexB l (i + 1 + 1) _ (by omega), List.append_assoc]
    rfl
theorem unhex_hexL (l : List UInt8) : unhexR (hexL l) = .inr l := by
  have e : (hexL l).drop 2 = hexB l := rfl
  unfold unhexR
  rw [hexL_len, if_neg (by omega), e, unhex_hexB l 2 [] rfl]
  rfl
set_option maxRecDepth 20000 in
theorem b64d_idx (n : Nat) (h : n < 64) : Lib.indexByte b64Tab (b64d n) = n ∧ b64d n ≠ 61 := by
  have e : ∀ m : Fin 64, Lib.indexByte b64Tab (b64d m.val) = (m.val : Int) ∧ b64d m.val ≠ 61 := by decide +kernel
  exact e ⟨n, h⟩
theorem unbGo_step (last : Bool) (c3 : UInt8) (k : Nat) (hk : k < 64) (r : List UInt8) (i n h : Nat) : unbGo last c3 (b64d k :: r) i n h = unbGo last c3 r (i + 1) (n * 64 + k) h := by
  obtain ⟨h1, h2⟩ := b64d_idx k hk
  rw [unbGo, if_neg (fun h => h2 h.1), h1, if_neg (by omega), Int.toNat_natCast]
theorem grp_eq (l : List UInt8) : grp l = [grpAt l 0, grpAt l 1, grpAt l 2, grpAt l 3] := rfl
theorem unb3_take1 (a : UInt8) : (unb3 (a.toNat * 65536)).take 1 = [a] := by
  simp [unb3]
theorem unb3_take2 (a b : UInt8) : (unb3 (a.toNat * 65536 + b.toNat * 256)).take 2 = [a, b] := by
  have ha := a.toNat_lt
  have hb := b.toNat_lt
  have e1 : (a.toNat * 65536 + b.toNat * 256) / 65536 = a.toNat := by omega
  have e2 : UInt8.ofNat ((a.toNat * 65536 + b.toNat * 256) / 256) = b := by
    rw [← UInt8.toNat_inj, UInt8.toNat_ofNat']; simp only [Nat.reducePow]; omega
  simp [unb3, e1, e2]
theorem unb3_take3 (a b c : UInt8) : (unb3 (a.toNat * 65536 + b.toNat * 256 + c.toNat)).take 3 = [a, b, c] := by
  have ha := a.toNat_lt
  have hb := b.toNat_lt
  have hc := c.toNat_lt
  have e1 : (a.toNat * 65536 + b.toNat * 256 + c.toNat) / 65536 = a.toNat := by omega
  have e2 : UInt8.ofNat ((a.toNat * 65536 + b.toNat * 256 + c.toNat) / 256) = b := by
    rw [← UInt8.toNat_inj, UInt8.toNat_ofNat']; simp only [Nat.reducePow]; omega
  have e3 : UInt8.ofNat (a.toNat * 65536 + b.toNat * 256 + c.toNat) = c := by
    rw [← UInt8.toNat_inj, UInt8.toNat_ofNat']; simp only [Nat.reducePow]; omega
  show [_, _, _] = _
  rw [e1, e2, e3]
  simp
theorem unbF_step (f p : Nat) (x0 x1 x2 x3 : UInt8) (r out : List UInt8) : unbF (f + 1) (x0 :: x1 :: x2 :: x3 :: r) p out =
    match unbGo (decide (r.length = 0)) x3 [x0, x1, x2, x3] 0 0 4 with
    | .inl i => .inl (p + i)
    | .inr (n, h) => if n % 2 ^ (8 * (4 - h)) ≠ 0 then .inl (p + h - 1) else unbF f r (p + 4) (out ++ (unb3 n).take (h - 1)) := by
  rw [unbF, if_neg (by simp)]
  have e : decide ((x0 :: x1 :: x2 :: x3 :: r).length = 4) = decide (r.length = 0) := by
    simp only [List.length_cons, decide_eq_decide]; omega
  rw [e]
  rfl
theorem unbF_b64 : ∀ (m : Nat) (l : List UInt8) (f p : Nat) (out : List UInt8), l.length ≤ m → (b64B l).length ≤ f → unbF f (b64B l) p out = .inr (out ++ l)
  | 0, l, f, p, out, h, hf => by
    obtain rfl := List.eq_nil_of_length_eq_zero (Nat.le_zero.1 h)
    have e : b64B [] = [] := rfl
    rw [e, List.append_nil]
    cases f <;> rfl
  | m + 1, [], f, p, out, h, hf => by
    have e : b64B [] = [] := rfl
    rw [e, List.append_nil]
    cases f <;> rfl
  | m + 1, [a], f, p, out, h, hf => by
    have ha := a.toNat_lt
    rw [b64B_step _ (by simp), List.length_append, grp_len] at hf
    obtain ⟨f, rfl⟩ : ∃ f', f = f' + 1 := ⟨f - 1, by omega⟩
    rw [b64B_step _ (by simp), grp_eq]
    have n0 : n3 [a] = a.toNat * 65536 := by simp [n3]
    have g0 : grpAt [a] 0 = b64d (a.toNat / 4) := by unfold grpAt; rw [if_neg (by simp), n0]; refine congrArg b64d ?_; simp only [Nat.reduceMul, Nat.reduceSub, Nat.reducePow]; omega
    have g1 : grpAt [a] 1 = b64d (a.toNat % 4 * 16) := by unfold grpAt; rw [if_neg (by simp), n0]; refine congrArg b64d ?_; simp only [Nat.reduceMul, Nat.reduceSub, Nat.reducePow]; omega
    have g2 : grpAt [a] 2 = 61 := by unfold grpAt; rw [if_pos (by simp)]
    have g3 : grpAt [a] 3 = 61 := by unfold grpAt; rw [if_pos (by simp)]
    rw [g0, g1, g2, g3]
    show unbF (f + 1) (_ :: _ :: _ :: _ :: b64B []) p out = _
    rw [unbF_step, unbGo_step _ _ _ (by omega), unbGo_step _ _ _ (by omega), unbGo, if_pos ⟨rfl, by rfl, .inr ⟨rfl, rfl⟩⟩, unbGo, if_pos ⟨rfl, by rfl, .inl rfl⟩, unbGo]
    have en : ((0 * 64 + a.toNat / 4) * 64 + a.toNat % 4 * 16) * 64 * 64 = a.toNat * 65536 := by omega
    simp only [en]
    rw [if_neg (by simp <;> omega)]
    have et := unb3_take1 a
    show unbF f [] (p + 4) (out ++ (unb3 (a.toNat * 65536)).take 1) = _
    rw [et]
    cases f <;> rfl
  | m + 1, [a, b], f, p, out, h, hf => by
    have ha := a.toNat_lt
    have hb := b.toNat_lt
    rw [b64B_step _ (by simp), List.length_append, grp_len] at hf
    obtain ⟨f, rfl⟩ : ∃ f', f = f' + 1 := ⟨f - 1, by omega⟩
    rw [b64B_step _ (by simp), grp_eq]
    have n0 : n3 [a, b] = a.toNat * 65536 + b.toNat * 256 := by simp [n3]
    have g0 : grpAt [a, b] 0 = b64d (a.toNat / 4) := by unfold grpAt; rw [if_neg (by simp), n0]; refine congrArg b64d ?_; simp only [Nat.reduceMul, Nat.reduceSub, Nat.reducePow]; omega
    have g1 : grpAt [a, b] 1 = b64d (a.toNat % 4 * 16 + b.toNat / 16) := by unfold grpAt; rw [if_neg (by simp), n0]; refine congrArg b64d ?_; simp only [Nat.reduceMul, Nat.reduceSub, Nat.reducePow]; omega
    have g2 : grpAt [a, b] 2 = b64d (b.toNat % 16 * 4) := by unfold grpAt; rw [if_neg (by simp), n0]; refine congrArg b64d ?_; simp only [Nat.reduceMul, Nat.reduceSub, Nat.reducePow]; omega
    have g3 : grpAt [a, b] 3 = 61 := by unfold grpAt; rw [if_pos (by simp)]
    rw [g0, g1, g2, g3]
    show unbF (f + 1) (_ :: _ :: _ :: _ :: b64B []) p out = _
    rw [unbF_step, unbGo_step _ _ _ (by omega), unbGo_step _ _ _ (by omega), unbGo_step _ _ _ (by omega), unbGo, if_pos ⟨rfl, by rfl, .inl rfl⟩, unbGo]
    have en : (((0 * 64 + a.toNat / 4) * 64 + (a.toNat % 4 * 16 + b.toNat / 16)) * 64 + b.toNat % 16 * 4) * 64 = a.toNat * 65536 + b.toNat * 256 := by omega
    simp only [en]
    rw [if_neg (by simp <;> omega)]
    have et := unb3_take2 a b
    show unbF f [] (p + 4) (out ++ (unb3 (a.toNat * 65536 + b.toNat * 256)).take 2) = _
    rw [et]
    cases f <;> rfl
  | m + 1, a :: b :: c :: l, f, p, out, h, hf => by
    have ha := a.toNat_lt
    have hb := b.toNat_lt
    have hc := c.toNat_lt
    rw [b64B_step _ (by simp), List.length_append, grp_len] at hf
    obtain ⟨f, rfl⟩ : ∃ f', f = f' + 1 := ⟨f - 1, by omega⟩
    rw [b64B_step _ (by simp), grp_eq]
    have n0 : n3 (a :: b :: c :: l) = a.toNat * 65536 + b.toNat * 256 + c.toNat := by simp [n3]
    have g0 : grpAt (a :: b :: c :: l) 0 = b64d (a.toNat / 4) := by unfold grpAt; rw [if_neg (by simp), n0]; refine congrArg b64d ?_; simp only [Nat.reduceMul, Nat.reduceSub, Nat.reducePow]; omega
    have g1 : grpAt (a :: b :: c :: l) 1 = b64d (a.toNat % 4 * 16 + b.toNat / 16) := by unfold grpAt; rw [if_neg (by simp), n0]; refine congrArg b64d ?_; simp only [Nat.reduceMul, Nat.reduceSub, Nat.reducePow]; omega
    have g2 : grpAt (a :: b :: c :: l) 2 = b64d (b.toNat % 16 * 4 + c.toNat / 64) := by unfold grpAt; rw [if_neg (by simp), n0]; refine congrArg b64d ?_; simp only [Nat.reduceMul, Nat.reduceSub, Nat.reducePow]; omega
    have g3 : grpAt (a :: b :: c :: l) 3 = b64d (c.toNat % 64) := by unfold grpAt; rw [if_neg (by simp), n0]; refine congrArg b64d ?_; simp only [Nat.reduceMul, Nat.reduceSub, Nat.reducePow]; omega
    rw [g0, g1, g2, g3]
    show unbF (f + 1) (_ :: _ :: _ :: _ :: b64B l) p out = _
    rw [unbF_step, unbGo_step _ _ _ (by omega), unbGo_step _ _ _ (by omega), unbGo_step _ _ _ (by omega), unbGo_step _ _ _ (by omega), unbGo]
    have en : (((0 * 64 + a.toNat / 4) * 64 + (a.toNat % 4 * 16 + b.toNat / 16)) * 64 + (b.toNat % 16 * 4 + c.toNat / 64)) * 64 + c.toNat % 64 = a.toNat * 65536 + b.toNat * 256 + c.toNat := by omega
    simp only [en]
    rw [if_neg (by simp [Nat.mod_one])]
    have et := unb3_take3 a b c
    show unbF f (b64B l) (p + 4) (out ++ (unb3 (a.toNat * 65536 + b.toNat * 256 + c.toNat)).take 3) = _
    rw [et, unbF_b64 m l f (p + 4) _ (by simp at h; omega) (by
      have e : (a :: b :: c :: l).drop 3 = l := rfl
      rw [e] at hf; omega), List.append_assoc]
    rfl
theorem unbase_b64L (l : List UInt8) : unbaseR (b64L l) = .inr l := by
  have e : (b64L l).drop 2 = b64B l := rfl
  unfold unbaseR
  rw [b64L_len, if_neg (by omega), e, unbF_b64 l.length l _ 2 [] (Nat.le_refl _) (by rw [b64B_len _ _ (Nat.le_refl _)]; omega)]
  rfl
theorem readB_hexL (l : List UInt8) : readB (hexL l) = .inr l := by
  unfold readB
  rw [if_neg (by rw [hexL_len]; intro h; rcases h with h | h; · omega
                 · exact h rfl), if_pos (.inl rfl)]
  exact unhex_hexL l
theorem readB_b64L (l : List UInt8) : readB (b64L l) = .inr l := by
  unfold readB
  rw [if_neg (by rw [b64L_len]; intro h; rcases h with h | h; · omega
                 · exact h rfl), if_neg (by intro h; rcases h with h | h <;> (have h : (98 : UInt8) = _ := h; exact absurd h (by decide))), if_pos (.inl rfl)]
  exact unbase_b64L l
theorem hexB_append (a b : List UInt8) : hexB (a ++ b) = hexB a ++ hexB b := by simp [hexB]
theorem grp_append (a b : List UInt8) (h : 3 ≤ a.length) : grp (a ++ b) = grp a := by
  match a, h with
  | x :: y :: z :: r, _ =>
    have e : n3 (x :: y :: z :: r ++ b) = n3 (x :: y :: z :: r) := rfl
    rw [grp_eq, grp_eq]
    unfold grpAt
    rw [e]
    simp only [List.length_append, List.length_cons]
    rw [if_neg (by omega), if_neg (by omega), if_neg (by omega), if_neg (by omega), if_neg (by omega), if_neg (by omega), if_neg (by omega), if_neg (by omega)]
theorem b64B_append : ∀ (m : Nat) (a b : List UInt8), a.length ≤ m → a.length % 3 = 0 → b64B (a ++ b) = b64B a ++ b64B b
  | 0, a, b, h, _ => by
    obtain rfl := List.eq_nil_of_length_eq_zero (Nat.le_zero.1 h)
    rfl
  | m + 1, a, b, h, h3 => by
    by_cases h0 : a.length = 0
    · obtain rfl := List.eq_nil_of_length_eq_zero h0
      rfl
    · have hl : 3 ≤ a.length := by omega
      rw [b64B_step (a ++ b) (by rw [List.length_append]; omega), b64B_step a (by omega), grp_append a b hl, List.drop_append_of_le_length hl,
        b64B_append m (a.drop 3) b (by rw [List.length_drop]; omega) (by rw [List.length_drop]; omega), List.append_assoc]
end Go.Proofs.YtlbojhmhcaecjaaDoor
