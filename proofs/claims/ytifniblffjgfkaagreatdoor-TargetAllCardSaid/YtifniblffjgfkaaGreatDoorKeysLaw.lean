/- Laws of what is known of keys: numerals, lists of words, what comes of an offer. -/
import Derived.Test.YtifniblffjgfkaaGreatDoorKeysPlain
import Derived.Lib.SplitLaws
import Derived.Lib.Join
import Derived.Lib.ItoaNum
namespace Go.Proofs.YtifniblffjgfkaaGreatDoor
open Go
set_option linter.unusedVariables false
/- the pieces, as the library has them -/
theorem index_one_hit (c : UInt8) (l : List UInt8) : Lib.index (c :: l) [c] = 0 := by
  unfold Lib.index
  simp [List.isPrefixOf]
theorem index_one_miss {b c : UInt8} (l : List UInt8) (h : b ≠ c) : Lib.index (b :: l) [c] = if Lib.index l [c] == -1 then -1 else Lib.index l [c] + 1 := by
  rw [Lib.index]
  simp [List.isPrefixOf, Ne.symm h]
theorem split_one (c : UInt8) : ∀ s : List UInt8, Lib.splitK [c] 0 (Lib.count s [c]) s = splitC c s
  | [] => by rw [Lib.count_one]; rfl
  | b :: l => by
    have ih := split_one c l
    by_cases hb : b = c
    · subst hb
      rw [Lib.count_cons_eq, Nat.add_comm, Lib.splitK, index_one_hit, splitC, if_pos rfl, ← ih]
      simp
    · rw [Lib.count_cons_ne _ _ _ hb, splitC, if_neg hb, ← ih]
      rcases hk : Lib.count l [c] with _ | k
      · simp [Lib.splitK]
      · have hm : ¬ Lib.index l [c] = -1 := fun h => by have := Lib.count_miss h; omega
        have hg := Lib.index_ge l [c]
        obtain ⟨i, hi⟩ : ∃ i : Nat, Lib.index l [c] = i := ⟨(Lib.index l [c]).toNat, by omega⟩
        have e1 : Lib.index (b :: l) [c] = ((i + 1 : Nat) : Int) := by
          rw [index_one_miss l hb, hi, if_neg (by simp <;> omega)]
          omega
        rw [Lib.splitK, Lib.splitK, e1, hi, if_neg (by simp <;> omega), if_neg (by simp <;> omega)]
        simp
theorem splitC_ne (c : UInt8) (l : List UInt8) : splitC c l ≠ [] := by
  rcases l with _ | ⟨b, l⟩
  · simp [splitC]
  · rw [splitC]
    split
    · simp
    · split <;> simp
theorem splitC_cons {b c : UInt8} (l : List UInt8) (h : b ≠ c) : ∃ p ps, splitC c l = p :: ps ∧ splitC c (b :: l) = (b :: p) :: ps := by
  rcases hs : splitC c l with _ | ⟨p, ps⟩
  · exact absurd hs (splitC_ne c l)
  · exact ⟨p, ps, rfl, by rw [splitC, if_neg h, hs]⟩
theorem splitC_no (c : UInt8) : ∀ (l : List UInt8), ∀ x ∈ splitC c l, c ∉ x
  | [], x, hx => by simp [splitC] at hx; subst hx; simp
  | b :: l, x, hx => by
    have ih := splitC_no c l
    by_cases hb : b = c
    · rw [splitC, if_pos hb] at hx
      rcases List.mem_cons.1 hx with rfl | hx
      · simp
      · exact ih x hx
    · obtain ⟨p, ps, h1, h2⟩ := splitC_cons l hb
      rw [h2] at hx
      rw [h1] at ih
      rcases List.mem_cons.1 hx with rfl | hx
      · intro hm
        rcases List.mem_cons.1 hm with h | h
        · exact hb h.symm
        · exact ih p (List.mem_cons_self ..) h
      · exact ih x (List.mem_cons_of_mem _ hx)
theorem splitC_none (c : UInt8) : ∀ (l : List UInt8), c ∉ l → splitC c l = [l]
  | [], _ => rfl
  | b :: l, h => by
    have hb : b ≠ c := fun e => h (by rw [e]; exact List.mem_cons_self ..)
    rw [splitC, if_neg hb, splitC_none c l fun hm => h (List.mem_cons_of_mem _ hm)]
theorem splitC_cat (c : UInt8) (t : List UInt8) : ∀ (s : List UInt8), splitC c (s ++ c :: t) = splitC c s ++ splitC c t
  | [] => by
    rw [List.nil_append]
    conv => lhs; rw [splitC, if_pos rfl]
    rfl
  | b :: s => by
    have ih := splitC_cat c t s
    rw [List.cons_append]
    by_cases hb : b = c
    · rw [splitC, if_pos hb, ih, splitC, if_pos hb]
      rfl
    · obtain ⟨p, ps, h1, h2⟩ := splitC_cons s hb
      rw [splitC, if_neg hb, ih, h1, h2]
      rfl
theorem splitC_len (c : UInt8) : ∀ (l : List UInt8), (splitC c l).length ≤ l.length + 1
  | [] => by simp [splitC]
  | b :: l => by
    have ih := splitC_len c l
    by_cases hb : b = c
    · rw [splitC, if_pos hb]; simp only [List.length_cons]; omega
    · obtain ⟨p, ps, h1, h2⟩ := splitC_cons l hb
      rw [h2]
      rw [h1] at ih
      simp only [List.length_cons] at ih ⊢
      omega
theorem splitC_short (c : UInt8) : ∀ (l : List UInt8), ∀ x ∈ splitC c l, x.length ≤ l.length
  | [], x, hx => by simp [splitC] at hx; subst hx; simp
  | b :: l, x, hx => by
    have ih := splitC_short c l
    by_cases hb : b = c
    · rw [splitC, if_pos hb] at hx
      rcases List.mem_cons.1 hx with rfl | hx
      · simp
      · have := ih x hx; simp only [List.length_cons]; omega
    · obtain ⟨p, ps, h1, h2⟩ := splitC_cons l hb
      rw [h2] at hx
      rw [h1] at ih
      rcases List.mem_cons.1 hx with rfl | hx
      · have := ih p (List.mem_cons_self ..); simp only [List.length_cons]; omega
      · have := ih x (List.mem_cons_of_mem _ hx); simp only [List.length_cons]; omega
theorem join_split (c : UInt8) : ∀ (l : List UInt8), Lib.join (splitC c l) [c] = l
  | [] => by rw [splitC, Lib.join_one]
  | b :: l => by
    have ih := join_split c l
    by_cases hb : b = c
    · rw [splitC, if_pos hb, Lib.join_cons]
      rcases hs : splitC c l with _ | ⟨p, ps⟩
      · exact absurd hs (splitC_ne c l)
      · rw [hs, Lib.join_cons] at ih
        simp only [Lib.joinTail, List.map_cons, List.flatten_cons, List.nil_append, List.cons_append] at ih ⊢
        rw [ih, hb]
    · obtain ⟨p, ps, h1, h2⟩ := splitC_cons l hb
      rw [h1, Lib.join_cons] at ih
      rw [h2, Lib.join_cons, List.cons_append, ih]
theorem okWords_iff : ∀ (l seen : List (List UInt8)), okWords seen l = true ↔ (∀ x ∈ l, x ≠ [] ∧ x ∉ seen) ∧ l.Nodup
  | [], seen => by simp [okWords]
  | x :: l, seen => by
    have ih := okWords_iff l (x :: seen)
    rw [okWords]
    by_cases h : x = [] ∨ x ∈ seen
    · rw [if_pos h]
      constructor
      · intro h2; cases h2
      · rintro ⟨h2, _⟩
        have := h2 x (List.mem_cons_self ..)
        rcases h with h | h
        · exact absurd h this.1
        · exact absurd h this.2
    · rw [if_neg h, ih, List.nodup_cons]
      constructor
      · rintro ⟨h1, h2⟩
        refine ⟨fun y hy => ?_, fun hx => (h1 x hx).2 (List.mem_cons_self ..), h2⟩
        rcases List.mem_cons.1 hy with rfl | hy
        · exact ⟨fun e => h (.inl e), fun e => h (.inr e)⟩
        · exact ⟨(h1 y hy).1, fun e => (h1 y hy).2 (List.mem_cons_of_mem _ e)⟩
      · rintro ⟨h1, h2, h3⟩
        refine ⟨fun y hy => ⟨(h1 y (List.mem_cons_of_mem _ hy)).1, fun e => ?_⟩, h3⟩
        rcases List.mem_cons.1 e with rfl | e
        · exact h2 hy
        · exact (h1 y (List.mem_cons_of_mem _ hy)).2 e
theorem okWords_snoc (l : List (List UInt8)) (w : List UInt8) (h : okWords [] l = true) : okWords [] (l ++ [w]) = true ↔ w ≠ [] ∧ w ∉ l := by
  rw [okWords_iff] at h ⊢
  rw [List.nodup_append]
  constructor
  · rintro ⟨h1, _, _, h2⟩
    exact ⟨(h1 w (by simp)).1, fun hw => h2 w hw w (by simp) rfl⟩
  · rintro ⟨h1, h2⟩
    refine ⟨fun x hx => ?_, h.2, by simp, fun a ha b hb e => ?_⟩
    · rcases List.mem_append.1 hx with hx | hx
      · exact h.1 x hx
      · simp at hx; subst hx; exact ⟨h1, by simp⟩
    · simp at hb; subst hb; subst e; exact h2 ha
theorem firstBoth_mem : ∀ {l m : List (List UInt8)} {x : List UInt8}, firstBoth l m = some x → x ∈ l ∧ x ∈ m
  | [], m, x, h => by cases h
  | y :: l, m, x, h => by
    rw [firstBoth] at h
    split at h
    · obtain rfl := Option.some.inj h
      exact ⟨List.mem_cons_self .., by assumption⟩
    · obtain ⟨h1, h2⟩ := firstBoth_mem h
      exact ⟨List.mem_cons_of_mem _ h1, h2⟩
theorem firstBoth_none : ∀ {l m : List (List UInt8)}, firstBoth l m = none → ∀ x ∈ l, x ∉ m
  | [], m, h => fun x hx => by cases hx
  | y :: l, m, h => by
    rw [firstBoth] at h
    split at h
    · cases h
    · intro x hx
      rcases List.mem_cons.1 hx with rfl | hx
      · assumption
      · exact firstBoth_none h x hx
theorem firstBoth_one (x : List UInt8) (m : List (List UInt8)) (h : x ∈ m) : firstBoth [x] m = some x := by rw [firstBoth, if_pos h]
theorem firstBoth_skip {y : List UInt8} {l m : List (List UInt8)} (h : y ∉ m) : firstBoth (y :: l) m = firstBoth l m := by rw [firstBoth, if_neg h]
/- numerals -/
theorem numFrom_cat : ∀ (b acc : Nat) (l m : List UInt8), numFrom b acc (l ++ m) = (numFrom b acc l).bind fun x => numFrom b x m
  | b, acc, [], m => by simp [numFrom]
  | b, acc, c :: l, m => by
    rw [List.cons_append, numFrom, numFrom]
    rcases digV b c with _ | d
    · rfl
    · simp only
      split
      · exact numFrom_cat b _ l m
      · rfl
theorem dig_ten : ∀ d : Fin 10, digV 10 (UInt8.ofNat (48 + d.val)) = some d.val ∧ 48 ≤ (UInt8.ofNat (48 + d.val)).toNat ∧ (UInt8.ofNat (48 + d.val)).toNat ≤ 57 ∧ (d.val ≠ 0 → UInt8.ofNat (48 + d.val) ≠ 48) := by decide +kernel
theorem dgF_num : ∀ (f n : Nat), n < 10 ^ (f + 1) → n < 1099511627776 → numFrom 10 0 (dgF f n) = some n ∧ (∀ c ∈ dgF f n, 48 ≤ c.toNat ∧ c.toNat ≤ 57) ∧ dgF f n ≠ [] ∧ (n = 0 → dgF f n = [48]) ∧ (n ≠ 0 → (dgF f n).head? ≠ some 48)
  | 0, n, h, hb => by
    have hn : n < 10 := by simpa using h
    obtain ⟨d1, d2, d3, d4⟩ := dig_ten ⟨n, hn⟩
    simp only at d1 d2 d3 d4
    rw [dgF, Nat.mod_eq_of_lt hn]
    refine ⟨?_, by simp only [List.mem_singleton, forall_eq]; exact ⟨d2, d3⟩, by simp, fun h0 => by subst h0; rfl, fun h0 => by simpa using d4 h0⟩
    rw [numFrom, d1]
    simp only [Nat.zero_mul, Nat.zero_add]
    rw [if_pos hb, numFrom]
  | f + 1, n, h, hb => by
    rw [dgF]
    split
    · rename_i hn
      obtain ⟨d1, d2, d3, d4⟩ := dig_ten ⟨n, hn⟩
      simp only at d1 d2 d3 d4
      refine ⟨?_, by simp only [List.mem_singleton, forall_eq]; exact ⟨d2, d3⟩, by simp, fun h0 => by subst h0; rfl, fun h0 => by simpa using d4 h0⟩
      rw [numFrom, d1]
      simp only [Nat.zero_mul, Nat.zero_add]
      rw [if_pos hb, numFrom]
    · rename_i hn
      have hp : n < 10 ^ (f + 1) * 10 := by rw [← Nat.pow_succ]; exact h
      obtain ⟨i1, i2, i3, i4, i5⟩ := dgF_num f (n / 10) (by omega) (by omega)
      obtain ⟨d1, d2, d3, d4⟩ := dig_ten ⟨n % 10, by omega⟩
      simp only at d1 d2 d3 d4
      refine ⟨?_, ?_, by simp, fun h0 => by omega, fun h0 => ?_⟩
      · rw [numFrom_cat, i1, Option.bind_some, numFrom, d1]
        simp only
        rw [if_pos (by omega), numFrom]
        congr 1
        omega
      · intro c hc
        rcases List.mem_append.1 hc with hc | hc
        · exact i2 c hc
        · simp only [List.mem_singleton] at hc
          subst hc
          exact ⟨d2, d3⟩
      · have := i5 (by omega)
        rcases hd : dgF f (n / 10) with _ | ⟨x, xs⟩
        · exact absurd hd i3
        · rw [hd] at this
          simpa using this
theorem numP_dgs (n : Nat) (h : n < 1099511627776) : numP (dgs n) = some n := by
  obtain ⟨h1, h2, h3, h4, h5⟩ := dgF_num 20 n (Nat.lt_trans h (by decide)) h
  have hx : isHex (dgF 20 n) = false := by
    unfold isHex
    rcases hd : dgF 20 n with _ | ⟨a, _ | ⟨b, l⟩⟩
    · rfl
    · simp
    · have := h2 b (by rw [hd]; simp)
      have hne : b ≠ 120 := by rintro rfl; simp at this
      simp [hne]
  unfold numP dgs
  rw [hx, if_neg (by simp)]
  unfold numB
  rw [if_neg h3, h1]
  simp only
  rw [if_pos]
  by_cases h0 : n = 0
  · exact .inl (h4 h0)
  · exact .inr (h5 h0)
theorem dgs_ne (n : Nat) (h : n < 1099511627776) : dgs n ≠ [] := (dgF_num 20 n (Nat.lt_trans h (by decide)) h).2.2.1
theorem numeralE_ok {v : List UInt8} {lo hi : Int} (h : numeralE v lo hi = 0) : ∃ n : Nat, numP v = some n ∧ lo ≤ n ∧ (n : Int) ≤ hi := by
  unfold numeralE at h
  rcases hv : numP v with _ | n
  · rw [hv] at h; cases h
  · rw [hv] at h
    simp only at h
    split at h
    · cases h
    · exact ⟨n, rfl, by omega, by omega⟩
theorem numeralE_dgs {n : Nat} {lo hi : Int} (h1 : lo ≤ n) (h2 : (n : Int) ≤ hi) (h3 : n < 1099511627776) : numeralE (dgs n) lo hi = 0 := by
  unfold numeralE
  rw [numP_dgs n h3]
  simp only
  rw [if_neg (by omega)]
theorem yesB_eq (t : Bool) : (yesB t == [89, 101, 115]) = t := by cases t <;> rfl
theorem isYN_yesB (t : Bool) : isYN (yesB t) = true := by cases t <;> rfl
/- the library's numerals -/
theorem dgF_dec : ∀ (f n : Nat), n < 10 ^ (f + 1) → dgF f n = Lib.decDigits n
  | 0, n, h => by
    have hn : n < 10 := by simpa using h
    rw [dgF, Nat.mod_eq_of_lt hn, Lib.decDigits_one hn]
  | f + 1, n, h => by
    rw [dgF]
    split
    · rename_i hn
      rw [Lib.decDigits_one hn]
    · rename_i hn
      have hp : n < 10 ^ (f + 1) * 10 := by rw [← Nat.pow_succ]; exact h
      rw [dgF_dec f (n / 10) (by omega), Lib.decDigits.eq_1 n, dif_neg hn]
theorem dgs_itoa (n : Nat) (h : n < 1099511627776) : Lib.itoa (n : Int) = dgs n := by
  unfold Lib.itoa dgs
  rw [if_neg (by omega), dgF_dec 20 n (Nat.lt_trans h (by decide)), Int.toNat_natCast]
/- hexadecimal -/
def hxd (n : Nat) : UInt8 := if n < 10 then UInt8.ofNat (48 + n) else UInt8.ofNat (87 + n)
def hxF : Nat → Nat → List UInt8
  | 0, n => [hxd (n % 16)]
  | f + 1, n => if n < 16 then [hxd n] else hxF f (n / 16) ++ [hxd (n % 16)]
def upB (c : UInt8) : UInt8 := if 97 ≤ c.toNat ∧ c.toNat ≤ 122 then UInt8.ofNat (c.toNat - 32) else c
theorem dig_hex : ∀ d : Fin 16, digV 16 (hxd d.val) = some d.val ∧ digV 16 (upB (hxd d.val)) = some d.val ∧ (hxd d.val).toNat < 128 := by decide +kernel
theorem hxF_num : ∀ (f n : Nat), n < 16 ^ (f + 1) → n < 1099511627776 → numFrom 16 0 (hxF f n) = some n ∧ numFrom 16 0 ((hxF f n).map upB) = some n ∧ hxF f n ≠ [] ∧ (∀ c ∈ hxF f n, c.toNat < 128) ∧ (hxF f n).length ≤ f + 1
  | 0, n, h, hb => by
    have hn : n < 16 := by simpa using h
    obtain ⟨d1, d2, d3⟩ := dig_hex ⟨n, hn⟩
    simp only at d1 d2 d3
    rw [hxF, Nat.mod_eq_of_lt hn]
    refine ⟨?_, ?_, by simp, by simpa using d3, by simp⟩
    · rw [numFrom, d1]
      simp only [Nat.zero_mul, Nat.zero_add]
      rw [if_pos hb, numFrom]
    · rw [List.map_cons, List.map_nil, numFrom, d2]
      simp only [Nat.zero_mul, Nat.zero_add]
      rw [if_pos hb, numFrom]
  | f + 1, n, h, hb => by
    rw [hxF]
    split
    · rename_i hn
      obtain ⟨d1, d2, d3⟩ := dig_hex ⟨n, hn⟩
      simp only at d1 d2 d3
      refine ⟨?_, ?_, by simp, by simpa using d3, by simp⟩
      · rw [numFrom, d1]
        simp only [Nat.zero_mul, Nat.zero_add]
        rw [if_pos hb, numFrom]
      · rw [List.map_cons, List.map_nil, numFrom, d2]
        simp only [Nat.zero_mul, Nat.zero_add]
        rw [if_pos hb, numFrom]
    · rename_i hn
      have hp : n < 16 ^ (f + 1) * 16 := by rw [← Nat.pow_succ]; exact h
      obtain ⟨i1, i2, i3, i4, i5⟩ := hxF_num f (n / 16) (by omega) (by omega)
      obtain ⟨d1, d2, d3⟩ := dig_hex ⟨n % 16, by omega⟩
      simp only at d1 d2 d3
      refine ⟨?_, ?_, by simp, ?_, by rw [List.length_append]; simp only [List.length_cons, List.length_nil]; omega⟩
      · rw [numFrom_cat, i1, Option.bind_some, numFrom, d1]
        simp only
        rw [if_pos (by omega), numFrom]
        congr 1
        omega
      · rw [List.map_append, List.map_cons, List.map_nil, numFrom_cat, i2, Option.bind_some, numFrom, d2]
        simp only
        rw [if_pos (by omega), numFrom]
        congr 1
        omega
      · intro c hc
        rcases List.mem_append.1 hc with hc | hc
        · exact i4 c hc
        · simp only [List.mem_singleton] at hc
          subst hc
          exact d3
theorem numP_hex (l : List UInt8) (n : Nat) (h : numFrom 16 0 l = some n) (hne : l ≠ []) : numP (48 :: 120 :: l) = some n := by
  unfold numP
  rw [show isHex (48 :: 120 :: l) = true by simp [isHex], if_pos rfl]
  simp only [List.drop_succ_cons, List.drop_zero]
  unfold numB
  rw [if_neg hne, h]
/- once is enough -/
theorem resR_again (r : KeyR) (hr : r ∈ keyT) (a b x : List UInt8) (ha : fitsR r a = 0) (hb : fitsR r b = 0) (h : resR r a b = .inr x) : fitsR r x = 0 ∧ resR r x x = .inr x ∧ resR r x b = .inr x := by
  have hl := keyT_len r hr
  have ha0 := ha
  unfold resR at h
  by_cases k1 : r.kind = 1
  · rw [if_pos k1] at h
    obtain rfl := Sum.inr.inj h
    unfold fitsR resR
    rw [if_pos (.inl k1), isYN_yesB, if_pos rfl, if_pos k1, if_pos k1, yesB_eq]
    refine ⟨rfl, ?_, ?_⟩
    · rw [Bool.and_self]
    · rw [Bool.and_assoc, Bool.and_self]
  rw [if_neg k1] at h
  by_cases k2 : r.kind = 2
  · rw [if_pos k2] at h
    obtain rfl := Sum.inr.inj h
    unfold fitsR resR
    rw [if_pos (.inr k2), isYN_yesB, if_pos rfl, if_neg k1, if_neg k1, if_pos k2, if_pos k2, yesB_eq]
    refine ⟨rfl, ?_, ?_⟩
    · rw [Bool.or_self]
    · rw [Bool.or_assoc, Bool.or_self]
  rw [if_neg k2] at h
  unfold fitsR at ha hb
  rw [if_neg (by omega)] at ha hb
  by_cases k3 : r.kind = 3
  · rw [if_pos k3] at h
    rw [if_pos (.inl k3)] at ha hb
    obtain ⟨na, ea, a1, a2⟩ := numeralE_ok ha
    obtain ⟨nb, eb, b1, b2⟩ := numeralE_ok hb
    obtain rfl := Sum.inr.inj h
    rw [ea, eb]
    simp only [Option.getD_some]
    have hm : min na nb < 1099511627776 := by omega
    unfold fitsR resR
    rw [if_neg (by omega), if_pos (.inl k3), if_neg k1, if_neg k2, if_pos k3, if_neg k1, if_neg k2, if_pos k3, numP_dgs _ hm, eb]
    simp only [Option.getD_some]
    refine ⟨numeralE_dgs (by omega) (by omega) hm, ?_, ?_⟩
    · rw [Nat.min_self]
    · rw [Nat.min_assoc, Nat.min_self]
  rw [if_neg k3] at h
  by_cases k4 : r.kind = 4
  · rw [if_pos k4] at h
    rw [if_pos (.inr (.inl k4))] at ha hb
    obtain ⟨na, ea, a1, a2⟩ := numeralE_ok ha
    obtain ⟨nb, eb, b1, b2⟩ := numeralE_ok hb
    obtain rfl := Sum.inr.inj h
    rw [ea, eb]
    simp only [Option.getD_some]
    have hm : max na nb < 1099511627776 := by omega
    unfold fitsR resR
    rw [if_neg (by omega), if_pos (.inr (.inl k4)), if_neg k1, if_neg k2, if_neg k3, if_pos k4, if_neg k1, if_neg k2, if_neg k3, if_pos k4, numP_dgs _ hm, eb]
    simp only [Option.getD_some]
    refine ⟨numeralE_dgs (by omega) (by omega) hm, ?_, ?_⟩
    · rw [Nat.max_self]
    · rw [Nat.max_assoc, Nat.max_self]
  rw [if_neg k4] at h
  by_cases k5 : r.kind = 5
  · rw [if_pos k5] at h
    rw [if_neg (by omega), if_pos k5] at ha hb
    rcases hf : firstBoth (splitC 44 a) (splitC 44 b) with _ | y
    · rw [hf] at h; cases h
    rw [hf] at h
    obtain rfl := Sum.inr.inj h
    obtain ⟨m1, m2⟩ := firstBoth_mem hf
    have hs : splitC 44 y = [y] := splitC_none 44 y (splitC_no 44 a y m1)
    have hne : y ≠ [] := by
      unfold listP at ha
      split at ha
      · rename_i hok
        rw [okWords_iff] at hok
        exact (hok.1 y m1).1
      · cases ha
    have hlp : listP y = some [y] := by
      unfold listP
      rw [hs, if_pos]
      rw [okWords_iff]
      simp [hne]
    unfold fitsR resR
    rw [if_neg (by omega), if_neg (by omega), if_pos k5, hlp, if_neg k1, if_neg k2, if_neg k3, if_neg k4, if_pos k5, if_neg k1, if_neg k2, if_neg k3, if_neg k4, if_pos k5, hs, firstBoth_one y [y] (by simp), firstBoth_one y _ m2]
    exact ⟨rfl, rfl, rfl⟩
  · rw [if_neg k5] at h
    obtain rfl := Sum.inr.inj h
    refine ⟨ha0, ?_, ?_⟩ <;> (unfold resR; rw [if_neg k1, if_neg k2, if_neg k3, if_neg k4, if_neg k5])
theorem resE_inv {name a b x : List UInt8} (h : resE name a b = .inr x) : ∃ r, keyRow name = some r ∧ fitsR r a = 0 ∧ fitsR r b = 0 ∧ resR r a b = .inr x := by
  unfold resE at h
  rcases hk : keyRow name with _ | r
  · rw [hk] at h; cases h
  · rw [hk] at h
    simp only at h
    split at h
    · cases h
    · split at h
      · cases h
      · exact ⟨r, rfl, by omega, by omega, h⟩
theorem resE_of {name a b : List UInt8} {r : KeyR} (hk : keyRow name = some r) (ha : fitsR r a = 0) (hb : fitsR r b = 0) : resE name a b = resR r a b := by
  unfold resE
  rw [hk]
  simp only
  rw [if_neg (by omega), if_neg (by omega)]
theorem resE_again {name a b x : List UInt8} (h : resE name a b = .inr x) : fitsE name x = 0 ∧ resE name x x = .inr x ∧ resE name x b = .inr x := by
  obtain ⟨r, hk, ha, hb, hr⟩ := resE_inv h
  obtain ⟨h1, h2, h3⟩ := resR_again r (keyRow_mem hk) a b x ha hb hr
  refine ⟨?_, ?_, ?_⟩
  · unfold fitsE; rw [hk]; exact h1
  · rw [resE_of hk h1 h1]; exact h2
  · rw [resE_of hk h1 hb]; exact h3
theorem resR_both (r : KeyR) (a b : List UInt8) (h5 : r.kind ≠ 5) (h6 : r.kind = 1 ∨ r.kind = 2 ∨ r.kind = 3 ∨ r.kind = 4) : resR r a b = resR r b a := by
  unfold resR
  rw [Bool.and_comm (b == _), Bool.or_comm (b == _), Nat.min_comm ((numP b).getD 0), Nat.max_comm ((numP b).getD 0)]
  rcases h6 with h | h | h | h <;> simp [h]
theorem dgF_len : ∀ (f n : Nat), (dgF f n).length ≤ f + 1
  | 0, n => by simp [dgF]
  | f + 1, n => by
    rw [dgF]
    split
    · simp
    · have := dgF_len f (n / 10)
      rw [List.length_append]
      simp only [List.length_cons, List.length_nil]
      omega
theorem resE_len {name a b x : List UInt8} (h : resE name a b = .inr x) : x.length ≤ a.length + 21 := by
  obtain ⟨r, hk, ha, hb, hr⟩ := resE_inv h
  have hy : ∀ t, (yesB t).length ≤ 3 := fun t => by cases t <;> decide
  unfold resR at hr
  split at hr
  · obtain rfl := Sum.inr.inj hr
    have := hy (a == [89, 101, 115] && b == [89, 101, 115])
    omega
  · split at hr
    · obtain rfl := Sum.inr.inj hr
      have := hy (a == [89, 101, 115] || b == [89, 101, 115])
      omega
    · split at hr
      · obtain rfl := Sum.inr.inj hr
        have := dgF_len 20 (min ((numP a).getD 0) ((numP b).getD 0))
        unfold dgs
        omega
      · split at hr
        · obtain rfl := Sum.inr.inj hr
          have := dgF_len 20 (max ((numP a).getD 0) ((numP b).getD 0))
          unfold dgs
          omega
        · split at hr
          · split at hr
            · rename_i y hy
              obtain rfl := Sum.inr.inj hr
              have := splitC_short 44 a y (firstBoth_mem hy).1
              omega
            · cases hr
          · obtain rfl := Sum.inr.inj hr
            omega
def okS : Nat ⊕ List UInt8 → Bool
  | .inl _ => false
  | .inr _ => true
def txtS : Nat ⊕ List UInt8 → List UInt8
  | .inl _ => []
  | .inr s => s
theorem resE_both (name a b : List UInt8) (r : KeyR) (hk : keyRow name = some r) (h6 : r.kind = 1 ∨ r.kind = 2 ∨ r.kind = 3 ∨ r.kind = 4) : okS (resE name a b) = okS (resE name b a) ∧ txtS (resE name a b) = txtS (resE name b a) := by
  unfold resE
  rw [hk]
  simp only
  by_cases ha : fitsR r a = 0
  · by_cases hb : fitsR r b = 0
    · rw [if_neg (by omega), if_neg (by omega), if_neg (by omega), if_neg (by omega), resR_both r a b (by omega) h6]
      exact ⟨rfl, rfl⟩
    · rw [if_neg (by omega), if_pos (by omega), if_pos (by omega)]
      exact ⟨rfl, rfl⟩
  · by_cases hb : fitsR r b = 0
    · rw [if_pos (by omega), if_neg (by omega), if_pos (by omega)]
      exact ⟨rfl, rfl⟩
    · rw [if_pos (by omega), if_pos (by omega)]
      exact ⟨rfl, rfl⟩
theorem resE_told {name a b x : List UInt8} {r : KeyR} (hk : keyRow name = some r) (h6 : r.kind = 6 ∨ r.kind = 7) (h : resE name a b = .inr x) : x = a := by
  obtain ⟨r', hk', ha, hb, hr⟩ := resE_inv h
  obtain rfl := Option.some.inj (hk.symm.trans hk')
  unfold resR at hr
  rcases h6 with h6 | h6 <;> (simp [h6] at hr; exact hr.symm)
theorem keyed_plain : resE [73, 110, 105, 116, 105, 97, 108, 82, 50, 84] [78, 111] [89, 101, 115] = .inr [89, 101, 115] ∧ resE [77, 97, 120, 66, 117, 114, 115, 116, 76, 101, 110, 103, 116, 104] [48, 120, 52, 48, 48] [50, 48, 52, 56] = .inr [49, 48, 50, 52] ∧
    resE [72, 101, 97, 100, 101, 114, 68, 105, 103, 101, 115, 116] [67, 82, 67, 51, 50, 67, 44, 78, 111, 110, 101] [78, 111, 110, 101, 44, 67, 82, 67, 51, 50, 67] = .inr [67, 82, 67, 51, 50, 67] ∧ resE [72, 101, 97, 100, 101, 114, 68, 105, 103, 101, 115, 116] [88] [78, 111, 110, 101] = .inl 8 := by decide +kernel
end Go.Proofs.YtifniblffjgfkaaGreatDoor
