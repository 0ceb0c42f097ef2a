/- KeysPlain KeysLaw MapBool KeysList. -/
import Derived.Test.YtamlepacljjpiaaGreatDoorGhead
import Derived.Lib.SplitLaws
import Derived.Lib.Join
import Derived.Lib.ItoaNum
import Derived.ProofKit
import Derived.Maps.OwnOps
import Derived.Test.YtamlepacljjpiaaGreatDoorShelf
import Derived.Test.YtamlepacljjpiaaGreatDoorGbase
import Derived.StringKeys
import Derived.Maps.StringElems
import Derived.Maps.OwnSet
import Derived.Maps.Views
/- What is known of keys: the table, its words, numerals, lists of words. -/
namespace Go.Proofs.YtamlepacljjpiaaGreatDoor
set_option linter.unusedVariables false
structure KeyR where
  name : List UInt8
  kind : Nat
  low : Nat
  high : Nat
  dflt : List UInt8
  noth : Bool
  lonly : Bool
def keyT : List KeyR := [
  ⟨[72, 101, 97, 100, 101, 114, 68, 105, 103, 101, 115, 116], 5, 0, 0, [78, 111, 110, 101], false, true⟩,
  ⟨[68, 97, 116, 97, 68, 105, 103, 101, 115, 116], 5, 0, 0, [78, 111, 110, 101], false, true⟩,
  ⟨[77, 97, 120, 67, 111, 110, 110, 101, 99, 116, 105, 111, 110, 115], 3, 1, 65535, [49], true, true⟩,
  ⟨[69, 114, 114, 111, 114, 82, 101, 99, 111, 118, 101, 114, 121, 76, 101, 118, 101, 108], 3, 0, 2, [48], false, true⟩,
  ⟨[73, 110, 105, 116, 105, 97, 108, 82, 50, 84], 2, 0, 0, [89, 101, 115], true, true⟩,
  ⟨[73, 109, 109, 101, 100, 105, 97, 116, 101, 68, 97, 116, 97], 1, 0, 0, [89, 101, 115], true, true⟩,
  ⟨[77, 97, 120, 82, 101, 99, 118, 68, 97, 116, 97, 83, 101, 103, 109, 101, 110, 116, 76, 101, 110, 103, 116, 104], 7, 512, 16777215, [56, 49, 57, 50], false, false⟩,
  ⟨[77, 97, 120, 66, 117, 114, 115, 116, 76, 101, 110, 103, 116, 104], 3, 512, 16777215, [50, 54, 50, 49, 52, 52], true, true⟩,
  ⟨[70, 105, 114, 115, 116, 66, 117, 114, 115, 116, 76, 101, 110, 103, 116, 104], 3, 512, 16777215, [54, 53, 53, 51, 54], true, true⟩,
  ⟨[68, 101, 102, 97, 117, 108, 116, 84, 105, 109, 101, 50, 87, 97, 105, 116], 4, 0, 3600, [50], false, true⟩,
  ⟨[68, 101, 102, 97, 117, 108, 116, 84, 105, 109, 101, 50, 82, 101, 116, 97, 105, 110], 3, 0, 3600, [50, 48], false, true⟩,
  ⟨[77, 97, 120, 79, 117, 116, 115, 116, 97, 110, 100, 105, 110, 103, 82, 50, 84], 3, 1, 65535, [49], true, true⟩,
  ⟨[68, 97, 116, 97, 80, 68, 85, 73, 110, 79, 114, 100, 101, 114], 2, 0, 0, [89, 101, 115], true, true⟩,
  ⟨[68, 97, 116, 97, 83, 101, 113, 117, 101, 110, 99, 101, 73, 110, 79, 114, 100, 101, 114], 2, 0, 0, [89, 101, 115], true, true⟩,
  ⟨[73, 110, 105, 116, 105, 97, 116, 111, 114, 78, 97, 109, 101], 6, 0, 0, [45], false, true⟩,
  ⟨[73, 110, 105, 116, 105, 97, 116, 111, 114, 65, 108, 105, 97, 115], 6, 0, 0, [45], false, false⟩,
  ⟨[84, 97, 114, 103, 101, 116, 78, 97, 109, 101], 6, 0, 0, [45], false, true⟩,
  ⟨[83, 101, 115, 115, 105, 111, 110, 84, 121, 112, 101], 6, 0, 0, [78, 111, 114, 109, 97, 108], false, true⟩]

def dgF : Nat → Nat → List UInt8
  | 0, n => [UInt8.ofNat (48 + n % 10)]
  | f + 1, n => if n < 10 then [UInt8.ofNat (48 + n)] else dgF f (n / 10) ++ [UInt8.ofNat (48 + n % 10)]
def dgs (n : Nat) : List UInt8 := dgF 20 n
def keyWords (r : KeyR) : List (List UInt8) := [r.name, dgs r.kind, dgs r.low, dgs r.high, r.dflt, if r.noth then [78] else [45], if r.lonly then [76] else [45]]
def piecesK : List (List UInt8) := keyT.map fun r => joinC 32 (keyWords r)
def rowsK : List UInt8 := joinC 124 piecesK
theorem piecesK_no : ∀ p ∈ piecesK, ∀ x ∈ p, x ≠ 124 := by decide +kernel
theorem piecesK_ascii : ∀ p ∈ piecesK, ∀ x ∈ p, x.toNat < 128 := by decide +kernel
theorem piecesK_size : ∀ p ∈ piecesK, p.length < 1000 := by decide +kernel
theorem rowsK_size : rowsK.length < 10000 := by decide +kernel
theorem piecesK_fields : ∀ r ∈ keyT, Lib.fields (joinC 32 (keyWords r)) = keyWords r := by decide +kernel
theorem keyT_atoi : ∀ r ∈ keyT, Lib.atoi (dgs r.kind) = some (r.kind : Int) ∧ Lib.atoi (dgs r.low) = some (r.low : Int) ∧ Lib.atoi (dgs r.high) = some (r.high : Int) := by decide +kernel
theorem keyT_len : ∀ r ∈ keyT, (dgs r.kind).length ≤ 8 ∧ (dgs r.low).length ≤ 8 ∧ (dgs r.high).length ≤ 8 ∧ r.kind ≤ 7 ∧ r.low ≤ r.high ∧ r.high ≤ 16777215 ∧ r.name.length < 30 ∧ r.dflt.length < 10 := by decide +kernel
def keyRow (s : List UInt8) : Option KeyR := keyT.find? fun r => decide (r.name = s)
def dfl (r : KeyR) : List UInt8 := if r.dflt = [45] then [] else r.dflt
theorem keyRow_mem {s : List UInt8} {r : KeyR} (h : keyRow s = some r) : r ∈ keyT := List.mem_of_find?_eq_some h
theorem keyRow_name {s : List UInt8} {r : KeyR} (h : keyRow s = some r) : r.name = s := by simpa using List.find?_some h
theorem keyRow_hit (s : List UInt8) (k : Nat) (r : KeyR) (hr : keyT[k]? = some r) (hno : ∀ q ∈ keyT.take k, q.name ≠ s) (h : r.name = s) : keyRow s = some r := by
  have hk : k < keyT.length := (List.getElem?_eq_some_iff.1 hr).1
  have he : keyT = keyT.take k ++ r :: keyT.drop (k + 1) := by
    rw [List.getElem?_eq_getElem hk, Option.some.injEq] at hr
    rw [← hr, ← List.drop_eq_getElem_cons hk, List.take_append_drop]
  unfold keyRow
  rw [he]
  exact find_stop _ _ _ _ (fun q hq => by simpa using hno q hq) (by simpa using h)
theorem keyRow_none (s : List UInt8) (hno : ∀ q ∈ keyT, q.name ≠ s) : keyRow s = none := by
  unfold keyRow
  rw [List.find?_eq_none]
  intro q hq
  simpa using hno q hq
/- numerals -/
def hexVal (c : UInt8) : Option Nat :=
  if 48 ≤ c.toNat ∧ c.toNat ≤ 57 then some (c.toNat - 48) else if 97 ≤ c.toNat ∧ c.toNat ≤ 102 then some (c.toNat - 87) else if 65 ≤ c.toNat ∧ c.toNat ≤ 70 then some (c.toNat - 55) else none
def digV (b : Nat) (c : UInt8) : Option Nat := (hexVal c).bind fun d => if d < b then some d else none
def numFrom (b : Nat) (acc : Nat) : List UInt8 → Option Nat
  | [] => some acc
  | c :: l => match digV b c with
    | none => none
    | some d => if acc * b + d < 1099511627776 then numFrom b (acc * b + d) l else none
def numB (b : Nat) (l : List UInt8) : Option Nat := if l = [] then none else numFrom b 0 l
def isHex (l : List UInt8) : Bool := l.take 2 == [48, 120]
def numP (l : List UInt8) : Option Nat :=
  if isHex l then numB 16 (l.drop 2) else match numB 10 l with
    | none => none
    | some n => if l = [48] ∨ l.head? ≠ some 48 then some n else none
/- lists of words -/
def splitC (c : UInt8) : List UInt8 → List (List UInt8)
  | [] => [[]]
  | x :: l => if x = c then [] :: splitC c l else match splitC c l with
    | [] => [[x]]
    | p :: ps => (x :: p) :: ps
def okWords : List (List UInt8) → List (List UInt8) → Bool
  | _, [] => true
  | seen, x :: l => if x = [] ∨ x ∈ seen then false else okWords (x :: seen) l
def listP (l : List UInt8) : Option (List (List UInt8)) := if okWords [] (splitC 44 l) then some (splitC 44 l) else none
def isYN (v : List UInt8) : Bool := v == [89, 101, 115] || v == [78, 111]
def numeralE (v : List UInt8) (low high : Int) : Nat := match numP v with
  | none => 3
  | some n => if (n : Int) < low ∨ high < n then 2 else 0
/- what is wrong with a value of a key: 0: nothing -/
def fitsR (r : KeyR) (v : List UInt8) : Nat :=
  if r.kind = 1 ∨ r.kind = 2 then (if isYN v then 0 else 3)
  else if r.kind = 3 ∨ r.kind = 4 ∨ r.kind = 7 then numeralE v r.low r.high
  else if r.kind = 5 then (if (listP v).isSome then 0 else 3)
  else if v = [] then 3 else 0
def fitsE (name v : List UInt8) : Nat := match keyRow name with
  | none => 5
  | some r => fitsR r v
def yesB (b : Bool) : List UInt8 := if b then [89, 101, 115] else [78, 111]
def firstBoth : List (List UInt8) → List (List UInt8) → Option (List UInt8)
  | [], _ => none
  | x :: l, m => if x ∈ m then some x else firstBoth l m
/- what comes of an offer: an error, or a text -/
def resR (r : KeyR) (a b : List UInt8) : Nat ⊕ List UInt8 :=
  if r.kind = 1 then .inr (yesB (a == [89, 101, 115] && b == [89, 101, 115]))
  else if r.kind = 2 then .inr (yesB (a == [89, 101, 115] || b == [89, 101, 115]))
  else if r.kind = 3 then .inr (dgs (min ((numP a).getD 0) ((numP b).getD 0)))
  else if r.kind = 4 then .inr (dgs (max ((numP a).getD 0) ((numP b).getD 0)))
  else if r.kind = 5 then (match firstBoth (splitC 44 a) (splitC 44 b) with | some x => .inr x | none => .inl 8)
  else .inr a
def resE (name a b : List UInt8) : Nat ⊕ List UInt8 := match keyRow name with
  | none => .inl 5
  | some r => if fitsR r a ≠ 0 then .inl (fitsR r a) else if fitsR r b ≠ 0 then .inl (fitsR r b) else resR r a b
end Go.Proofs.YtamlepacljjpiaaGreatDoor

/- Laws of what is known of keys: numerals, lists of words, what comes of an offer. -/
namespace Go.Proofs.YtamlepacljjpiaaGreatDoor
open Go
set_option linter.unusedVariables false
/- the pieces, as the library has them -/
theorem index_one_hit (c : UInt8) (l : List UInt8) : Lib.index (c :: l) [c] = 0 := by
  unfold Lib.index
  simp [List.isPrefixOf]
theorem index_one_miss {b c : UInt8} (l : List UInt8) (h : b ≠ c) : Lib.index (b :: l) [c] = if Lib.index l [c] == -1 then -1 else Lib.index l [c] + 1 := by
  rw [Lib.index]
  simp [List.isPrefixOf, Ne.symm h]
theorem split_one (c : UInt8) : ∀ s : List UInt8, Lib.splitK [c] 0 (Lib.count s [c]) s = splitC c s
  | [] => by rw [Lib.count_one]; rfl
  | b :: l => by
    have ih := split_one c l
    by_cases hb : b = c
    · subst hb
      rw [Lib.count_cons_eq, Nat.add_comm, Lib.splitK, index_one_hit, splitC, if_pos rfl, ← ih]
      simp
    · rw [Lib.count_cons_ne _ _ _ hb, splitC, if_neg hb, ← ih]
      rcases hk : Lib.count l [c] with _ | k
      · simp [Lib.splitK]
      · have hm : ¬ Lib.index l [c] = -1 := fun h => by have := Lib.count_miss h; omega
        have hg := Lib.index_ge l [c]
        obtain ⟨i, hi⟩ : ∃ i : Nat, Lib.index l [c] = i := ⟨(Lib.index l [c]).toNat, by omega⟩
        have e1 : Lib.index (b :: l) [c] = ((i + 1 : Nat) : Int) := by
          rw [index_one_miss l hb, hi, if_neg (by simp <;> omega)]
          omega
        rw [Lib.splitK, Lib.splitK, e1, hi, if_neg (by simp <;> omega), if_neg (by simp <;> omega)]
        simp
theorem splitC_ne (c : UInt8) (l : List UInt8) : splitC c l ≠ [] := by
  rcases l with _ | ⟨b, l⟩
  · simp [splitC]
  · rw [splitC]
    split
    · simp
    · split <;> simp
theorem splitC_cons {b c : UInt8} (l : List UInt8) (h : b ≠ c) : ∃ p ps, splitC c l = p :: ps ∧ splitC c (b :: l) = (b :: p) :: ps := by
  rcases hs : splitC c l with _ | ⟨p, ps⟩
  · exact absurd hs (splitC_ne c l)
  · exact ⟨p, ps, rfl, by rw [splitC, if_neg h, hs]⟩
theorem splitC_no (c : UInt8) : ∀ (l : List UInt8), ∀ x ∈ splitC c l, c ∉ x
  | [], x, hx => by simp [splitC] at hx; subst hx; simp
  | b :: l, x, hx => by
    have ih := splitC_no c l
    by_cases hb : b = c
    · rw [splitC, if_pos hb] at hx
      rcases List.mem_cons.1 hx with rfl | hx
      · simp
      · exact ih x hx
    · obtain ⟨p, ps, h1, h2⟩ := splitC_cons l hb
      rw [h2] at hx
      rw [h1] at ih
      rcases List.mem_cons.1 hx with rfl | hx
      · intro hm
        rcases List.mem_cons.1 hm with h | h
        · exact hb h.symm
        · exact ih p (List.mem_cons_self ..) h
      · exact ih x (List.mem_cons_of_mem _ hx)
theorem splitC_none (c : UInt8) : ∀ (l : List UInt8), c ∉ l → splitC c l = [l]
  | [], _ => rfl
  | b :: l, h => by
    have hb : b ≠ c := fun e => h (by rw [e]; exact List.mem_cons_self ..)
    rw [splitC, if_neg hb, splitC_none c l fun hm => h (List.mem_cons_of_mem _ hm)]
theorem splitC_cat (c : UInt8) (t : List UInt8) : ∀ (s : List UInt8), splitC c (s ++ c :: t) = splitC c s ++ splitC c t
  | [] => by
    rw [List.nil_append]
    conv => lhs; rw [splitC, if_pos rfl]
    rfl
  | b :: s => by
    have ih := splitC_cat c t s
    rw [List.cons_append]
    by_cases hb : b = c
    · rw [splitC, if_pos hb, ih, splitC, if_pos hb]
      rfl
    · obtain ⟨p, ps, h1, h2⟩ := splitC_cons s hb
      rw [splitC, if_neg hb, ih, h1, h2]
      rfl
theorem splitC_len (c : UInt8) : ∀ (l : List UInt8), (splitC c l).length ≤ l.length + 1
  | [] => by simp [splitC]
  | b :: l => by
    have ih := splitC_len c l
    by_cases hb : b = c
    · rw [splitC, if_pos hb]; simp only [List.length_cons]; omega
    · obtain ⟨p, ps, h1, h2⟩ := splitC_cons l hb
      rw [h2]
      rw [h1] at ih
      simp only [List.length_cons] at ih ⊢
      omega
theorem splitC_short (c : UInt8) : ∀ (l : List UInt8), ∀ x ∈ splitC c l, x.length ≤ l.length
  | [], x, hx => by simp [splitC] at hx; subst hx; simp
  | b :: l, x, hx => by
    have ih := splitC_short c l
    by_cases hb : b = c
    · rw [splitC, if_pos hb] at hx
      rcases List.mem_cons.1 hx with rfl | hx
      · simp
      · have := ih x hx; simp only [List.length_cons]; omega
    · obtain ⟨p, ps, h1, h2⟩ := splitC_cons l hb
      rw [h2] at hx
      rw [h1] at ih
      rcases List.mem_cons.1 hx with rfl | hx
      · have := ih p (List.mem_cons_self ..); simp only [List.length_cons]; omega
      · have := ih x (List.mem_cons_of_mem _ hx); simp only [List.length_cons]; omega
theorem join_split (c : UInt8) : ∀ (l : List UInt8), Lib.join (splitC c l) [c] = l
  | [] => by rw [splitC, Lib.join_one]
  | b :: l => by
    have ih := join_split c l
    by_cases hb : b = c
    · rw [splitC, if_pos hb, Lib.join_cons]
      rcases hs : splitC c l with _ | ⟨p, ps⟩
      · exact absurd hs (splitC_ne c l)
      · rw [hs, Lib.join_cons] at ih
        simp only [Lib.joinTail, List.map_cons, List.flatten_cons, List.nil_append, List.cons_append] at ih ⊢
        rw [ih, hb]
    · obtain ⟨p, ps, h1, h2⟩ := splitC_cons l hb
      rw [h1, Lib.join_cons] at ih
      rw [h2, Lib.join_cons, List.cons_append, ih]
theorem okWords_iff : ∀ (l seen : List (List UInt8)), okWords seen l = true ↔ (∀ x ∈ l, x ≠ [] ∧ x ∉ seen) ∧ l.Nodup
  | [], seen => by simp [okWords]
  | x :: l, seen => by
    have ih := okWords_iff l (x :: seen)
    rw [okWords]
    by_cases h : x = [] ∨ x ∈ seen
    · rw [if_pos h]
      constructor
      · intro h2; cases h2
      · rintro ⟨h2, _⟩
        have := h2 x (List.mem_cons_self ..)
        rcases h with h | h
        · exact absurd h this.1
        · exact absurd h this.2
    · rw [if_neg h, ih, List.nodup_cons]
      constructor
      · rintro ⟨h1, h2⟩
        refine ⟨fun y hy => ?_, fun hx => (h1 x hx).2 (List.mem_cons_self ..), h2⟩
        rcases List.mem_cons.1 hy with rfl | hy
        · exact ⟨fun e => h (.inl e), fun e => h (.inr e)⟩
        · exact ⟨(h1 y hy).1, fun e => (h1 y hy).2 (List.mem_cons_of_mem _ e)⟩
      · rintro ⟨h1, h2, h3⟩
        refine ⟨fun y hy => ⟨(h1 y (List.mem_cons_of_mem _ hy)).1, fun e => ?_⟩, h3⟩
        rcases List.mem_cons.1 e with rfl | e
        · exact h2 hy
        · exact (h1 y (List.mem_cons_of_mem _ hy)).2 e
theorem okWords_snoc (l : List (List UInt8)) (w : List UInt8) (h : okWords [] l = true) : okWords [] (l ++ [w]) = true ↔ w ≠ [] ∧ w ∉ l := by
  rw [okWords_iff] at h ⊢
  rw [List.nodup_append]
  constructor
  · rintro ⟨h1, _, _, h2⟩
    exact ⟨(h1 w (by simp)).1, fun hw => h2 w hw w (by simp) rfl⟩
  · rintro ⟨h1, h2⟩
    refine ⟨fun x hx => ?_, h.2, by simp, fun a ha b hb e => ?_⟩
    · rcases List.mem_append.1 hx with hx | hx
      · exact h.1 x hx
      · simp at hx; subst hx; exact ⟨h1, by simp⟩
    · simp at hb; subst hb; subst e; exact h2 ha
theorem firstBoth_mem : ∀ {l m : List (List UInt8)} {x : List UInt8}, firstBoth l m = some x → x ∈ l ∧ x ∈ m
  | [], m, x, h => by cases h
  | y :: l, m, x, h => by
    rw [firstBoth] at h
    split at h
    · obtain rfl := Option.some.inj h
      exact ⟨List.mem_cons_self .., by assumption⟩
    · obtain ⟨h1, h2⟩ := firstBoth_mem h
      exact ⟨List.mem_cons_of_mem _ h1, h2⟩
theorem firstBoth_none : ∀ {l m : List (List UInt8)}, firstBoth l m = none → ∀ x ∈ l, x ∉ m
  | [], m, h => fun x hx => by cases hx
  | y :: l, m, h => by
    rw [firstBoth] at h
    split at h
    · cases h
    · intro x hx
      rcases List.mem_cons.1 hx with rfl | hx
      · assumption
      · exact firstBoth_none h x hx
theorem firstBoth_one (x : List UInt8) (m : List (List UInt8)) (h : x ∈ m) : firstBoth [x] m = some x := by rw [firstBoth, if_pos h]
theorem firstBoth_skip {y : List UInt8} {l m : List (List UInt8)} (h : y ∉ m) : firstBoth (y :: l) m = firstBoth l m := by rw [firstBoth, if_neg h]
/- numerals -/
theorem numFrom_cat : ∀ (b acc : Nat) (l m : List UInt8), numFrom b acc (l ++ m) = (numFrom b acc l).bind fun x => numFrom b x m
  | b, acc, [], m => by simp [numFrom]
  | b, acc, c :: l, m => by
    rw [List.cons_append, numFrom, numFrom]
    rcases digV b c with _ | d
    · rfl
    · simp only
      split
      · exact numFrom_cat b _ l m
      · rfl
theorem dig_ten : ∀ d : Fin 10, digV 10 (UInt8.ofNat (48 + d.val)) = some d.val ∧ 48 ≤ (UInt8.ofNat (48 + d.val)).toNat ∧ (UInt8.ofNat (48 + d.val)).toNat ≤ 57 ∧ (d.val ≠ 0 → UInt8.ofNat (48 + d.val) ≠ 48) := by decide +kernel
theorem dgF_num : ∀ (f n : Nat), n < 10 ^ (f + 1) → n < 1099511627776 → numFrom 10 0 (dgF f n) = some n ∧ (∀ c ∈ dgF f n, 48 ≤ c.toNat ∧ c.toNat ≤ 57) ∧ dgF f n ≠ [] ∧ (n = 0 → dgF f n = [48]) ∧ (n ≠ 0 → (dgF f n).head? ≠ some 48)
  | 0, n, h, hb => by
    have hn : n < 10 := by simpa using h
    obtain ⟨d1, d2, d3, d4⟩ := dig_ten ⟨n, hn⟩
    simp only at d1 d2 d3 d4
    rw [dgF, Nat.mod_eq_of_lt hn]
    refine ⟨?_, by simp only [List.mem_singleton, forall_eq]; exact ⟨d2, d3⟩, by simp, fun h0 => by subst h0; rfl, fun h0 => by simpa using d4 h0⟩
    rw [numFrom, d1]
    simp only [Nat.zero_mul, Nat.zero_add]
    rw [if_pos hb, numFrom]
  | f + 1, n, h, hb => by
    rw [dgF]
    split
    · rename_i hn
      obtain ⟨d1, d2, d3, d4⟩ := dig_ten ⟨n, hn⟩
      simp only at d1 d2 d3 d4
      refine ⟨?_, by simp only [List.mem_singleton, forall_eq]; exact ⟨d2, d3⟩, by simp, fun h0 => by subst h0; rfl, fun h0 => by simpa using d4 h0⟩
      rw [numFrom, d1]
      simp only [Nat.zero_mul, Nat.zero_add]
      rw [if_pos hb, numFrom]
    · rename_i hn
      have hp : n < 10 ^ (f + 1) * 10 := by rw [← Nat.pow_succ]; exact h
      obtain ⟨i1, i2, i3, i4, i5⟩ := dgF_num f (n / 10) (by omega) (by omega)
      obtain ⟨d1, d2, d3, d4⟩ := dig_ten ⟨n % 10, by omega⟩
      simp only at d1 d2 d3 d4
      refine ⟨?_, ?_, by simp, fun h0 => by omega, fun h0 => ?_⟩
      · rw [numFrom_cat, i1, Option.bind_some, numFrom, d1]
        simp only
        rw [if_pos (by omega), numFrom]
        congr 1
        omega
      · intro c hc
        rcases List.mem_append.1 hc with hc | hc
        · exact i2 c hc
        · simp only [List.mem_singleton] at hc
          subst hc
          exact ⟨d2, d3⟩
      · have := i5 (by omega)
        rcases hd : dgF f (n / 10) with _ | ⟨x, xs⟩
        · exact absurd hd i3
        · rw [hd] at this
          simpa using this
theorem numP_dgs (n : Nat) (h : n < 1099511627776) : numP (dgs n) = some n := by
  obtain ⟨h1, h2, h3, h4, h5⟩ := dgF_num 20 n (Nat.lt_trans h (by decide)) h
  have hx : isHex (dgF 20 n) = false := by
    unfold isHex
    rcases hd : dgF 20 n with _ | ⟨a, _ | ⟨b, l⟩⟩
    · rfl
    · simp
    · have := h2 b (by rw [hd]; simp)
      have hne : b ≠ 120 := by rintro rfl; simp at this
      simp [hne]
  unfold numP dgs
  rw [hx, if_neg (by simp)]
  unfold numB
  rw [if_neg h3, h1]
  simp only
  rw [if_pos]
  by_cases h0 : n = 0
  · exact .inl (h4 h0)
  · exact .inr (h5 h0)
theorem dgs_ne (n : Nat) (h : n < 1099511627776) : dgs n ≠ [] := (dgF_num 20 n (Nat.lt_trans h (by decide)) h).2.2.1
theorem numeralE_ok {v : List UInt8} {lo hi : Int} (h : numeralE v lo hi = 0) : ∃ n : Nat, numP v = some n ∧ lo ≤ n ∧ (n : Int) ≤ hi := by
  unfold numeralE at h
  rcases hv : numP v with _ | n
  · rw [hv] at h; cases h
  · rw [hv] at h
    simp only at h
    split at h
    · cases h
    · exact ⟨n, rfl, by omega, by omega⟩
theorem numeralE_dgs {n : Nat} {lo hi : Int} (h1 : lo ≤ n) (h2 : (n : Int) ≤ hi) (h3 : n < 1099511627776) : numeralE (dgs n) lo hi = 0 := by
  unfold numeralE
  rw [numP_dgs n h3]
  simp only
  rw [if_neg (by omega)]
theorem yesB_eq (t : Bool) : (yesB t == [89, 101, 115]) = t := by cases t <;> rfl
theorem isYN_yesB (t : Bool) : isYN (yesB t) = true := by cases t <;> rfl
/- the library's numerals -/
theorem dgF_dec : ∀ (f n : Nat), n < 10 ^ (f + 1) → dgF f n = Lib.decDigits n
  | 0, n, h => by
    have hn : n < 10 := by simpa using h
    rw [dgF, Nat.mod_eq_of_lt hn, Lib.decDigits_one hn]
  | f + 1, n, h => by
    rw [dgF]
    split
    · rename_i hn
      rw [Lib.decDigits_one hn]
    · rename_i hn
      have hp : n < 10 ^ (f + 1) * 10 := by rw [← Nat.pow_succ]; exact h
      rw [dgF_dec f (n / 10) (by omega), Lib.decDigits.eq_1 n, dif_neg hn]
theorem dgs_itoa (n : Nat) (h : n < 1099511627776) : Lib.itoa (n : Int) = dgs n := by
  unfold Lib.itoa dgs
  rw [if_neg (by omega), dgF_dec 20 n (Nat.lt_trans h (by decide)), Int.toNat_natCast]
/- hexadecimal -/
def hxd (n : Nat) : UInt8 := if n < 10 then UInt8.ofNat (48 + n) else UInt8.ofNat (87 + n)
def hxF : Nat → Nat → List UInt8
  | 0, n => [hxd (n % 16)]
  | f + 1, n => if n < 16 then [hxd n] else hxF f (n / 16) ++ [hxd (n % 16)]
def upB (c : UInt8) : UInt8 := if 97 ≤ c.toNat ∧ c.toNat ≤ 122 then UInt8.ofNat (c.toNat - 32) else c
theorem dig_hex : ∀ d : Fin 16, digV 16 (hxd d.val) = some d.val ∧ digV 16 (upB (hxd d.val)) = some d.val ∧ (hxd d.val).toNat < 128 := by decide +kernel
theorem hxF_num : ∀ (f n : Nat), n < 16 ^ (f + 1) → n < 1099511627776 → numFrom 16 0 (hxF f n) = some n ∧ numFrom 16 0 ((hxF f n).map upB) = some n ∧ hxF f n ≠ [] ∧ (∀ c ∈ hxF f n, c.toNat < 128) ∧ (hxF f n).length ≤ f + 1
  | 0, n, h, hb => by
    have hn : n < 16 := by simpa using h
    obtain ⟨d1, d2, d3⟩ := dig_hex ⟨n, hn⟩
    simp only at d1 d2 d3
    rw [hxF, Nat.mod_eq_of_lt hn]
    refine ⟨?_, ?_, by simp, by simpa using d3, by simp⟩
    · rw [numFrom, d1]
      simp only [Nat.zero_mul, Nat.zero_add]
      rw [if_pos hb, numFrom]
    · rw [List.map_cons, List.map_nil, numFrom, d2]
      simp only [Nat.zero_mul, Nat.zero_add]
      rw [if_pos hb, numFrom]
  | f + 1, n, h, hb => by
    rw [hxF]
    split
    · rename_i hn
      obtain ⟨d1, d2, d3⟩ := dig_hex ⟨n, hn⟩
      simp only at d1 d2 d3
      refine ⟨?_, ?_, by simp, by simpa using d3, by simp⟩
      · rw [numFrom, d1]
        simp only [Nat.zero_mul, Nat.zero_add]
        rw [if_pos hb, numFrom]
      · rw [List.map_cons, List.map_nil, numFrom, d2]
        simp only [Nat.zero_mul, Nat.zero_add]
        rw [if_pos hb, numFrom]
    · rename_i hn
      have hp : n < 16 ^ (f + 1) * 16 := by rw [← Nat.pow_succ]; exact h
      obtain ⟨i1, i2, i3, i4, i5⟩ := hxF_num f (n / 16) (by omega) (by omega)
      obtain ⟨d1, d2, d3⟩ := dig_hex ⟨n % 16, by omega⟩
      simp only at d1 d2 d3
      refine ⟨?_, ?_, by simp, ?_, by rw [List.length_append]; simp only [List.length_cons, List.length_nil]; omega⟩
      · rw [numFrom_cat, i1, Option.bind_some, numFrom, d1]
        simp only
        rw [if_pos (by omega), numFrom]
        congr 1
        omega
      · rw [List.map_append, List.map_cons, List.map_nil, numFrom_cat, i2, Option.bind_some, numFrom, d2]
        simp only
        rw [if_pos (by omega), numFrom]
        congr 1
        omega
      · intro c hc
        rcases List.mem_append.1 hc with hc | hc
        · exact i4 c hc
        · simp only [List.mem_singleton] at hc
          subst hc
          exact d3
theorem numP_hex (l : List UInt8) (n : Nat) (h : numFrom 16 0 l = some n) (hne : l ≠ []) : numP (48 :: 120 :: l) = some n := by
  unfold numP
  rw [show isHex (48 :: 120 :: l) = true by simp [isHex], if_pos rfl]
  simp only [List.drop_succ_cons, List.drop_zero]
  unfold numB
  rw [if_neg hne, h]
/- once is enough -/
theorem resR_again (r : KeyR) (hr : r ∈ keyT) (a b x : List UInt8) (ha : fitsR r a = 0) (hb : fitsR r b = 0) (h : resR r a b = .inr x) : fitsR r x = 0 ∧ resR r x x = .inr x ∧ resR r x b = .inr x := by
  have hl := keyT_len r hr
  have ha0 := ha
  unfold resR at h
  by_cases k1 : r.kind = 1
  · rw [if_pos k1] at h
    obtain rfl := Sum.inr.inj h
    unfold fitsR resR
    rw [if_pos (.inl k1), isYN_yesB, if_pos rfl, if_pos k1, if_pos k1, yesB_eq]
    refine ⟨rfl, ?_, ?_⟩
    · rw [Bool.and_self]
    · rw [Bool.and_assoc, Bool.and_self]
  rw [if_neg k1] at h
  by_cases k2 : r.kind = 2
  · rw [if_pos k2] at h
    obtain rfl := Sum.inr.inj h
    unfold fitsR resR
    rw [if_pos (.inr k2), isYN_yesB, if_pos rfl, if_neg k1, if_neg k1, if_pos k2, if_pos k2, yesB_eq]
    refine ⟨rfl, ?_, ?_⟩
    · rw [Bool.or_self]
    · rw [Bool.or_assoc, Bool.or_self]
  rw [if_neg k2] at h
  unfold fitsR at ha hb
  rw [if_neg (by omega)] at ha hb
  by_cases k3 : r.kind = 3
  · rw [if_pos k3] at h
    rw [if_pos (.inl k3)] at ha hb
    obtain ⟨na, ea, a1, a2⟩ := numeralE_ok ha
    obtain ⟨nb, eb, b1, b2⟩ := numeralE_ok hb
    obtain rfl := Sum.inr.inj h
    rw [ea, eb]
    simp only [Option.getD_some]
    have hm : min na nb < 1099511627776 := by omega
    unfold fitsR resR
    rw [if_neg (by omega), if_pos (.inl k3), if_neg k1, if_neg k2, if_pos k3, if_neg k1, if_neg k2, if_pos k3, numP_dgs _ hm, eb]
    simp only [Option.getD_some]
    refine ⟨numeralE_dgs (by omega) (by omega) hm, ?_, ?_⟩
    · rw [Nat.min_self]
    · rw [Nat.min_assoc, Nat.min_self]
  rw [if_neg k3] at h
  by_cases k4 : r.kind = 4
  · rw [if_pos k4] at h
    rw [if_pos (.inr (.inl k4))] at ha hb
    obtain ⟨na, ea, a1, a2⟩ := numeralE_ok ha
    obtain ⟨nb, eb, b1, b2⟩ := numeralE_ok hb
    obtain rfl := Sum.inr.inj h
    rw [ea, eb]
    simp only [Option.getD_some]
    have hm : max na nb < 1099511627776 := by omega
    unfold fitsR resR
    rw [if_neg (by omega), if_pos (.inr (.inl k4)), if_neg k1, if_neg k2, if_neg k3, if_pos k4, if_neg k1, if_neg k2, if_neg k3, if_pos k4, numP_dgs _ hm, eb]
    simp only [Option.getD_some]
    refine ⟨numeralE_dgs (by omega) (by omega) hm, ?_, ?_⟩
    · rw [Nat.max_self]
    · rw [Nat.max_assoc, Nat.max_self]
  rw [if_neg k4] at h
  by_cases k5 : r.kind = 5
  · rw [if_pos k5] at h
    rw [if_neg (by omega), if_pos k5] at ha hb
    rcases hf : firstBoth (splitC 44 a) (splitC 44 b) with _ | y
    · rw [hf] at h; cases h
    rw [hf] at h
    obtain rfl := Sum.inr.inj h
    obtain ⟨m1, m2⟩ := firstBoth_mem hf
    have hs : splitC 44 y = [y] := splitC_none 44 y (splitC_no 44 a y m1)
    have hne : y ≠ [] := by
      unfold listP at ha
      split at ha
      · rename_i hok
        rw [okWords_iff] at hok
        exact (hok.1 y m1).1
      · cases ha
    have hlp : listP y = some [y] := by
      unfold listP
      rw [hs, if_pos]
      rw [okWords_iff]
      simp [hne]
    unfold fitsR resR
    rw [if_neg (by omega), if_neg (by omega), if_pos k5, hlp, if_neg k1, if_neg k2, if_neg k3, if_neg k4, if_pos k5, if_neg k1, if_neg k2, if_neg k3, if_neg k4, if_pos k5, hs, firstBoth_one y [y] (by simp), firstBoth_one y _ m2]
    exact ⟨rfl, rfl, rfl⟩
  · rw [if_neg k5] at h
    obtain rfl := Sum.inr.inj h
    refine ⟨ha0, ?_, ?_⟩ <;> (unfold resR; rw [if_neg k1, if_neg k2, if_neg k3, if_neg k4, if_neg k5])
theorem resE_inv {name a b x : List UInt8} (h : resE name a b = .inr x) : ∃ r, keyRow name = some r ∧ fitsR r a = 0 ∧ fitsR r b = 0 ∧ resR r a b = .inr x := by
  unfold resE at h
  rcases hk : keyRow name with _ | r
  · rw [hk] at h; cases h
  · rw [hk] at h
    simp only at h
    split at h
    · cases h
    · split at h
      · cases h
      · exact ⟨r, rfl, by omega, by omega, h⟩
theorem resE_of {name a b : List UInt8} {r : KeyR} (hk : keyRow name = some r) (ha : fitsR r a = 0) (hb : fitsR r b = 0) : resE name a b = resR r a b := by
  unfold resE
  rw [hk]
  simp only
  rw [if_neg (by omega), if_neg (by omega)]
theorem resE_again {name a b x : List UInt8} (h : resE name a b = .inr x) : fitsE name x = 0 ∧ resE name x x = .inr x ∧ resE name x b = .inr x := by
  obtain ⟨r, hk, ha, hb, hr⟩ := resE_inv h
  obtain ⟨h1, h2, h3⟩ := resR_again r (keyRow_mem hk) a b x ha hb hr
  refine ⟨?_, ?_, ?_⟩
  · unfold fitsE; rw [hk]; exact h1
  · rw [resE_of hk h1 h1]; exact h2
  · rw [resE_of hk h1 hb]; exact h3
theorem resR_both (r : KeyR) (a b : List UInt8) (h5 : r.kind ≠ 5) (h6 : r.kind = 1 ∨ r.kind = 2 ∨ r.kind = 3 ∨ r.kind = 4) : resR r a b = resR r b a := by
  unfold resR
  rw [Bool.and_comm (b == _), Bool.or_comm (b == _), Nat.min_comm ((numP b).getD 0), Nat.max_comm ((numP b).getD 0)]
  rcases h6 with h | h | h | h <;> simp [h]
theorem dgF_len : ∀ (f n : Nat), (dgF f n).length ≤ f + 1
  | 0, n => by simp [dgF]
  | f + 1, n => by
    rw [dgF]
    split
    · simp
    · have := dgF_len f (n / 10)
      rw [List.length_append]
      simp only [List.length_cons, List.length_nil]
      omega
theorem resE_len {name a b x : List UInt8} (h : resE name a b = .inr x) : x.length ≤ a.length + 21 := by
  obtain ⟨r, hk, ha, hb, hr⟩ := resE_inv h
  have hy : ∀ t, (yesB t).length ≤ 3 := fun t => by cases t <;> decide
  unfold resR at hr
  split at hr
  · obtain rfl := Sum.inr.inj hr
    have := hy (a == [89, 101, 115] && b == [89, 101, 115])
    omega
  · split at hr
    · obtain rfl := Sum.inr.inj hr
      have := hy (a == [89, 101, 115] || b == [89, 101, 115])
      omega
    · split at hr
      · obtain rfl := Sum.inr.inj hr
        have := dgF_len 20 (min ((numP a).getD 0) ((numP b).getD 0))
        unfold dgs
        omega
      · split at hr
        · obtain rfl := Sum.inr.inj hr
          have := dgF_len 20 (max ((numP a).getD 0) ((numP b).getD 0))
          unfold dgs
          omega
        · split at hr
          · split at hr
            · rename_i y hy
              obtain rfl := Sum.inr.inj hr
              have := splitC_short 44 a y (firstBoth_mem hy).1
              omega
            · cases hr
          · obtain rfl := Sum.inr.inj hr
            omega
def okS : Nat ⊕ List UInt8 → Bool
  | .inl _ => false
  | .inr _ => true
def txtS : Nat ⊕ List UInt8 → List UInt8
  | .inl _ => []
  | .inr s => s
theorem resE_both (name a b : List UInt8) (r : KeyR) (hk : keyRow name = some r) (h6 : r.kind = 1 ∨ r.kind = 2 ∨ r.kind = 3 ∨ r.kind = 4) : okS (resE name a b) = okS (resE name b a) ∧ txtS (resE name a b) = txtS (resE name b a) := by
  unfold resE
  rw [hk]
  simp only
  by_cases ha : fitsR r a = 0
  · by_cases hb : fitsR r b = 0
    · rw [if_neg (by omega), if_neg (by omega), if_neg (by omega), if_neg (by omega), resR_both r a b (by omega) h6]
      exact ⟨rfl, rfl⟩
    · rw [if_neg (by omega), if_pos (by omega), if_pos (by omega)]
      exact ⟨rfl, rfl⟩
  · by_cases hb : fitsR r b = 0
    · rw [if_pos (by omega), if_neg (by omega), if_pos (by omega)]
      exact ⟨rfl, rfl⟩
    · rw [if_pos (by omega), if_pos (by omega)]
      exact ⟨rfl, rfl⟩
theorem resE_told {name a b x : List UInt8} {r : KeyR} (hk : keyRow name = some r) (h6 : r.kind = 6 ∨ r.kind = 7) (h : resE name a b = .inr x) : x = a := by
  obtain ⟨r', hk', ha, hb, hr⟩ := resE_inv h
  obtain rfl := Option.some.inj (hk.symm.trans hk')
  unfold resR at hr
  rcases h6 with h6 | h6 <;> (simp [h6] at hr; exact hr.symm)
theorem keyed_plain : resE [73, 110, 105, 116, 105, 97, 108, 82, 50, 84] [78, 111] [89, 101, 115] = .inr [89, 101, 115] ∧ resE [77, 97, 120, 66, 117, 114, 115, 116, 76, 101, 110, 103, 116, 104] [48, 120, 52, 48, 48] [50, 48, 52, 56] = .inr [49, 48, 50, 52] ∧
    resE [72, 101, 97, 100, 101, 114, 68, 105, 103, 101, 115, 116] [67, 82, 67, 51, 50, 67, 44, 78, 111, 110, 101] [78, 111, 110, 101, 44, 67, 82, 67, 51, 50, 67] = .inr [67, 82, 67, 51, 50, 67] ∧ resE [72, 101, 97, 100, 101, 114, 68, 105, 103, 101, 115, 116] [88] [78, 111, 110, 101] = .inl 8 := by decide +kernel
end Go.Proofs.YtamlepacljjpiaaGreatDoor

/- A look-up in a map of bools that the call made. -/
namespace Go.Proofs.YtamlepacljjpiaaGreatDoor
open Go Go.Maps
open Go.Maps (Keyed)
set_option linter.unusedVariables false
theorem plainElem_bool_inv {H : Type} {P : Program} {e : TypeId} (he : P.underlying e = some .bool) {v : Value} {z : DataW H × List MemPlace} (h : plainElem P e v = some z) : ∃ a, v = .bool a ∧ z = (.lit (.bool a), []) := by
  unfold plainElem at h
  rw [he] at h
  cases v <;> simp at h
  subst h
  exact ⟨_, rfl, rfl⟩
/-- 'm[k]' of a map of bools that the call made: some bool, of which the datum tells. -/
theorem lookup_bool {H : Type} {P : Program} {k t e : TypeId} {w : World} {b n : Nat} {D : DataW H} (h : w.ownsMap P k (plainElem P e) b n D) (K : Keyed P k) (ht : P.underlying t = some (.map k e)) (he : P.underlying e = some .bool) (hz : (zeroValue e).run P w = .ok (.bool false) w)
    {key : Value} {kl : Lit} (hkey : keyOf P k key = some kl) : ∃ c, (Instr.lookup t (.map (some b)) key false).run P w = .ok (.bool c) w ∧ D.atKey kl (.lit (.bool false)) = .lit (.bool c) := by
  obtain ⟨v, ps, hrun, hv⟩ := h.lookup K ht hz (plainElem_bool he false) hkey
  obtain ⟨c, rfl, hc⟩ := plainElem_bool_inv he hv
  simp only [Prod.mk.injEq] at hc
  exact ⟨c, hrun, hc.1⟩
end Go.Proofs.YtamlepacljjpiaaGreatDoor

/- keys.List. -/
namespace Go.Proofs.YtamlepacljjpiaaGreatDoor
open Go.ChangeShapes Go.WideShapes Go.ChangeAt Go.RowKit Go.Shelf
set_option linter.unusedVariables false
set_option linter.unusedSimpArgs false
def strV (l : List UInt8) : Value := .string ⟨l.toArray⟩
theorem splitK_at (s : ByteArray) (w : World) (hs : s.size ≤ 1000000) (hS : w.ShapedOpen Tryz.prog) : Calls Tryz.prog 106 #[.string s, .string ⟨#[44]⟩] w fun e w' =>
    e = .returned (.slice (some ⟨w.heap.size, 0, none⟩) (splitC 44 s.data.toList).length (splitC 44 s.data.toList).length) ∧ w' = w.alloc (.cells ((splitC 44 s.data.toList).map strV).toArray 9) := by
  have h := Tryz.strings_Split_shaped s ⟨#[44]⟩ w hS (by omega) (by decide)
  have h1 : (Lib.splitB ⟨#[44]⟩ 0 (Lib.countB s ⟨#[44]⟩) s).map (·.data.toList) = splitC 44 s.data.toList := by
    rw [Lib.splitB_data]
    exact split_one 44 s.data.toList
  have h2 : Lib.countB s ⟨#[44]⟩ + 1 = (splitC 44 s.data.toList).length := by
    rw [← h1, List.length_map]
    exact (Lib.splitB_all ⟨#[44]⟩ (by decide) 0 _ s rfl).symm
  have h3 : (Lib.splitB ⟨#[44]⟩ 0 (Lib.countB s ⟨#[44]⟩) s).map Value.string = (splitC 44 s.data.toList).map strV := by
    rw [← h1, List.map_map]
    apply List.map_congr_left
    intro x _
    show Value.string x = .string ⟨x.data.toList.toArray⟩
    rw [← str_of]
  rw [h2, h3] at h
  exact h
def ListIs (w : World) (g : Nat) (l : List UInt8) (e : Ending) : Prop := match listP l with
  | none => e = .returned (.tuple #[.slice none 0 0, .iface 56 (.int .i64 3)])
  | some ws => e = .returned (.tuple #[.slice (some ⟨g, 0, none⟩) ws.length ws.length, .nilIface]) ∧ Blk w g 9 (ws.map strV).toArray
theorem listIs_none {w : World} {g : Nat} {l : List UInt8} (h : listP l = none) : ListIs w g l (.returned (.tuple #[.slice none 0 0, .iface 56 (.int .i64 3)])) := by
  unfold ListIs
  rw [h]
theorem listIs_some {w : World} {g : Nat} {l : List UInt8} {ws : List (List UInt8)} {e : Ending} (h : listP l = some ws) (he : e = .returned (.tuple #[.slice (some ⟨g, 0, none⟩) ws.length ws.length, .nilIface])) (hB : Blk w g 9 (ws.map strV).toArray) : ListIs w g l e := by
  unfold ListIs
  rw [h]
  exact ⟨he, hB⟩
def Seen (D : DataW Unit) (l : List (List UInt8)) : Prop := ∀ x : List UInt8, D.atKey (.string x) (.lit (.bool false)) = .lit (.bool (decide (x ∈ l)))
theorem Seen.nil : Seen (.map []) [] := fun x => rfl
theorem Seen.put {D : DataW Unit} {l : List (List UInt8)} (h : Seen D l) (hD : Maps.IsMap D) (y : List UInt8) : Seen (D.put (.string y) (.lit (.bool true))) (l ++ [y]) := by
  intro x
  by_cases hx : x = y
  · subst hx
    rw [Maps.atKey_put_same hD (show WideAt.IsKeyLit (.string x) from trivial)]
    simp
  · rw [Maps.atKey_put_other (fun e => hx (by injection e)), h x]
    congr 2
    simp [hx]
theorem strV_size (l : List UInt8) (x : List UInt8) (h : x ∈ splitC 44 l) : (⟨x.toArray⟩ : ByteArray).size ≤ l.length := by
  rw [size_mkl]
  exact splitC_short 44 l x h
theorem okWords_take {l : List (List UInt8)} {k : Nat} {x : List UInt8} (hx : l[k]? = some x) (h : okWords [] (l.take k) = true) : okWords [] (l.take (k + 1)) = true ↔ x ≠ [] ∧ x ∉ l.take k := by
  have hk := (List.getElem?_eq_some_iff.1 hx).1
  have he := (List.getElem?_eq_some_iff.1 hx).2
  rw [List.take_succ_eq_append_getElem hk, he]
  exact okWords_snoc _ x h
theorem okWords_pre {l : List (List UInt8)} {k : Nat} (h : okWords [] l = true) : okWords [] (l.take k) = true := by
  rw [okWords_iff] at h ⊢
  exact ⟨fun x hx => h.1 x (List.mem_of_mem_take hx), h.2.sublist (List.take_sublist _ _)⟩
theorem list_bad {l : List UInt8} {k : Nat} {x : List UInt8} (hx : (splitC 44 l)[k]? = some x) (h : okWords [] ((splitC 44 l).take k) = true) (hb : ¬ (x ≠ [] ∧ x ∉ (splitC 44 l).take k)) : listP l = none := by
  unfold listP
  rw [if_neg]
  intro ho
  exact hb ((okWords_take hx h).1 (okWords_pre ho))
set_option maxRecDepth 20000 in
set_option maxHeartbeats 4000000 in
theorem list_any (s : ByteArray) (w : World) (hs : s.size ≤ 1000000) (hS : w.ShapedOpen Tryz.prog) : Calls Tryz.prog 101 #[.string s] w fun e w' => ListIs w' w.heap.size s.data.toList e ∧ Below w.heap.size w w' := by
  have hmm := @run_makeMap Tryz.prog
  have ub : (Tryz.prog).underlying 4 = some .bool := by kernel_rfl
  have us : (Tryz.prog).underlying 9 = some .string := by kernel_rfl
  have um : (Tryz.prog).underlying 171 = some (.map 9 4) := by kernel_rfl
  have hlen := splitC_len 44 s.data.toList
  rw [len_of] at hlen
  have hshort := splitC_short 44 s.data.toList
  rw [len_of] at hshort
  obtain ⟨ws, hws⟩ : ∃ ws, splitC 44 s.data.toList = ws := ⟨_, rfl⟩
  have hsp := splitK_at s w hs hS
  rw [hws] at hlen hshort hsp
  have HWS := Lib.hid hws
  have HSHORT := Lib.hid hshort
  have HSP := Lib.hid hsp
  clear hws hshort hsp
  have hlenI : (ws.length : Int) ≤ 1000001 := by omega
  go_enter Tryz.func101, Tryz.ntmps101
  go_wp2_with fail
  refine HSP.out.mono ?_
  rintro e w' ⟨rfl, rfl⟩
  go_wp2_with fail
  obtain ⟨g, hg⟩ : ∃ g, w.heap.size = g := ⟨_, rfl⟩
  have o0 := World.ownsMap_made (H := Unit) (w.alloc (.cells (ws.map strV).toArray 9)) Tryz.prog 9 (plainElem Tryz.prog 4)
  have hB0 : Blk ((w.alloc (.cells (ws.map strV).toArray 9)).alloc (.map #[] 0)) w.heap.size 9 (ws.map strV).toArray := (Blk.new w _ _).alloc _
  have hb0 : Below w.heap.size w ((w.alloc (.cells (ws.map strV).toArray 9)).alloc (.map #[] 0)) := ((Below.refl _ _).alloc (Nat.le_refl _) _).alloc (by simp) _
  have hb1 : (w.alloc (.cells (ws.map strV).toArray 9)).heap.size = w.heap.size + 1 := by simp
  rw [hb1] at o0
  obtain ⟨W0, hW0⟩ : ∃ W0 : World, (w.alloc (.cells (ws.map strV).toArray 9)).alloc (.map #[] 0) = W0 := ⟨_, rfl⟩
  rw [hW0] at o0 hB0 hb0 ⊢
  try rw [hb1]
  rw [hg] at o0 hB0 hb0 ⊢
  clear hW0 hb1
  go_loopw [13] (fun i wr => ∃ (k : Nat) (D : DataW Unit), k ≤ ws.length ∧ i = .int .i64 k ∧ wr.ownsMap Tryz.prog 9 (plainElem Tryz.prog 4) (g + 1) k D ∧ Seen D (ws.take k) ∧ okWords [] (ws.take k) = true ∧ Blk wr g 9 (ws.map strV).toArray ∧ Below g w wr) (fun i _ => ws.length - (intOf i).toNat)
  case atStart => exact ⟨0, _, Nat.zero_le _, rfl, o0, Seen.nil, rfl, hB0, hb0⟩
  case round =>
    obtain ⟨k, D, hk, rfl, ho, hsn, hok, hB, hbr⟩ := hrel
    by_cases hlt : k < ws.length
    · obtain ⟨x, hx⟩ : ∃ x, ws[k]? = some x := ⟨_, List.getElem?_eq_getElem hlt⟩
      obtain ⟨X, hX⟩ : ∃ X : ByteArray, (⟨x.toArray⟩ : ByteArray) = X := ⟨_, rfl⟩
      have hXl : X.data.toList = x := by rw [← hX]
      have hXz : X.size ≤ 1000000 := by
        rw [← len_of, hXl]
        have := HSHORT.out x (List.mem_of_getElem? hx)
        omega
      have hc : wr.cell? ⟨g, k, none⟩ = some (.string X) := by
        rw [hB.cell k, List.getElem?_toArray, List.getElem?_map, hx, ← hX]
        rfl
      have hkey : keyOf Tryz.prog 9 (.string X) = some (.string X.data.toList) := WideMaps.keyOf_string_mk us (by unfold maxLen; omega)
      obtain ⟨c, hrun, hat⟩ := lookup_bool ho (Maps.string_keyed us) um ub (by go_simp) hkey
      rw [hXl, hsn] at hat
      have hcx : c = decide (x ∈ ws.take k) := by injection hat with h; injection h with h; exact h.symm
      have ht : X.toList = x := by rw [toList_of, hXl]
      by_cases hx0 : x = []
      · have e0 : X.toList = [] := ht.trans hx0
        have e1 : X.toList.isEmpty = true := by rw [e0]; rfl
        have HBAD := Lib.hid (list_bad (l := s.data.toList) (by rw [HWS.out]; exact hx) (by rw [HWS.out]; exact hok) (fun h => h.1 hx0))
        clear ht hat hcx hrun hkey hx
        go_wp2_with fail
        go_ret2
        exact ⟨listIs_none HBAD.out, by rw [hg]; exact hbr⟩
      · have e0 : ¬ X.toList = [] := by rw [ht]; exact hx0
        have e1 : X.toList.isEmpty = false := by
          rcases hl : X.toList with _ | ⟨y, l⟩
          · exact absurd hl e0
          · rfl
        by_cases hin : x ∈ ws.take k
        · obtain rfl : c = true := by rw [hcx]; simpa using hin
          have HBAD := Lib.hid (list_bad (l := s.data.toList) (by rw [HWS.out]; exact hx) (by rw [HWS.out]; exact hok) (fun h => h.2 (by rw [HWS.out]; exact hin)))
          clear ht hat hcx hkey hx
          go_wp2_with fail
          go_ret2
          exact ⟨listIs_none HBAD.out, by rw [hg]; exact hbr⟩
        · obtain rfl : c = false := by rw [hcx]; simpa using hin
          obtain ⟨W1, r1, o1, g1⟩ := ho.update (Maps.string_keyed us) um (by unfold maxLen; omega) hkey (plainElem_bool ub true)
          have hok1 : okWords [] (ws.take (k + 1)) = true := (okWords_take hx hok).2 ⟨hx0, hin⟩
          have hsn1 : Seen (D.put (.string X.data.toList) (.lit (.bool true))) (ws.take (k + 1)) := by
            rw [hXl, List.take_succ_eq_append_getElem hlt, (List.getElem?_eq_some_iff.1 hx).2]
            exact hsn.put ho.isMap x
          have hB1 : Blk W1 g 9 (ws.map strV).toArray := hB.grown g1 (by intro h; injection h with h; omega)
          have hb1 : Below g w W1 := hbr.grown g1 (Nat.le_of_lt hB.lt) (by rintro j h; injection h with h; omega)
          have HOK := Lib.hid hok1
          have HSN := Lib.hid hsn1
          clear ht hat hcx hkey hx hok1 hsn1
          go_wp2_with fail
          go_roundw
          case rel => exact ⟨k + 1, _, by omega, by go_num, o1, HSN.out, HOK.out, hB1, hb1⟩
          case measure => simp [intOf]; omega
    · have hk' : k = ws.length := by omega
      have HLP : Hid (listP s.data.toList = some ws) := Lib.hid (by
        unfold listP
        rw [HWS.out, if_pos (by rw [hk', List.take_length] at hok; exact hok)])
      clear hk' hok hsn
      go_wp2_with fail
      go_ret2
      exact ⟨listIs_some HLP.out (by rw [hg]; try rfl) (by rw [hg]; exact hB), by rw [hg]; exact hbr⟩
end Go.Proofs.YtamlepacljjpiaaGreatDoor
