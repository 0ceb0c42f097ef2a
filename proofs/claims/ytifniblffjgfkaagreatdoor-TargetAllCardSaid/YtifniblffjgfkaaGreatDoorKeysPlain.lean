/- What is known of keys: the table, its words, numerals, lists of words. -/
import Derived.Test.YtifniblffjgfkaaGreatDoorGhead
namespace Go.Proofs.YtifniblffjgfkaaGreatDoor
set_option linter.unusedVariables false
structure KeyR where
  name : List UInt8
  kind : Nat
  low : Nat
  high : Nat
  dflt : List UInt8
  noth : Bool
  lonly : Bool
def keyT : List KeyR := [
  ⟨[72, 101, 97, 100, 101, 114, 68, 105, 103, 101, 115, 116], 5, 0, 0, [78, 111, 110, 101], false, true⟩,
  ⟨[68, 97, 116, 97, 68, 105, 103, 101, 115, 116], 5, 0, 0, [78, 111, 110, 101], false, true⟩,
  ⟨[77, 97, 120, 67, 111, 110, 110, 101, 99, 116, 105, 111, 110, 115], 3, 1, 65535, [49], true, true⟩,
  ⟨[69, 114, 114, 111, 114, 82, 101, 99, 111, 118, 101, 114, 121, 76, 101, 118, 101, 108], 3, 0, 2, [48], false, true⟩,
  ⟨[73, 110, 105, 116, 105, 97, 108, 82, 50, 84], 2, 0, 0, [89, 101, 115], true, true⟩,
  ⟨[73, 109, 109, 101, 100, 105, 97, 116, 101, 68, 97, 116, 97], 1, 0, 0, [89, 101, 115], true, true⟩,
  ⟨[77, 97, 120, 82, 101, 99, 118, 68, 97, 116, 97, 83, 101, 103, 109, 101, 110, 116, 76, 101, 110, 103, 116, 104], 7, 512, 16777215, [56, 49, 57, 50], false, false⟩,
  ⟨[77, 97, 120, 66, 117, 114, 115, 116, 76, 101, 110, 103, 116, 104], 3, 512, 16777215, [50, 54, 50, 49, 52, 52], true, true⟩,
  ⟨[70, 105, 114, 115, 116, 66, 117, 114, 115, 116, 76, 101, 110, 103, 116, 104], 3, 512, 16777215, [54, 53, 53, 51, 54], true, true⟩,
  ⟨[68, 101, 102, 97, 117, 108, 116, 84, 105, 109, 101, 50, 87, 97, 105, 116], 4, 0, 3600, [50], false, true⟩,
  ⟨[68, 101, 102, 97, 117, 108, 116, 84, 105, 109, 101, 50, 82, 101, 116, 97, 105, 110], 3, 0, 3600, [50, 48], false, true⟩,
  ⟨[77, 97, 120, 79, 117, 116, 115, 116, 97, 110, 100, 105, 110, 103, 82, 50, 84], 3, 1, 65535, [49], true, true⟩,
  ⟨[68, 97, 116, 97, 80, 68, 85, 73, 110, 79, 114, 100, 101, 114], 2, 0, 0, [89, 101, 115], true, true⟩,
  ⟨[68, 97, 116, 97, 83, 101, 113, 117, 101, 110, 99, 101, 73, 110, 79, 114, 100, 101, 114], 2, 0, 0, [89, 101, 115], true, true⟩,
  ⟨[73, 110, 105, 116, 105, 97, 116, 111, 114, 78, 97, 109, 101], 6, 0, 0, [45], false, true⟩,
  ⟨[73, 110, 105, 116, 105, 97, 116, 111, 114, 65, 108, 105, 97, 115], 6, 0, 0, [45], false, false⟩,
  ⟨[84, 97, 114, 103, 101, 116, 78, 97, 109, 101], 6, 0, 0, [45], false, true⟩,
  ⟨[83, 101, 115, 115, 105, 111, 110, 84, 121, 112, 101], 6, 0, 0, [78, 111, 114, 109, 97, 108], false, true⟩]

def dgF : Nat → Nat → List UInt8
  | 0, n => [UInt8.ofNat (48 + n % 10)]
  | f + 1, n => if n < 10 then [UInt8.ofNat (48 + n)] else dgF f (n / 10) ++ [UInt8.ofNat (48 + n % 10)]
def dgs (n : Nat) : List UInt8 := dgF 20 n
def keyWords (r : KeyR) : List (List UInt8) := [r.name, dgs r.kind, dgs r.low, dgs r.high, r.dflt, if r.noth then [78] else [45], if r.lonly then [76] else [45]]
def piecesK : List (List UInt8) := keyT.map fun r => joinC 32 (keyWords r)
def rowsK : List UInt8 := joinC 124 piecesK
theorem piecesK_no : ∀ p ∈ piecesK, ∀ x ∈ p, x ≠ 124 := by decide +kernel
theorem piecesK_ascii : ∀ p ∈ piecesK, ∀ x ∈ p, x.toNat < 128 := by decide +kernel
theorem piecesK_size : ∀ p ∈ piecesK, p.length < 1000 := by decide +kernel
theorem rowsK_size : rowsK.length < 10000 := by decide +kernel
theorem piecesK_fields : ∀ r ∈ keyT, Lib.fields (joinC 32 (keyWords r)) = keyWords r := by decide +kernel
theorem keyT_atoi : ∀ r ∈ keyT, Lib.atoi (dgs r.kind) = some (r.kind : Int) ∧ Lib.atoi (dgs r.low) = some (r.low : Int) ∧ Lib.atoi (dgs r.high) = some (r.high : Int) := by decide +kernel
theorem keyT_len : ∀ r ∈ keyT, (dgs r.kind).length ≤ 8 ∧ (dgs r.low).length ≤ 8 ∧ (dgs r.high).length ≤ 8 ∧ r.kind ≤ 7 ∧ r.low ≤ r.high ∧ r.high ≤ 16777215 ∧ r.name.length < 30 ∧ r.dflt.length < 10 := by decide +kernel
def keyRow (s : List UInt8) : Option KeyR := keyT.find? fun r => decide (r.name = s)
def dfl (r : KeyR) : List UInt8 := if r.dflt = [45] then [] else r.dflt
theorem keyRow_mem {s : List UInt8} {r : KeyR} (h : keyRow s = some r) : r ∈ keyT := List.mem_of_find?_eq_some h
theorem keyRow_name {s : List UInt8} {r : KeyR} (h : keyRow s = some r) : r.name = s := by simpa using List.find?_some h
theorem keyRow_hit (s : List UInt8) (k : Nat) (r : KeyR) (hr : keyT[k]? = some r) (hno : ∀ q ∈ keyT.take k, q.name ≠ s) (h : r.name = s) : keyRow s = some r := by
  have hk : k < keyT.length := (List.getElem?_eq_some_iff.1 hr).1
  have he : keyT = keyT.take k ++ r :: keyT.drop (k + 1) := by
    rw [List.getElem?_eq_getElem hk, Option.some.injEq] at hr
    rw [← hr, ← List.drop_eq_getElem_cons hk, List.take_append_drop]
  unfold keyRow
  rw [he]
  exact find_stop _ _ _ _ (fun q hq => by simpa using hno q hq) (by simpa using h)
theorem keyRow_none (s : List UInt8) (hno : ∀ q ∈ keyT, q.name ≠ s) : keyRow s = none := by
  unfold keyRow
  rw [List.find?_eq_none]
  intro q hq
  simpa using hno q hq
/- numerals -/
def hexVal (c : UInt8) : Option Nat :=
  if 48 ≤ c.toNat ∧ c.toNat ≤ 57 then some (c.toNat - 48) else if 97 ≤ c.toNat ∧ c.toNat ≤ 102 then some (c.toNat - 87) else if 65 ≤ c.toNat ∧ c.toNat ≤ 70 then some (c.toNat - 55) else none
def digV (b : Nat) (c : UInt8) : Option Nat := (hexVal c).bind fun d => if d < b then some d else none
def numFrom (b : Nat) (acc : Nat) : List UInt8 → Option Nat
  | [] => some acc
  | c :: l => match digV b c with
    | none => none
    | some d => if acc * b + d < 1099511627776 then numFrom b (acc * b + d) l else none
def numB (b : Nat) (l : List UInt8) : Option Nat := if l = [] then none else numFrom b 0 l
def isHex (l : List UInt8) : Bool := l.take 2 == [48, 120]
def numP (l : List UInt8) : Option Nat :=
  if isHex l then numB 16 (l.drop 2) else match numB 10 l with
    | none => none
    | some n => if l = [48] ∨ l.head? ≠ some 48 then some n else none
/- lists of words -/
def splitC (c : UInt8) : List UInt8 → List (List UInt8)
  | [] => [[]]
  | x :: l => if x = c then [] :: splitC c l else match splitC c l with
    | [] => [[x]]
    | p :: ps => (x :: p) :: ps
def okWords : List (List UInt8) → List (List UInt8) → Bool
  | _, [] => true
  | seen, x :: l => if x = [] ∨ x ∈ seen then false else okWords (x :: seen) l
def listP (l : List UInt8) : Option (List (List UInt8)) := if okWords [] (splitC 44 l) then some (splitC 44 l) else none
def isYN (v : List UInt8) : Bool := v == [89, 101, 115] || v == [78, 111]
def numeralE (v : List UInt8) (low high : Int) : Nat := match numP v with
  | none => 3
  | some n => if (n : Int) < low ∨ high < n then 2 else 0
/- what is wrong with a value of a key: 0: nothing -/
def fitsR (r : KeyR) (v : List UInt8) : Nat :=
  if r.kind = 1 ∨ r.kind = 2 then (if isYN v then 0 else 3)
  else if r.kind = 3 ∨ r.kind = 4 ∨ r.kind = 7 then numeralE v r.low r.high
  else if r.kind = 5 then (if (listP v).isSome then 0 else 3)
  else if v = [] then 3 else 0
def fitsE (name v : List UInt8) : Nat := match keyRow name with
  | none => 5
  | some r => fitsR r v
def yesB (b : Bool) : List UInt8 := if b then [89, 101, 115] else [78, 111]
def firstBoth : List (List UInt8) → List (List UInt8) → Option (List UInt8)
  | [], _ => none
  | x :: l, m => if x ∈ m then some x else firstBoth l m
/- what comes of an offer: an error, or a text -/
def resR (r : KeyR) (a b : List UInt8) : Nat ⊕ List UInt8 :=
  if r.kind = 1 then .inr (yesB (a == [89, 101, 115] && b == [89, 101, 115]))
  else if r.kind = 2 then .inr (yesB (a == [89, 101, 115] || b == [89, 101, 115]))
  else if r.kind = 3 then .inr (dgs (min ((numP a).getD 0) ((numP b).getD 0)))
  else if r.kind = 4 then .inr (dgs (max ((numP a).getD 0) ((numP b).getD 0)))
  else if r.kind = 5 then (match firstBoth (splitC 44 a) (splitC 44 b) with | some x => .inr x | none => .inl 8)
  else .inr a
def resE (name a b : List UInt8) : Nat ⊕ List UInt8 := match keyRow name with
  | none => .inl 5
  | some r => if fitsR r a ≠ 0 then .inl (fitsR r a) else if fitsR r b ≠ 0 then .inl (fitsR r b) else resR r a b
end Go.Proofs.YtifniblffjgfkaaGreatDoor
