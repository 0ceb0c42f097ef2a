/- Keys and values as text: plain functions. -/
import Derived.Lib.IndexMore
import Derived.Lib.IndexLaws
namespace Go.Proofs.YtifniblffjgfkaaGreatDoor
set_option linter.unusedVariables false
def greatB (c : UInt8) : Bool := decide (65 ≤ c.toNat) && decide (c.toNat ≤ 90)
def signTab : List UInt8 := [46, 45, 43, 64, 95]
def mayB (c : UInt8) : Bool := (decide (97 ≤ c.toNat) && decide (c.toNat ≤ 122)) || ((decide (48 ≤ c.toNat) && decide (c.toNat ≤ 57)) || decide (0 ≤ Lib.indexByte signTab c))
def keyGo : List UInt8 → Nat → Bool
  | [], _ => true
  | c :: r, i => if greatB c = true ∨ (i ≠ 0 ∧ mayB c = true) then keyGo r (i + 1) else false
def keyB (l : List UInt8) : Bool := keyGo l 0 && (!l.isEmpty && decide (l.length ≤ 63))
def valC (c : UInt8) : Bool := decide (32 ≤ c.toNat) && decide (c.toNat ≤ 126)
def valB (l : List UInt8) : Bool := l.all valC && decide (l.length ≤ 255)
abbrev PairL := List (ByteArray × ByteArray)
def pRightGo : PairL → Nat → Option (Nat × Nat)
  | [], _ => none
  | p :: l, i => if keyB p.1.data.toList = false then some (5, i) else if valB p.2.data.toList = false then some (3, i) else pRightGo l (i + 1)
def pRightR (l : PairL) : Option (Nat × Option Nat) := if 60 < l.length then some (4, none) else (pRightGo l 0).map fun r => (r.1, some r.2)
def pairB (p : ByteArray × ByteArray) : List UInt8 := p.1.data.toList ++ [61] ++ p.2.data.toList ++ [0]
def pairsB (l : PairL) : List UInt8 := l.flatMap pairB
def right1 (k v : List UInt8) : Nat := if keyB k = false then 5 else if valB v = false then 3 else 0
def parseGo : Nat → List UInt8 → Nat → (Nat × Option Nat) ⊕ PairL
  | 0, _, _ => .inr []
  | f + 1, s, i =>
    if s.isEmpty = true then .inr [] else
    if (Lib.cut s [0]).2.2 = false then .inl (7, some i) else
    if (Lib.cut (Lib.cut s [0]).1 [61]).2.2 = false then .inl (3, some i) else
    if i = 60 then .inl (4, none) else
    if right1 (Lib.cut (Lib.cut s [0]).1 [61]).1 (Lib.cut (Lib.cut s [0]).1 [61]).2.1 ≠ 0 then .inl (right1 (Lib.cut (Lib.cut s [0]).1 [61]).1 (Lib.cut (Lib.cut s [0]).1 [61]).2.1, some i) else
    match parseGo f (Lib.cut s [0]).2.1 (i + 1) with
    | .inl e => .inl e
    | .inr l => .inr ((⟨(Lib.cut (Lib.cut s [0]).1 [61]).1.toArray⟩, ⟨(Lib.cut (Lib.cut s [0]).1 [61]).2.1.toArray⟩) :: l)
def pAcc (acc : PairL) : (Nat × Option Nat) ⊕ PairL → (Nat × Option Nat) ⊕ PairL
  | .inl e => .inl e
  | .inr l => .inr (acc ++ l)
theorem pAcc_pAcc (a b : PairL) (r : (Nat × Option Nat) ⊕ PairL) : pAcc a (pAcc b r) = pAcc (a ++ b) r := by
  cases r <;> simp [pAcc]
theorem index_one (s : List UInt8) (c : UInt8) : Lib.index s [c] = Lib.indexByte s c := Lib.index_one s c
theorem cut_no {s : List UInt8} {c : UInt8} (h : Lib.indexByte s c < 0) : Lib.cut s [c] = (s, [], false) := by
  unfold Lib.cut
  rw [index_one, if_neg (by omega)]
theorem cut_yes {s : List UInt8} {c : UInt8} {n : Nat} (h : Lib.indexByte s c = n) : Lib.cut s [c] = (s.take n, s.drop (n + 1), true) := by
  unfold Lib.cut
  rw [index_one, h, if_pos (by omega), Int.toNat_natCast]
  rfl
theorem indexByte_append (a b : List UInt8) (c : UInt8) (h : ∀ x ∈ a, x ≠ c) : Lib.indexByte (a ++ c :: b) c = a.length := by
  induction a with
  | nil => simp [Lib.indexByte]
  | cons x a ih =>
    have hx := h x (by simp)
    rw [List.cons_append]
    unfold Lib.indexByte
    rw [if_neg (by simpa using hx), ih (fun y hy => h y (by simp [hy])), if_neg (by simp <;> omega), List.length_cons]
    omega
theorem cut_append (a b : List UInt8) (c : UInt8) (h : ∀ x ∈ a, x ≠ c) : Lib.cut (a ++ c :: b) [c] = (a, b, true) := by
  rw [cut_yes (indexByte_append a b c h), List.take_left]
  congr 2
  rw [← List.drop_drop, List.drop_left]
  rfl
theorem indexByte_lt' : ∀ (l : List UInt8) (c : UInt8), Lib.indexByte l c < l.length
  | [], c => by simp [Lib.indexByte]
  | b :: l, c => by
    have ih := indexByte_lt' l c
    unfold Lib.indexByte
    rw [List.length_cons]
    split
    · omega
    · split <;> omega
theorem cut_len (s : List UInt8) (c : UInt8) : (Lib.cut s [c]).1.length ≤ s.length ∧ (Lib.cut s [c]).2.1.length ≤ s.length ∧ ((Lib.cut s [c]).2.2 = true → (Lib.cut s [c]).2.1.length < s.length) := by
  by_cases h : Lib.indexByte s c < 0
  · rw [cut_no h]; simp
  · obtain ⟨n, hn⟩ := Int.eq_ofNat_of_zero_le (show 0 ≤ Lib.indexByte s c by omega)
    have := indexByte_lt' s c
    rw [cut_yes hn]
    simp only [List.length_take, List.length_drop]
    omega
end Go.Proofs.YtifniblffjgfkaaGreatDoor
