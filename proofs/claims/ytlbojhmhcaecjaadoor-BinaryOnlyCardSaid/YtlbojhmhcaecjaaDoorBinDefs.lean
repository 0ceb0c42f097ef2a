/- Bytes as values of keys: plain functions. -/
import Derived.Lib.Bytealg
import Derived.Lib.IndexLaws
namespace Go.Proofs.YtlbojhmhcaecjaaDoor
set_option linter.unusedVariables false
def hexTab : List UInt8 := [48, 49, 50, 51, 52, 53, 54, 55, 56, 57, 97, 98, 99, 100, 101, 102]
def hexd (n : Nat) : UInt8 := hexTab.getD n 0
def hexB (l : List UInt8) : List UInt8 := l.flatMap fun c => [hexd (c.toNat / 16), hexd (c.toNat % 16)]
def hexL (l : List UInt8) : List UInt8 := [48, 120] ++ hexB l
theorem hexB_len (l : List UInt8) : (hexB l).length = 2 * l.length := by
  induction l with
  | nil => rfl
  | cons c l ih => simp only [hexB, List.flatMap_cons, List.length_append, List.length_cons, List.length_nil] at ih ⊢; omega
theorem hexB_snoc (l : List UInt8) (c : UInt8) : hexB (l ++ [c]) = hexB l ++ [hexd (c.toNat / 16), hexd (c.toNat % 16)] := by simp [hexB]
theorem hexL_len (l : List UInt8) : (hexL l).length = 2 + 2 * l.length := by simp [hexL, hexB_len]; omega
def b64Tab : List UInt8 := [65, 66, 67, 68, 69, 70, 71, 72, 73, 74, 75, 76, 77, 78, 79, 80, 81, 82, 83, 84, 85, 86, 87, 88, 89, 90, 97, 98, 99, 100, 101, 102, 103, 104, 105, 106, 107, 108, 109, 110, 111, 112, 113, 114, 115, 116, 117, 118, 119, 120, 121, 122, 48, 49, 50, 51, 52, 53, 54, 55, 56, 57, 43, 47]
def b64d (n : Nat) : UInt8 := b64Tab.getD n 0
def n3 (l : List UInt8) : Nat := (l.getD 0 0).toNat * 65536 + (l.getD 1 0).toNat * 256 + (l.getD 2 0).toNat
def grpAt (l : List UInt8) (i : Nat) : UInt8 := if l.length < i then 61 else b64d (n3 l / 2 ^ (18 - 6 * i) % 64)
def grp (l : List UInt8) : List UInt8 := (List.range 4).map (grpAt l)
def b64F : Nat → List UInt8 → List UInt8
  | 0, _ => []
  | f + 1, l => if l.length = 0 then [] else grp l ++ b64F f (l.drop 3)
def b64B (l : List UInt8) : List UInt8 := b64F l.length l
def b64L (l : List UInt8) : List UInt8 := [48, 98] ++ b64B l
theorem b64F_fuel : ∀ (f g : Nat) (l : List UInt8), l.length ≤ f → l.length ≤ g → b64F f l = b64F g l
  | 0, g, l, h, _ => by
    obtain rfl := List.eq_nil_of_length_eq_zero (Nat.le_zero.1 h)
    cases g <;> rfl
  | f + 1, 0, l, _, h => by
    obtain rfl := List.eq_nil_of_length_eq_zero (Nat.le_zero.1 h)
    rfl
  | f + 1, g + 1, l, h1, h2 => by
    rw [b64F, b64F]
    by_cases h0 : l.length = 0
    · rw [if_pos h0, if_pos h0]
    · rw [if_neg h0, if_neg h0, b64F_fuel f g (l.drop 3) (by rw [List.length_drop]; omega) (by rw [List.length_drop]; omega)]
theorem b64B_step (l : List UInt8) (h : 0 < l.length) : b64B l = grp l ++ b64B (l.drop 3) := by
  obtain ⟨n, hn⟩ : ∃ n, l.length = n + 1 := ⟨l.length - 1, by omega⟩
  unfold b64B
  rw [hn, b64F, if_neg (by omega)]
  congr 1
  exact b64F_fuel _ _ _ (by rw [List.length_drop]; omega) (Nat.le_refl _)
theorem grp_len (l : List UInt8) : (grp l).length = 4 := by simp [grp]
theorem b64B_len : ∀ (n : Nat) (l : List UInt8), l.length ≤ n → (b64B l).length = (l.length + 2) / 3 * 4
  | 0, l, h => by
    obtain rfl := List.eq_nil_of_length_eq_zero (Nat.le_zero.1 h)
    rfl
  | n + 1, l, h => by
    by_cases h0 : l.length = 0
    · obtain rfl := List.eq_nil_of_length_eq_zero h0
      rfl
    · rw [b64B_step l (by omega), List.length_append, grp_len, b64B_len n (l.drop 3) (by rw [List.length_drop]; omega), List.length_drop]
      omega
theorem b64L_len (l : List UInt8) : (b64L l).length = 2 + (l.length + 2) / 3 * 4 := by
  rw [b64L, List.length_append, b64B_len _ _ (Nat.le_refl _)]; rfl
def low (c : UInt8) : UInt8 := if 65 ≤ c.toNat ∧ c.toNat ≤ 70 then c + 32 else c
def unhexGo : List UInt8 → Nat → List UInt8 → Nat ⊕ List UInt8
  | [], _, out => .inr out
  | c :: r, i, out => if Lib.indexByte hexTab (low c) < 0 then .inl i else
      unhexGo r (i + 1) (if i % 2 = 0 then out ++ [UInt8.ofNat ((Lib.indexByte hexTab (low c)).toNat * 16)] else out.dropLast ++ [out.getLastD 0 ||| UInt8.ofNat (Lib.indexByte hexTab (low c)).toNat])
def unbGo (last : Bool) (c3 : UInt8) : List UInt8 → Nat → Nat → Nat → Nat ⊕ (Nat × Nat)
  | [], _, n, h => .inr (n, h)
  | c :: r, i, n, h => if c = 61 ∧ last = true ∧ (i = 3 ∨ (i = 2 ∧ c3 = 61)) then unbGo last c3 r (i + 1) (n * 64) (min h i)
      else if Lib.indexByte b64Tab c < 0 then .inl i else unbGo last c3 r (i + 1) (n * 64 + (Lib.indexByte b64Tab c).toNat) h
def unb3 (n : Nat) : List UInt8 := [UInt8.ofNat (n / 65536), UInt8.ofNat (n / 256), UInt8.ofNat n]
def unbF : Nat → List UInt8 → Nat → List UInt8 → Nat ⊕ List UInt8
  | 0, _, _, out => .inr out
  | f + 1, r, p, out => if r.length = 0 then .inr out else
    match unbGo (decide (r.length = 4)) (r.getD 3 0) (r.take 4) 0 0 4 with
    | .inl i => .inl (p + i)
    | .inr (n, h) => if n % 2 ^ (8 * (4 - h)) ≠ 0 then .inl (p + h - 1) else unbF f (r.drop 4) (p + 4) (out ++ (unb3 n).take (h - 1))
def binAt : Nat ⊕ List UInt8 → (Nat × Option Nat) ⊕ List UInt8
  | .inl p => .inl (3, some p)
  | .inr l => .inr l
def unhexR (l : List UInt8) : (Nat × Option Nat) ⊕ List UInt8 := if l.length % 2 ≠ 0 then .inl (7, none) else binAt (unhexGo (l.drop 2) 2 [])
def unbaseR (l : List UInt8) : (Nat × Option Nat) ⊕ List UInt8 := if l.length % 4 ≠ 2 then .inl (7, none) else binAt (unbF l.length (l.drop 2) 2 [])
def readB (l : List UInt8) : (Nat × Option Nat) ⊕ List UInt8 :=
  if l.length < 2 ∨ l.getD 0 0 ≠ 48 then .inl (3, none) else
  if l.getD 1 0 = 120 ∨ l.getD 1 0 = 88 then unhexR l else if l.getD 1 0 = 98 ∨ l.getD 1 0 = 66 then unbaseR l else .inl (3, none)
theorem indexByte_lt : ∀ (l : List UInt8) (c : UInt8), Lib.indexByte l c < l.length
  | [], c => by simp [Lib.indexByte]
  | b :: l, c => by
    have ih := indexByte_lt l c
    unfold Lib.indexByte
    rw [List.length_cons]
    split
    · omega
    · split <;> omega
end Go.Proofs.YtlbojhmhcaecjaaDoor
