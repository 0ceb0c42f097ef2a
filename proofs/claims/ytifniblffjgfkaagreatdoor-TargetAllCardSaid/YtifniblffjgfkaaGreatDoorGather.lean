/- The contracts of package gather: New, Add, Size; the fact of parts. -/
import Derived.Test.YtifniblffjgfkaaGreatDoorPairsParse
namespace Go.Proofs.YtifniblffjgfkaaGreatDoor
open Go.ChangeShapes Go.WideShapes Go.ChangeAt Go.RowKit
set_option linter.unusedVariables false
theorem below_step' {a b c : World} (h : Below a.heap.size a b) (k : Below b.heap.size b c) : Below a.heap.size a c := below_step h k
theorem grown_put (w : World) (n g : Nat) (u : Value) : w.grownBy ((w.drewN n).setCell ⟨g, 0, none⟩ u) (some g) :=
  ⟨rfl, rfl, rfl, by simp [World.setCell], fun k _ hk => Below.heap_setCell _ _ _ _ (fun h => hk (by rw [h]))⟩
theorem grown_trans {a b c : World} {g : Nat} (h : a.grownBy b (some g)) (k : b.grownBy c (some g)) : a.grownBy c (some g) :=
  ⟨k.os.trans h.os, k.tape.trans h.tape, k.output.trans h.output, Nat.le_trans h.size k.size, fun i hi hk => (k.block i (Nat.lt_of_lt_of_le hi h.size) hk).trans (h.block i hi hk)⟩
theorem grown_below {a b : World} {g : Nat} (h : Below a.heap.size a b) : a.grownBy b (some g) := ⟨h.os, h.tape, h.output, h.size, fun i hi _ => h.block i hi⟩
theorem PRow.past {w w' : World} {base g : Nat} {v : Value} {l : PairL} (h : PRow w base v l) (hg : w.grownBy w' (some g)) (hlt : g < base) : PRow w' base v l :=
  MRow.kept h hg (by
    rcases hv : v.ownBlock with _ | k
    · exact .inl rfl
    · exact .inr fun e => by have := (MRow.lt h k hv).1; have := Option.some.inj e; omega)
theorem PErr.put {w : World} {base g : Nat} {er : Value} {r : Option (Nat × Option Nat)} (h : PErr w base er r) (hg : g < base) (u : Value) : PErr (w.setCell ⟨g, 0, none⟩ u) base er r := by
  match r, h with
  | none, h => exact h
  | some (c, none), h => exact h
  | some (c, some p), ⟨k, hk, h1, h2⟩ => exact ⟨k, hk, h1, h2.far (by show k ≠ g; omega) u⟩
theorem PRes.put {w : World} {base g : Nat} {r er : Value} {x : (Nat × Option Nat) ⊕ PairL} (h : PRes w base r er x) (hg : g < base) (u : Value) : PRes (w.setCell ⟨g, 0, none⟩ u) base r er x := by
  match x, h with
  | .inl e, ⟨h1, h2⟩ => exact ⟨h1, h2.put hg u⟩
  | .inr l, ⟨h1, h2⟩ => exact ⟨h1, MRow.keep h2 fun k hk => Below.heap_setCell _ _ _ _ (by have := (MRow.lt h2 k hk).1; show k ≠ g; omega)⟩
theorem PErr.below {w w' : World} {base B : Nat} {er : Value} {r : Option (Nat × Option Nat)} (h : PErr w base er r) (hb : Below B w w') (hB : w.heap.size ≤ B) : PErr w' base er r := by
  match r, h with
  | none, h => exact h
  | some (c, none), h => exact h
  | some (c, some p), ⟨k, hk, h1, h2⟩ => exact ⟨k, hk, h1, h2.below hb (Nat.lt_of_lt_of_le h2.lt hB)⟩
theorem PRes.below {w w' : World} {base B : Nat} {r er : Value} {x : (Nat × Option Nat) ⊕ PairL} (h : PRes w base r er x) (hb : Below B w w') (hB : w.heap.size ≤ B) : PRes w' base r er x := by
  match x, h with
  | .inl e, ⟨h1, h2⟩ => exact ⟨h1, h2.below hb hB⟩
  | .inr l, ⟨h1, h2⟩ => exact ⟨h1, MRow.below h2 hb hB⟩
theorem pequal_same (l : PairL) (v v2 : Value) (w : World) (hv : SRd w v 2 l.length (pairCells l)) (hv2 : SRd w v2 2 l.length (pairCells l)) : Calls Tryz.prog 48 #[v, v2] w fun e w' =>
    e = .returned (.bool true) ∧ ∃ k, w' = w.drewN k := by
  obtain ⟨hlen, A, cap, rfl, hcap, hmax, hcell⟩ := hv
  obtain ⟨_, A2, cap2, rfl, hcap2, hmax2, hcell2⟩ := hv2
  have HC := Lib.hid hcell
  have HC2 := Lib.hid hcell2
  unfold maxLen at hmax
  clear hcell hcell2 hlen
  go_enter Tryz.func48, Tryz.ntmps48
  go_wp2_with fail
  go_loopw [13] (fun i wr => ∃ (k n : Nat), k ≤ l.length ∧ i = .int .i64 k ∧ wr = w.drewN n) (fun i _ => l.length - (intOf i).toNat)
  case atStart => exact ⟨0, 0, Nat.zero_le _, rfl, rfl⟩
  case round =>
    obtain ⟨k, nd, hk, rfl, rfl⟩ := hrel
    by_cases hlt : k < l.length
    · obtain ⟨p, hp⟩ : ∃ p, l[k]? = some p := ⟨_, List.getElem?_eq_getElem hlt⟩
      obtain ⟨b, o, rfl, hbl, hcc⟩ := HC.out (by omega)
      have hc := pairCells_at l k p hp
      obtain ⟨b2, o2, rfl, hbl2, hcc2⟩ := HC2.out (by omega)
      have c0 := hcc _ _ hc.1
      have c1 := hcc _ _ hc.2
      have d0 := hcc2 _ _ hc.1
      have d1 := hcc2 _ _ hc.2
      rw [Nat.mul_comm] at c0 c1 d0 d1
      rw [← Nat.add_assoc] at c1 d1
      clear hc hcc hcc2 hp
      go_wp2_with fail
      go_quiet (fail)
      go_wp2_with fail
      go_roundw
      case rel => exact ⟨k + 1, _, by omega, by go_num, rfl⟩
      case measure => simp [intOf]; omega
    · go_wp2_with fail
      go_ret
      exact ⟨rfl, nd, rfl⟩
def axL : PairL := [(⟨#[65]⟩, ⟨#[120]⟩)]
theorem parse_ax : parseGo 5 [65, 61, 120, 0] 0 = .inr axL := by decide +kernel
end Go.Proofs.YtifniblffjgfkaaGreatDoor
