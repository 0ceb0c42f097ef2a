/- The contract of pairs.Right. -/
import Derived.Test.YtifniblffjgfkaaGreatDoorPairsKey
import Derived.Test.YtifniblffjgfkaaGreatDoorGbase
namespace Go.Proofs.YtifniblffjgfkaaGreatDoor
open Go.ChangeShapes Go.WideShapes Go.ChangeAt Go.RowKit
set_option linter.unusedVariables false
def pairCells (l : PairL) : List Value := l.flatMap fun p => [.string p.1, .string p.2]
theorem pairCells_len (l : PairL) : (pairCells l).length = 2 * l.length := by
  induction l with
  | nil => rfl
  | cons p l ih => simp only [pairCells, List.flatMap_cons, List.length_append, List.length_cons, List.length_nil] at ih ⊢; omega
theorem pairCells_at (l : PairL) (k : Nat) (p : ByteArray × ByteArray) (h : l[k]? = some p) : (pairCells l)[2 * k]? = some (.string p.1) ∧ (pairCells l)[2 * k + 1]? = some (.string p.2) := by
  induction l generalizing k with
  | nil => simp at h
  | cons q l ih =>
    cases k with
    | zero =>
      simp at h
      subst h
      exact ⟨rfl, rfl⟩
    | succ k =>
      have := ih k (by simpa using h)
      exact this
theorem pairCells_snoc (l : PairL) (p : ByteArray × ByteArray) : pairCells (l ++ [p]) = pairCells l ++ [.string p.1, .string p.2] := by simp [pairCells]
theorem pairCells_append (a b : PairL) : pairCells (a ++ b) = pairCells a ++ pairCells b := by simp [pairCells]
/- An error, or nil: an Errno alone, or one at a place. -/
def PErr (w : World) (base : Nat) (v : Value) : Option (Nat × Option Nat) → Prop
  | none => v = .nilIface
  | some (c, none) => v = errv c
  | some (c, some p) => ∃ g, base ≤ g ∧ v = .iface 136 (.pointer (some ⟨g, 0, none⟩)) ∧ Blk w g 138 #[.int .i64 c, .int .i64 p]
def psmall (p : ByteArray × ByteArray) : Prop := p.1.size ≤ 140737488351232 ∧ p.2.size ≤ 140737488351232
set_option maxHeartbeats 2000000 in
theorem pRight_any (l : PairL) (v : Value) (w : World) (hv : SRd w v 2 l.length (pairCells l)) (hd : ∀ p ∈ l, psmall p) : Calls Tryz.prog 49 #[v] w fun e w' =>
    ∃ r, e = .returned r ∧ PErr w' w.heap.size r (pRightR l) ∧ Below w.heap.size w w' := by
  obtain ⟨hlen, A, cap, rfl, hcap, hmax, hcell⟩ := hv
  have HC := Lib.hid hcell
  unfold maxLen at hmax
  clear hcell hlen
  by_cases h60 : 60 < l.length
  · have hz : pRightR l = some (4, none) := by rw [pRightR, if_pos h60]
    have HZ := Lib.hid hz
    clear hz
    go_enter Tryz.func49, Tryz.ntmps49
    go_wp2_with fail
    refine bodyPost_ret (results_tmp rfl _ _ _) rfl ⟨_, rfl, ?_, Below.refl _ _⟩
    rw [HZ.out]
    rfl
  · have hz : pRightR l = (pRightGo l 0).map fun r => (r.1, some r.2) := by rw [pRightR, if_neg h60]
    have HR := Lib.hid hz
    clear hz
    go_enter Tryz.func49, Tryz.ntmps49
    go_wp2_with fail
    go_loopw [11] (fun i wr => ∃ k : Nat, k ≤ l.length ∧ i = .int .i64 k ∧ pRightGo l 0 = pRightGo (l.drop k) k ∧ Below w.heap.size w wr) (fun i _ => l.length - (intOf i).toNat)
    case atStart => exact ⟨0, Nat.zero_le _, rfl, by simp, Below.refl _ _⟩
    case round =>
      obtain ⟨k, hk, rfl, hgo, hbw⟩ := hrel
      have HG := Lib.hid hgo
      clear hgo
      by_cases hlt : k < l.length
      · obtain ⟨p, hp⟩ : ∃ p, l[k]? = some p := ⟨_, List.getElem?_eq_getElem hlt⟩
        obtain ⟨b, o, rfl, hbl, hcc⟩ := HC.out (by omega)
        have hc := pairCells_at l k p hp
        have c0 := (hbw.cell (p := ⟨b, o + 2 * k, none⟩) hbl).trans (hcc _ _ hc.1)
        have c1 := (hbw.cell (p := ⟨b, o + (2 * k + 1), none⟩) hbl).trans (hcc _ _ hc.2)
        rw [Nat.mul_comm] at c0 c1
        rw [← Nat.add_assoc] at c1
        have hdp := hd p (List.mem_of_getElem? hp)
        have hdrop : l.drop k = p :: l.drop (k + 1) := by
          rw [List.drop_eq_getElem_cons hlt]
          rw [List.getElem?_eq_getElem hlt] at hp
          rw [Option.some.inj hp]
        have HD := Lib.hid hdrop
        clear hc hcc hdrop hp
        have hs0 := hbw.size
        obtain ⟨p1, p2⟩ := p
        obtain ⟨hd1, hd2⟩ := hdp
        simp only at c0 c1 hd1 hd2
        go_wp2_with fail
        refine (key_any p1 _ hd1).mono ?_
        rintro e w1 ⟨rfl, rfl⟩
        obtain ⟨kb, hkb⟩ : ∃ kb, keyB p1.data.toList = kb := ⟨_, rfl⟩
        rw [hkb]
        have HKB := Lib.hid hkb
        clear hkb
        cases kb
        · have hz : pRightR l = some (5, some k) := by
            rw [HR.out, HG.out, HD.out, pRightGo, if_pos HKB.out]; rfl
          have HZ := Lib.hid hz
          clear hz
          go_wp2_with fail
          refine bodyPost_ret (results_tmp rfl _ _ _) rfl ⟨_, rfl, ?_, (hbw.alloc hs0 _).alloc (by simp; omega) _⟩
          rw [HZ.out]
          refine ⟨wr.heap.size + 1, by omega, by simp, ?_⟩
          have := Blk.new (wr.alloc (.cells #[.string p1, .string p2] 96)) 138 #[.int .i64 5, .int .i64 k]
          simpa using this
        · go_wp2_with fail
          refine (value_any p2 _ hd2).mono ?_
          rintro e w1 ⟨rfl, rfl⟩
          obtain ⟨vb, hvb⟩ : ∃ vb, valB p2.data.toList = vb := ⟨_, rfl⟩
          rw [hvb]
          have HVB := Lib.hid hvb
          clear hvb
          cases vb
          · have hz : pRightR l = some (3, some k) := by
              rw [HR.out, HG.out, HD.out, pRightGo, if_neg (by rw [HKB.out]; decide), if_pos HVB.out]; rfl
            have HZ := Lib.hid hz
            clear hz
            go_wp2_with fail
            refine bodyPost_ret (results_tmp rfl _ _ _) rfl ⟨_, rfl, ?_, (hbw.alloc hs0 _).alloc (by simp; omega) _⟩
            rw [HZ.out]
            refine ⟨wr.heap.size + 1, by omega, by simp, ?_⟩
            have := Blk.new (wr.alloc (.cells #[.string p1, .string p2] 96)) 138 #[.int .i64 3, .int .i64 k]
            simpa using this
          · have hz : pRightGo l 0 = pRightGo (l.drop (k + 1)) (k + 1) := by
              rw [HG.out, HD.out, pRightGo, if_neg (by rw [HKB.out]; decide), if_neg (by rw [HVB.out]; decide)]
            have HZ := Lib.hid hz
            clear hz
            go_wp2_with fail
            go_roundw
            case rel => exact ⟨k + 1, by omega, by go_num, HZ.out, hbw.alloc hs0 _⟩
            case measure => simp [intOf]; omega
      · have hz : pRightR l = none := by
          rw [HR.out, HG.out, List.drop_eq_nil_of_le (by omega)]; rfl
        have HZ := Lib.hid hz
        clear hz
        go_wp2_with fail
        refine bodyPost_ret (results_tmp rfl _ _ _) rfl ⟨_, rfl, ?_, hbw⟩
        rw [HZ.out]
        rfl
end Go.Proofs.YtifniblffjgfkaaGreatDoor
