/- The contract of ahs.Right. -/
import Derived.Test.YtamlepacljjpiaaGreatDoorGbase
namespace Go.Proofs.YtamlepacljjpiaaGreatDoor
open Go.ChangeShapes Go.WideShapes Go.ChangeAt Go.RowKit
set_option linter.unusedVariables false
abbrev AhsL := List (Int × ByteArray)
def ahsCells (l : AhsL) : List Value := l.flatMap fun p => [.int .i64 p.1, .string p.2]
theorem ahsCells_len (l : AhsL) : (ahsCells l).length = 2 * l.length := by
  induction l with
  | nil => rfl
  | cons p l ih => simp only [ahsCells, List.flatMap_cons, List.length_append, List.length_cons, List.length_nil] at ih ⊢; omega
theorem ahsCells_at (l : AhsL) (k : Nat) (p : Int × ByteArray) (h : l[k]? = some p) : (ahsCells l)[2 * k]? = some (.int .i64 p.1) ∧ (ahsCells l)[2 * k + 1]? = some (.string p.2) := by
  induction l generalizing k with
  | nil => simp at h
  | cons q l ih =>
    cases k with
    | zero =>
      simp at h
      subst h
      exact ⟨rfl, rfl⟩
    | succ k =>
      have := ih k (by simpa using h)
      exact this
/- how many bytes one has, to the next four -/
def ahsLen (d : ByteArray) : Nat := 3 + d.size + (padI (3 + d.size)).toNat
def rightGo : AhsL → Nat → Nat → Option (Nat × Nat)
  | [], _, _ => none
  | (k, d) :: l, n, i => if k < 0 ∨ 255 < k then some (2, i) else if 1020 < d.size ∨ 1020 < n + ahsLen d then some (4, i) else rightGo l (n + ahsLen d) (i + 1)
/- An error at a place, or nil. -/
def ErrAt (w : World) (base : Nat) (v : Value) : Option (Nat × Nat) → Prop
  | none => v = .nilIface
  | some (c, p) => ∃ g, base ≤ g ∧ v = .iface 121 (.pointer (some ⟨g, 0, none⟩)) ∧ Blk w g 123 #[.int .i64 c, .int .i64 p]
def sumLen (l : AhsL) : Nat := (l.map fun p => ahsLen p.2).sum
theorem ahsRight_any (l : AhsL) (v : Value) (w : World) (hv : SRd w v 2 l.length (ahsCells l)) (hd : ∀ p ∈ l, p.2.size ≤ 140737488351232) : Calls Tryz.prog 57 #[v] w fun e w' =>
    ∃ r, e = .returned r ∧ ErrAt w' w.heap.size r (rightGo l 0 0) ∧ Below w.heap.size w w' := by
  obtain ⟨hlen, A, cap, rfl, hcap, hmax, hcell⟩ := hv
  have HC := Lib.hid hcell
  have HL := Lib.hid hlen
  unfold maxLen at hmax
  clear hcell hlen
  go_enter Tryz.func57, Tryz.ntmps57
  go_wp2
  go_loopw [3, 8] (fun s i wr => ∃ k n : Nat, k ≤ l.length ∧ n ≤ 1020 ∧ i = .int .i64 k ∧ s = .int .i64 n ∧ rightGo l 0 0 = rightGo (l.drop k) n k ∧ Below w.heap.size w wr) (fun _ i _ => l.length - (intOf i).toNat)
  case atStart => exact ⟨0, 0, Nat.zero_le _, by omega, rfl, rfl, by simp, Below.refl _ _⟩
  case round =>
    obtain ⟨k, n, hk, hn, rfl, rfl, hgo, hbw⟩ := hrel
    have HG := Lib.hid hgo
    clear hgo
    by_cases hlt : k < l.length
    · obtain ⟨p, hp⟩ : ∃ p, l[k]? = some p := ⟨_, List.getElem?_eq_getElem hlt⟩
      obtain ⟨b, o, rfl, hbl, hcc⟩ := HC.out (by omega)
      have hc := ahsCells_at l k p hp
      have c0 := (hbw.cell (p := ⟨b, o + 2 * k, none⟩) hbl).trans (hcc _ _ hc.1)
      have c1 := (hbw.cell (p := ⟨b, o + (2 * k + 1), none⟩) hbl).trans (hcc _ _ hc.2)
      rw [Nat.mul_comm] at c0 c1
      rw [← Nat.add_assoc] at c1
      have hdp := hd p (List.mem_of_getElem? hp)
      have hdrop : l.drop k = p :: l.drop (k + 1) := by
        rw [List.drop_eq_getElem_cons hlt]
        rw [List.getElem?_eq_getElem hlt] at hp
        rw [Option.some.inj hp]
      have HD := Lib.hid hdrop
      clear hc hcc hdrop hp
      have hs0 := hbw.size
      have hpr := padI_rng (3 + p.2.size)
      have fin : ∀ (c : Nat), rightGo (p :: l.drop (k + 1)) n k = some (c, k) → ∀ (W : World), Below w.heap.size w W → ErrAt (W.alloc (.cells #[.int .i64 c, .int .i64 k] 123)) w.heap.size (.iface 121 (.pointer (some ⟨W.heap.size, 0, none⟩))) (rightGo l 0 0) := by
        intro c hc W hW
        rw [HG.out, HD.out, hc]
        exact ⟨W.heap.size, hW.size, rfl, Blk.new _ _ _⟩
      have FIN := Lib.hid fin
      clear fin
      by_cases h1 : p.1 < 0
      · go_wp2
        refine bodyPost_ret (results_tmp rfl _ _ _) rfl ⟨_, rfl, ?_, (hbw.alloc hs0 _).alloc (by simp; omega) _⟩
        have := FIN.out 2 (by rw [rightGo, if_pos (Or.inl h1)]) (wr.alloc (.cells #[.int .i64 p.1, .string p.2] 157)) (hbw.alloc hs0 _)
        simpa using this
      · by_cases h2 : 255 < p.1
        · go_wp2
          refine bodyPost_ret (results_tmp rfl _ _ _) rfl ⟨_, rfl, ?_, (hbw.alloc hs0 _).alloc (by simp; omega) _⟩
          have := FIN.out 2 (by rw [rightGo, if_pos (Or.inr h2)]) (wr.alloc (.cells #[.int .i64 p.1, .string p.2] 157)) (hbw.alloc hs0 _)
          simpa using this
        · have hkind : ¬ (p.1 < 0 ∨ 255 < p.1) := by omega
          have HK := Lib.hid hkind
          clear hkind
          by_cases h3 : 1020 < p.2.size
          · have h3b : decide ((1020 : Int) < p.2.size) = true := decide_eq_true (by omega)
            go_wp2
            go_quiet (fail)
            go_wp2
            refine bodyPost_ret (results_tmp rfl _ _ _) rfl ⟨_, rfl, ?_, (below_drewN (hbw.alloc hs0 _) _).alloc (by simp; omega) _⟩
            have := FIN.out 4 (by rw [rightGo, if_neg HK.out, if_pos (Or.inl h3)]) ((wr.alloc (.cells #[.int .i64 p.1, .string p.2] 157)).drewN nq) (below_drewN (hbw.alloc hs0 _) _)
            simpa using this
          · have h3b : decide ((1020 : Int) < p.2.size) = false := decide_eq_false (by omega)
            have hal : (ahsLen p.2 : Int) = 3 + p.2.size + padI (3 + p.2.size) := by unfold ahsLen; omega
            by_cases h4 : 1020 < (n : Int) + 3 + p.2.size + padI (3 + p.2.size)
            · have hlim : rightGo (p :: l.drop (k + 1)) n k = some (4, k) := by
                rw [rightGo, if_neg HK.out, if_pos (Or.inr (by omega))]
              have HR := Lib.hid hlim
              clear hlim hal
              go_wp2
              go_quiet ((go_at_call 89; exact quiet_same (pad_any _ _)))
              go_wp2
              refine bodyPost_ret (results_tmp rfl _ _ _) rfl ⟨_, rfl, ?_, (below_drewN (hbw.alloc hs0 _) _).alloc (by simp; omega) _⟩
              have := FIN.out 4 HR.out ((wr.alloc (.cells #[.int .i64 p.1, .string p.2] 157)).drewN nq) (below_drewN (hbw.alloc hs0 _) _)
              simpa using this
            · have hgo2 : rightGo (p :: l.drop (k + 1)) n k = rightGo (l.drop (k + 1)) (n + ahsLen p.2) (k + 1) := by
                rw [rightGo, if_neg HK.out, if_neg (by omega)]
              have HR := Lib.hid hgo2
              have HA := Lib.hid hal
              have hle : n + ahsLen p.2 ≤ 1020 := by omega
              clear hgo2 hal
              go_wp2
              go_quiet ((go_at_call 89; exact quiet_same (pad_any _ _)))
              go_wp2
              go_quiet ((go_at_call 89; exact quiet_at (pad_any _ _) ⟨_, rfl⟩))
              go_wp2
              go_roundw
              case rel =>
                refine ⟨k + 1, n + ahsLen p.2, by omega, hle, by go_num, ?_, by rw [HG.out, HD.out, HR.out], below_drewN (hbw.alloc hs0 _) _⟩
                have := HA.out
                simp
                omega
              case measure => simp [intOf]; omega
    · have hz : rightGo l 0 0 = none := by
        rw [HG.out, List.drop_eq_nil_of_le (by omega)]; rfl
      have HZ := Lib.hid hz
      clear hz
      go_wp2
      refine bodyPost_ret (results_tmp rfl _ _ _) rfl ⟨_, rfl, ?_, hbw⟩
      rw [HZ.out]
      rfl
end Go.Proofs.YtamlepacljjpiaaGreatDoor
