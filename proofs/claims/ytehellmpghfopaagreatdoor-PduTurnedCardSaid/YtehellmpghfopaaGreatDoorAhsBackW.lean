/- What is written of additional headers is read. -/
import Derived.Test.YtehellmpghfopaaGreatDoorAhsMore
import Derived.Test.YtehellmpghfopaaGreatDoorOpen
import Derived.Test.YtehellmpghfopaaGreatDoorAhsRound
namespace Go.Proofs.YtehellmpghfopaaGreatDoor
open Go.ChangeShapes Go.WideShapes Go.ChangeAt Go.RowKit
set_option linter.unusedVariables false
theorem wide_any (l : AhsL) (v : Value) (w : World) (hv : SRd w v 2 l.length (ahsCells l)) (hd : ∀ p ∈ l, p.2.size ≤ 140737488351232) : Calls Tryz.prog 35 #[v] w fun e w' =>
    ∃ b, e = .returned (.bool b) ∧ Below w.heap.size w w' := by
  obtain ⟨hlen, A, cap, rfl, hcap, hmax, hcell⟩ := hv
  have HC := Lib.hid hcell
  unfold maxLen at hmax
  clear hcell hlen
  go_enter Tryz.func35, Tryz.ntmps35
  go_wp2_with fail
  go_loopw [3, 10] (fun s i wr => ∃ (k : Nat) (n : Int), k ≤ l.length ∧ i = .int .i64 k ∧ s = .int .i64 n ∧ Below w.heap.size w wr) (fun _ i _ => l.length - (intOf i).toNat)
  case atStart => exact ⟨0, _, Nat.zero_le _, rfl, rfl, Below.refl _ _⟩
  case round =>
    obtain ⟨k, n, hk, rfl, rfl, hbw⟩ := hrel
    by_cases hlt : k < l.length
    · obtain ⟨p, hp⟩ : ∃ p, l[k]? = some p := ⟨_, List.getElem?_eq_getElem hlt⟩
      obtain ⟨b, o, rfl, hbl, hcc⟩ := HC.out (by omega)
      have hc := ahsCells_at l k p hp
      have c0 := (hbw.cell (p := ⟨b, o + 2 * k, none⟩) hbl).trans (hcc _ _ hc.1)
      have c1 := (hbw.cell (p := ⟨b, o + (2 * k + 1), none⟩) hbl).trans (hcc _ _ hc.2)
      rw [Nat.mul_comm] at c0 c1
      rw [← Nat.add_assoc] at c1
      have hdp := hd p (List.mem_of_getElem? hp)
      clear hc hcc hp
      have hs0 := hbw.size
      go_wp2_with fail
      go_roundw
      case rel => exact ⟨k + 1, _, by omega, by go_num, rfl, hbw.alloc hs0 _⟩
      case measure => simp [intOf]; omega
    · go_wp2_with fail
      go_ret
      exact ⟨_, rfl, hbw⟩
theorem equal_same (l : AhsL) (v v2 : Value) (w : World) (hv : SRd w v 2 l.length (ahsCells l)) (hv2 : SRd w v2 2 l.length (ahsCells l)) : Calls Tryz.prog 44 #[v, v2] w fun e w' =>
    e = .returned (.bool true) ∧ ∃ k, w' = w.drewN k := by
  obtain ⟨hlen, A, cap, rfl, hcap, hmax, hcell⟩ := hv
  obtain ⟨_, A2, cap2, rfl, hcap2, hmax2, hcell2⟩ := hv2
  have HC := Lib.hid hcell
  have HC2 := Lib.hid hcell2
  unfold maxLen at hmax
  clear hcell hcell2 hlen
  go_enter Tryz.func44, Tryz.ntmps44
  go_wp2_with fail
  go_loopw [13] (fun i wr => ∃ (k n : Nat), k ≤ l.length ∧ i = .int .i64 k ∧ wr = w.drewN n) (fun i _ => l.length - (intOf i).toNat)
  case atStart => exact ⟨0, 0, Nat.zero_le _, rfl, rfl⟩
  case round =>
    obtain ⟨k, nd, hk, rfl, rfl⟩ := hrel
    by_cases hlt : k < l.length
    · obtain ⟨p, hp⟩ : ∃ p, l[k]? = some p := ⟨_, List.getElem?_eq_getElem hlt⟩
      obtain ⟨b, o, rfl, hbl, hcc⟩ := HC.out (by omega)
      have hc := ahsCells_at l k p hp
      obtain ⟨b2, o2, rfl, hbl2, hcc2⟩ := HC2.out (by omega)
      have c0 := hcc _ _ hc.1
      have c1 := hcc _ _ hc.2
      have d0 := hcc2 _ _ hc.1
      have d1 := hcc2 _ _ hc.2
      rw [Nat.mul_comm] at c0 c1 d0 d1
      rw [← Nat.add_assoc] at c1 d1
      clear hc hcc hcc2 hp
      go_wp2_with fail
      go_quiet (fail)
      go_wp2_with fail
      go_roundw
      case rel => exact ⟨k + 1, _, by omega, by go_num, rfl⟩
      case measure => simp [intOf]; omega
    · go_wp2_with fail
      go_ret
      exact ⟨rfl, nd, rfl⟩
end Go.Proofs.YtehellmpghfopaaGreatDoor
