/- keep.large of a PDU. -/
import Derived.Test.YtamlepacljjpiaaGreatDoorPdu
import Derived.Test.YtamlepacljjpiaaGreatDoorAhs
import Derived.Test.YtamlepacljjpiaaGreatDoorGahs
namespace Go.Proofs.YtamlepacljjpiaaGreatDoor
open Go.ChangeShapes Go.WideShapes Go.ChangeAt Go.RowKit
set_option linter.unusedVariables false
set_option linter.unusedSimpArgs false
set_option linter.unusedVariables false
theorem wide_any (l : AhsL) (v : Value) (w : World) (hv : SRd w v 2 l.length (ahsCells l)) (hd : ∀ p ∈ l, p.2.size ≤ 140737488351232) : Calls Tryz.prog 79 #[v] w fun e w' =>
    ∃ b, e = .returned (.bool b) ∧ Below w.heap.size w w' := by
  obtain ⟨hlen, A, cap, rfl, hcap, hmax, hcell⟩ := hv
  have HC := Lib.hid hcell
  unfold maxLen at hmax
  clear hcell hlen
  go_enter Tryz.func79, Tryz.ntmps79
  go_wp2_with fail
  go_loopw [3, 10] (fun s i wr => ∃ (k : Nat) (n : Int), k ≤ l.length ∧ i = .int .i64 k ∧ s = .int .i64 n ∧ Below w.heap.size w wr) (fun _ i _ => l.length - (intOf i).toNat)
  case atStart => exact ⟨0, _, Nat.zero_le _, rfl, rfl, Below.refl _ _⟩
  case round =>
    obtain ⟨k, n, hk, rfl, rfl, hbw⟩ := hrel
    by_cases hlt : k < l.length
    · obtain ⟨p, hp⟩ : ∃ p, l[k]? = some p := ⟨_, List.getElem?_eq_getElem hlt⟩
      obtain ⟨b, o, rfl, hbl, hcc⟩ := HC.out (by omega)
      have hc := ahsCells_at l k p hp
      have c0 := (hbw.cell (p := ⟨b, o + 2 * k, none⟩) hbl).trans (hcc _ _ hc.1)
      have c1 := (hbw.cell (p := ⟨b, o + (2 * k + 1), none⟩) hbl).trans (hcc _ _ hc.2)
      rw [Nat.mul_comm] at c0 c1
      rw [← Nat.add_assoc] at c1
      have hdp := hd p (List.mem_of_getElem? hp)
      clear hc hcc hp
      have hs0 := hbw.size
      go_wp2_with fail
      go_roundw
      case rel => exact ⟨k + 1, _, by omega, by go_num, rfl, hbw.alloc hs0 _⟩
      case measure => simp [intOf]; omega
    · go_wp2_with fail
      go_ret
      exact ⟨_, rfl, hbw⟩
def LargeIs (n m : Nat) (e : Ending) : Prop := ∃ b : Bool, e = .returned (.bool b) ∧ (b = false → n ≤ 50 ∧ m ≤ 2500)
set_option maxRecDepth 20000 in
set_option maxHeartbeats 2000000 in
theorem large_any (op : Int) (now : Bool) (fl : Int) (vals : List Nat) (v : Value) (l : AhsL) (av : Value) (s : ByteArray) (w : World) (hv : SRd w v 1 vals.length (vals.map u64V))
    (ha : SRd w av 2 l.length (ahsCells l)) (hd : ∀ p ∈ l, p.2.size ≤ 140737488351232) (hs : s.size ≤ 140737488351232) :
    Calls Tryz.prog 49 #[.agg #[.int .i64 op, .bool now, .int .i64 fl, v, av, .string s]] w fun e w' => LargeIs vals.length s.size e ∧ Below w.heap.size w w' := by
  obtain ⟨A, cap, rfl⟩ : ∃ A cap, v = .slice A vals.length cap := by obtain ⟨_, A, cap, hv, _⟩ := hv; exact ⟨A, cap, hv⟩
  obtain ⟨B, bcap, rfl⟩ : ∃ A cap, av = .slice A l.length cap := by obtain ⟨_, A, cap, hv, _⟩ := ha; exact ⟨A, cap, hv⟩
  have hmax : vals.length ≤ 9223372036854775807 := by
    obtain ⟨_, A2, cap2, hv, h1, h2, _⟩ := hv
    injection hv with k1 k2 k3
    unfold maxLen at h2
    omega
  have hB0 := Blk.new w 41 #[.int .i64 op, .bool now, .int .i64 fl, .slice A vals.length cap, .slice B l.length bcap, .string s]
  have hb0 : Below w.heap.size w (w.alloc (.cells #[.int .i64 op, .bool now, .int .i64 fl, .slice A vals.length cap, .slice B l.length bcap, .string s] 41)) := (Below.refl _ _).alloc (Nat.le_refl _) _
  obtain ⟨g, hg⟩ : ∃ g, w.heap.size = g := ⟨_, rfl⟩
  go_enter Tryz.func49, Tryz.ntmps49
  go_wp2_with fail
  obtain ⟨w0, hw0⟩ : ∃ w0 : World, w.alloc (.cells #[.int .i64 op, .bool now, .int .i64 fl, .slice A vals.length cap, .slice B l.length bcap, .string s] 41) = w0 := ⟨_, rfl⟩
  rw [hw0] at hb0 hB0 ⊢
  rw [hg] at hB0
  try rw [hg]
  clear hw0
  refine (wide_any l _ _ (ha.on hb0) hd).mono ?_
  rintro e w1 ⟨b, rfl, hb1⟩
  have hbw1 := below_step hb0 hb1
  have hbg : Below g w w1 := by rw [← hg]; exact hbw1
  have hB1 := hB0.below hb1 hB0.lt
  have c3 := hB1.cell 3
  have c5 := hB1.cell 5
  rcases b with _ | _
  · by_cases h1 : 50 < vals.length
    · go_wp2_with fail
      go_ret
      first | exact ⟨⟨true, rfl, fun h => by cases h⟩, hbw1⟩ | exact ⟨⟨true, rfl, fun h => by cases h⟩, hbg⟩
    · by_cases h2 : 2500 < s.size
      · go_wp2_with fail
        go_ret
        exact ⟨⟨true, by simp; omega, fun h => by cases h⟩, by first | exact hbw1 | exact hbg⟩
      · go_wp2_with fail
        go_ret
        exact ⟨⟨false, by simp; omega, fun _ => ⟨by omega, by omega⟩⟩, by first | exact hbw1 | exact hbg⟩
  · go_wp2_with fail
    go_ret
    first | exact ⟨⟨true, rfl, fun h => by cases h⟩, hbw1⟩ | exact ⟨⟨true, rfl, fun h => by cases h⟩, hbg⟩
end Go.Proofs.YtamlepacljjpiaaGreatDoor
