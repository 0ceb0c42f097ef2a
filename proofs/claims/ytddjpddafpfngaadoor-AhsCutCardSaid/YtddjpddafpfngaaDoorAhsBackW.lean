/- What is written of additional headers is read. -/
import Derived.Test.YtddjpddafpfngaaDoorAhsMore
import Derived.Test.YtddjpddafpfngaaDoorOpen
import Derived.Test.YtddjpddafpfngaaDoorAhsRound
namespace Go.Proofs.YtddjpddafpfngaaDoor
open Go.ChangeShapes Go.WideShapes Go.ChangeAt Go.RowKit
set_option linter.unusedVariables false
theorem wide_any (l : AhsL) (v : Value) (w : World) (hv : SRd w v 2 l.length (ahsCells l)) (hd : ∀ p ∈ l, p.2.size ≤ 140737488351232) : Calls Tryd.prog 24 #[v] w fun e w' =>
    ∃ b, e = .returned (.bool b) ∧ Below w.heap.size w w' := by
  obtain ⟨hlen, A, cap, rfl, hcap, hmax, hcell⟩ := hv
  have HC := Lib.hid hcell
  unfold maxLen at hmax
  clear hcell hlen
  go_enter Tryd.func24, Tryd.ntmps24
  go_wp2_with fail
  go_loopw [3, 10] (fun s i wr => ∃ (k : Nat) (n : Int), k ≤ l.length ∧ i = .int .i64 k ∧ s = .int .i64 n ∧ Below w.heap.size w wr) (fun _ i _ => l.length - (intOf i).toNat)
  case atStart => exact ⟨0, _, Nat.zero_le _, rfl, rfl, Below.refl _ _⟩
  case round =>
    obtain ⟨k, n, hk, rfl, rfl, hbw⟩ := hrel
    by_cases hlt : k < l.length
    · obtain ⟨p, hp⟩ : ∃ p, l[k]? = some p := ⟨_, List.getElem?_eq_getElem hlt⟩
      obtain ⟨b, o, rfl, hbl, hcc⟩ := HC.out (by omega)
      have hc := ahsCells_at l k p hp
      have c0 := (hbw.cell (p := ⟨b, o + 2 * k, none⟩) hbl).trans (hcc _ _ hc.1)
      have c1 := (hbw.cell (p := ⟨b, o + (2 * k + 1), none⟩) hbl).trans (hcc _ _ hc.2)
      rw [Nat.mul_comm] at c0 c1
      rw [← Nat.add_assoc] at c1
      have hdp := hd p (List.mem_of_getElem? hp)
      clear hc hcc hp
      have hs0 := hbw.size
      go_wp2_with fail
      go_roundw
      case rel => exact ⟨k + 1, _, by omega, by go_num, rfl, hbw.alloc hs0 _⟩
      case measure => simp [intOf]; omega
    · go_wp2_with fail
      go_ret
      exact ⟨_, rfl, hbw⟩
theorem equal_same (l : AhsL) (v v2 : Value) (w : World) (hv : SRd w v 2 l.length (ahsCells l)) (hv2 : SRd w v2 2 l.length (ahsCells l)) : Calls Tryd.prog 25 #[v, v2] w fun e w' =>
    e = .returned (.bool true) ∧ ∃ k, w' = w.drewN k := by
  obtain ⟨hlen, A, cap, rfl, hcap, hmax, hcell⟩ := hv
  obtain ⟨_, A2, cap2, rfl, hcap2, hmax2, hcell2⟩ := hv2
  have HC := Lib.hid hcell
  have HC2 := Lib.hid hcell2
  unfold maxLen at hmax
  clear hcell hcell2 hlen
  go_enter Tryd.func25, Tryd.ntmps25
  go_wp2_with fail
  go_loopw [13] (fun i wr => ∃ (k n : Nat), k ≤ l.length ∧ i = .int .i64 k ∧ wr = w.drewN n) (fun i _ => l.length - (intOf i).toNat)
  case atStart => exact ⟨0, 0, Nat.zero_le _, rfl, rfl⟩
  case round =>
    obtain ⟨k, nd, hk, rfl, rfl⟩ := hrel
    by_cases hlt : k < l.length
    · obtain ⟨p, hp⟩ : ∃ p, l[k]? = some p := ⟨_, List.getElem?_eq_getElem hlt⟩
      obtain ⟨b, o, rfl, hbl, hcc⟩ := HC.out (by omega)
      have hc := ahsCells_at l k p hp
      obtain ⟨b2, o2, rfl, hbl2, hcc2⟩ := HC2.out (by omega)
      have c0 := hcc _ _ hc.1
      have c1 := hcc _ _ hc.2
      have d0 := hcc2 _ _ hc.1
      have d1 := hcc2 _ _ hc.2
      rw [Nat.mul_comm] at c0 c1 d0 d1
      rw [← Nat.add_assoc] at c1 d1
      clear hc hcc hcc2 hp
      go_wp2_with fail
      go_quiet (fail)
      go_wp2_with fail
      go_roundw
      case rel => exact ⟨k + 1, _, by omega, by go_num, rfl⟩
      case measure => simp [intOf]; omega
    · go_wp2_with fail
      go_ret
      exact ⟨rfl, nd, rfl⟩
theorem backAhs (l : AhsL) (v : Value) (w : World) (hv : SRd w v 2 l.length (ahsCells l)) (hb : ∀ q ∈ l, -9223372036854775808 ≤ q.1 ∧ q.1 ≤ 9223372036854775807) (hd : ∀ p ∈ l, p.2.size ≤ 140737488351232) (hL : LaidE w) (hS : w.ShapedOpen Tryd.prog) :
    Calls Tryd.prog 7 #[v] w fun e w' => e = .returned (.bool true) ∧ Below w.heap.size w w' := by
  clear hS hb
  go_enter Tryd.func7, Tryd.ntmps7
  go_wp2_with fail
  refine (more_fact _ hL).mono ?_
  rintro e w1 ⟨rfl, hb1⟩
  have hL1 := hL.on hb1
  have hv1 := hv.on hb1
  go_wp2_with fail
  refine (wide_any l v _ hv1 hd).mono ?_
  rintro e w2 ⟨b, rfl, hb2⟩
  have hv2 := hv1.on hb2
  have hL2 := hL1.on hb2
  have hbw2 := below_step hb1 hb2
  cases b
  · rcases hr : rightGo l 0 0 with _ | ⟨c, q⟩
    · have hall := right_none l 0 0 (by omega) hr
      have hlen : (ahsB l).length = sumLen l := ahsB_len l
      have hmod := sumLen_mod l
      have hrd := readGo_ahsB l 1021 0 hall.1 (by omega)
      have HN := Lib.hid hr
      have HRD := Lib.hid hrd
      have hle : (ahsB l).length ≤ 1020 := by omega
      have hm4 : ((ahsB l).length : Int) % 4 = 0 := by omega
      clear hr hrd hall hlen hmod
      go_wp2_with fail
      refine (ahsWrite_ok l v _ hv2 hd HN.out).mono ?_
      rintro e w3 ⟨rfl, hb3⟩
      have hv3 := hv2.on hb3
      have hL3 := hL2.on hb3
      have hbw3 := below_step hbw2 hb3
      go_wp2_with fail
      refine (right_any l v _ hv3 hd).mono ?_
      rintro e w4 ⟨r4, rfl, he4, hb4⟩
      rw [HN.out] at he4
      obtain rfl : r4 = .nilIface := he4
      have hv4 := hv3.on hb4
      have hL4 := hL3.on hb4
      have hbw4 := below_step hbw3 hb4
      go_wp2_with fail
      refine (ahsRead_any ⟨(ahsB l).toArray⟩ _ hL4 hle).mono ?_
      rintro e w5 ⟨r, er, rfl, hr5, hb5⟩
      rw [show (ByteArray.mk (ahsB l).toArray).data.toList = ahsB l by simp, HRD.out] at hr5
      obtain ⟨rfl, hr5⟩ := hr5
      have hv5 := hv4.on hb5
      have hbw5 := below_step hbw4 hb5
      have hr6 := SRd.of_m hr5
      go_wp2_with fail
      refine (equal_same l v r _ hv5 hr6).mono ?_
      rintro e w6 ⟨rfl, kq, rfl⟩
      have hle5 : decide (((ahsB l).length : Int) ≤ 1020) = true := decide_eq_true (by omega)
      go_wp2_with fail
      go_ret
      exact ⟨by simp, below_drewN hbw5 kq⟩
    · have HN := Lib.hid hr
      clear hr
      go_wp2_with fail
      refine (ahsWrite_bad l v _ hv2 hd _ HN.out).mono ?_
      rintro e w3 ⟨er, rfl, her, hb3⟩
      obtain ⟨g3, hg3, rfl, hB3⟩ := errAt_some her
      have hv3 := hv2.on hb3
      have hbw3 := below_step hbw2 hb3
      go_wp2_with fail
      refine (right_any l v _ hv3 hd).mono ?_
      rintro e w4 ⟨r4, rfl, he4, hb4⟩
      rw [HN.out] at he4
      obtain ⟨g4, hg4, rfl, hB4⟩ := errAt_some he4
      have hbw4 := below_step hbw3 hb4
      go_wp2_with fail
      go_ret
      exact ⟨rfl, hbw4⟩
  · go_wp2_with fail
    go_ret
    exact ⟨rfl, hbw2⟩
end Go.Proofs.YtddjpddafpfngaaDoor
