/- The contract of pairs.Find; the fact of pairs; thick. -/
import Derived.Test.YtifniblffjgfkaaGreatDoorPairsPrint
import Derived.Test.YtifniblffjgfkaaGreatDoorGather
namespace Go.Proofs.YtifniblffjgfkaaGreatDoor
open Go.ChangeShapes Go.WideShapes Go.ChangeAt Go.RowKit
set_option linter.unusedVariables false
def findB : PairL → ByteArray → Option ByteArray
  | [], _ => none
  | p :: l, k => if p.1.data.toList = k.data.toList then some p.2 else findB l k
def findV : Option ByteArray → Value
  | none => .tuple #[.string ⟨#[]⟩, .bool false]
  | some v => .tuple #[.string v, .bool true]
set_option maxHeartbeats 2000000 in
theorem find_any (l : PairL) (v : Value) (key : ByteArray) (w : World) (hv : SRd w v 2 l.length (pairCells l)) : Calls Tryz.prog 78 #[v, .string key] w fun e w' =>
    e = .returned (findV (findB l key)) ∧ Below w.heap.size w w' := by
  obtain ⟨hlen, A, cap, rfl, hcap, hmax, hcell⟩ := hv
  have HC := Lib.hid hcell
  unfold maxLen at hmax
  clear hcell hlen
  go_enter Tryz.func78, Tryz.ntmps78
  go_wp2_with fail
  go_loopw [10] (fun i wr => ∃ k : Nat, k ≤ l.length ∧ i = .int .i64 k ∧ findB l key = findB (l.drop k) key ∧ Below w.heap.size w wr) (fun i _ => l.length - (intOf i).toNat)
  case atStart => exact ⟨0, Nat.zero_le _, rfl, by rw [List.drop_zero], Below.refl _ _⟩
  case round =>
    obtain ⟨k, hk, rfl, hgo, hbw⟩ := hrel
    have HG := Lib.hid hgo
    clear hgo
    have hs0 := hbw.size
    by_cases hlt : k < l.length
    · obtain ⟨p, hp⟩ : ∃ p, l[k]? = some p := ⟨_, List.getElem?_eq_getElem hlt⟩
      obtain ⟨b, o, rfl, hbl, hcc⟩ := HC.out (by omega)
      have hc := pairCells_at l k p hp
      have c0 := (hbw.cell (p := ⟨b, o + 2 * k, none⟩) hbl).trans (hcc _ _ hc.1)
      have c1 := (hbw.cell (p := ⟨b, o + (2 * k + 1), none⟩) hbl).trans (hcc _ _ hc.2)
      rw [Nat.mul_comm] at c0 c1
      rw [← Nat.add_assoc] at c1
      have hdrop : l.drop k = p :: l.drop (k + 1) := by
        rw [List.drop_eq_getElem_cons hlt]
        rw [List.getElem?_eq_getElem hlt] at hp
        rw [Option.some.inj hp]
      have HD := Lib.hid hdrop
      clear hc hcc hdrop hp
      obtain ⟨p1, p2⟩ := p
      simp only at c0 c1
      by_cases he : p1.data.toList = key.data.toList
      · have f1 : (p1.toList == key.toList) = true := by rw [toList_of, toList_of, he]; simp
        have hz : findB l key = some p2 := by rw [HG.out, HD.out, findB, if_pos he]
        have HZ := Lib.hid hz
        clear hz he
        go_wp2_with fail
        go_ret2
        exact ⟨by rw [HZ.out]; rfl, hbw.alloc hs0 _⟩
      · have f1 : (p1.toList == key.toList) = false := by rw [toList_of, toList_of]; simpa using he
        have hz : findB l key = findB (l.drop (k + 1)) key := by rw [HG.out, HD.out, findB, if_neg he]
        have HZ := Lib.hid hz
        clear hz he
        go_wp2_with fail
        go_roundw
        case rel => exact ⟨k + 1, by omega, by go_num, HZ.out, hbw.alloc hs0 _⟩
        case measure => simp [intOf]; omega
    · have hz : findB l key = none := by rw [HG.out, List.drop_eq_nil_of_le (by omega), findB]
      have HZ := Lib.hid hz
      clear hz
      go_wp2_with fail
      go_ret2
      exact ⟨by rw [HZ.out]; rfl, hbw⟩
theorem thick_any (l : PairL) (v : Value) (w : World) (hv : SRd w v 2 l.length (pairCells l)) (hd : ∀ p ∈ l, psmall p) : Calls Tryz.prog 71 #[v] w fun e w' =>
    ∃ b, e = .returned (.bool b) ∧ Below w.heap.size w w' := by
  obtain ⟨hlen, A, cap, rfl, hcap, hmax, hcell⟩ := hv
  have HC := Lib.hid hcell
  unfold maxLen at hmax
  clear hcell hlen
  go_enter Tryz.func71, Tryz.ntmps71
  go_wp2_with fail
  go_loopw [3, 10] (fun s i wr => ∃ (k : Nat) (n : Int), k ≤ l.length ∧ i = .int .i64 k ∧ s = .int .i64 n ∧ Below w.heap.size w wr) (fun _ i _ => l.length - (intOf i).toNat)
  case atStart => exact ⟨0, _, Nat.zero_le _, rfl, rfl, Below.refl _ _⟩
  case round =>
    obtain ⟨k, n, hk, rfl, rfl, hbw⟩ := hrel
    by_cases hlt : k < l.length
    · obtain ⟨p, hp⟩ : ∃ p, l[k]? = some p := ⟨_, List.getElem?_eq_getElem hlt⟩
      obtain ⟨b, o, rfl, hbl, hcc⟩ := HC.out (by omega)
      have hc := pairCells_at l k p hp
      have c0 := (hbw.cell (p := ⟨b, o + 2 * k, none⟩) hbl).trans (hcc _ _ hc.1)
      have c1 := (hbw.cell (p := ⟨b, o + (2 * k + 1), none⟩) hbl).trans (hcc _ _ hc.2)
      rw [Nat.mul_comm] at c0 c1
      rw [← Nat.add_assoc] at c1
      have hdp := hd p (List.mem_of_getElem? hp)
      clear hc hcc hp
      obtain ⟨p1, p2⟩ := p
      obtain ⟨hd1, hd2⟩ := hdp
      simp only at c0 c1 hd1 hd2
      have hs0 := hbw.size
      go_wp2_with fail
      go_roundw
      case rel => exact ⟨k + 1, _, by omega, by go_num, rfl, hbw.alloc hs0 _⟩
      case measure => simp [intOf]; omega
    · go_wp2_with fail
      go_ret
      exact ⟨_, rfl, hbw⟩
def pfL : PairL := [(⟨#[65]⟩, ⟨#[120, 61, 121]⟩), (⟨#[66]⟩, ⟨#[]⟩)]
theorem pf_right : pRightR pfL = none := by decide +kernel
theorem pf_bytes : pairsB pfL = [65, 61, 120, 61, 121, 0, 66, 61, 0] := by decide +kernel
theorem pf_parse : parseGo 10 [65, 61, 120, 61, 121, 0, 66, 61, 0] 0 = .inr pfL := by decide +kernel
theorem pf_find : findB pfL ⟨#[65]⟩ = some ⟨#[120, 61, 121]⟩ := by decide +kernel
theorem pf_key1 : keyB [88, 45, 97] = true := by decide +kernel
theorem pf_key2 : keyB [97] = false := by decide +kernel
theorem pf_val : valB [0] = false := by decide +kernel
theorem pf_small : ∀ p ∈ pfL, psmall p := by
  intro p hp
  simp [pfL] at hp
  rcases hp with rfl | rfl <;> exact ⟨by decide, by decide⟩
set_option maxRecDepth 20000 in
set_option maxHeartbeats 4000000 in
theorem paired_fact (w : World) (hL : LaidE w) (hS : w.ShapedOpen Tryz.prog) : Calls Tryz.prog 47 #[] w fun e w' => e = .returned (.bool true) ∧ Below w.heap.size w w' := by
  have k1 : ∀ w, Calls Tryz.prog 79 #[.string ⟨#[88, 45, 97]⟩] w fun e w' => e = .returned (.bool true) ∧ w = w' := fun w => by
    have := key_any ⟨#[88, 45, 97]⟩ w (by decide); rw [show (ByteArray.mk #[88, 45, 97]).data.toList = [88, 45, 97] from rfl, pf_key1] at this; exact this
  have k2 : ∀ w, Calls Tryz.prog 79 #[.string ⟨#[97]⟩] w fun e w' => e = .returned (.bool false) ∧ w = w' := fun w => by
    have := key_any ⟨#[97]⟩ w (by decide); rw [show (ByteArray.mk #[97]).data.toList = [97] from rfl, pf_key2] at this; exact this
  have k3 : ∀ w, Calls Tryz.prog 80 #[.string ⟨#[0]⟩] w fun e w' => e = .returned (.bool false) ∧ w = w' := fun w => by
    have := value_any ⟨#[0]⟩ w (by decide); rw [show (ByteArray.mk #[0]).data.toList = [0] from rfl, pf_val] at this; exact this
  have K1 := Lib.hid k1
  have K2 := Lib.hid k2
  have K3 := Lib.hid k3
  clear k1 k2 k3
  go_enter Tryz.func47, Tryz.ntmps47
  go_wp2_with fail
  refine (print_ok pfL _ _ ⟨rfl, _, 2, rfl, by decide, by decide, fun _ => ⟨w.heap.size, 0, rfl, by simp, ?_⟩⟩ pf_small pf_right).mono ?_
  · intro j u hu
    rw [Nat.zero_add, (Blk.new w _ _).cell j]
    exact (Array.getElem?_toList ..).symm.trans hu
  rintro e w1 ⟨rfl, hb1⟩
  rw [pf_bytes]
  have hbw1 : Below w.heap.size w w1 := ((Below.refl _ _).alloc (Nat.le_refl _) _).trans (hb1.mono (by simp))
  go_wp2_with fail
  refine (parse_any _ _ (hL.on hbw1) (shaped_on hS hbw1) (by decide)).mono ?_
  rintro e w2 ⟨r, er, rfl, hr, hb2⟩
  rw [show (ByteArray.mk #[65, 61, 120, 61, 121, 0, 66, 61, 0]).data.toList = [65, 61, 120, 61, 121, 0, 66, 61, 0] from rfl, show (ByteArray.mk #[65, 61, 120, 61, 121, 0, 66, 61, 0]).size + 1 = 10 from rfl, pf_parse] at hr
  obtain ⟨rfl, hr⟩ := hr
  have hbw2 := below_step hbw1 hb2
  have hrd := SRd.of_m hr
  go_wp2_with fail
  refine (find_any pfL r _ _ hrd).mono ?_
  rintro e w3 ⟨rfl, hb3⟩
  have hbw3 := below_step hbw2 hb3
  rw [pf_find, findV]
  obtain ⟨A, cap, rfl, _⟩ := MRow.form hr
  rw [show pfL.length = 2 from rfl]
  clear hr hrd
  go_wp2_with fail
  refine (K1.out _).mono ?_
  rintro e w4 ⟨rfl, rfl⟩
  go_wp2_with fail
  refine (K2.out _).mono ?_
  rintro e w4 ⟨rfl, rfl⟩
  go_wp2_with fail
  refine (K3.out _).mono ?_
  rintro e w4 ⟨rfl, rfl⟩
  go_wp2_with fail
  go_ret
  exact ⟨rfl, hbw3⟩
end Go.Proofs.YtifniblffjgfkaaGreatDoor
