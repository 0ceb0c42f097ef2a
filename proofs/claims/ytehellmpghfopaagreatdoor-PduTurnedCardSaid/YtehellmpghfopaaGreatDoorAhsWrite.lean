/- The contract of ahs.Write. -/
import Derived.Test.YtehellmpghfopaaGreatDoorAhsPlain
namespace Go.Proofs.YtehellmpghfopaaGreatDoor
open Go.ChangeShapes Go.WideShapes Go.ChangeAt Go.RowKit
set_option linter.unusedVariables false
theorem errAt_some {w : World} {base : Nat} {v : Value} {r : Nat × Nat} (h : ErrAt w base v (some r)) : ∃ g, base ≤ g ∧ v = .iface 110 (.pointer (some ⟨g, 0, none⟩)) ∧ Blk w g 112 #[.int .i64 r.1, .int .i64 r.2] := h
theorem ahsWrite_bad (l : AhsL) (v : Value) (w : World) (hv : SRd w v 2 l.length (ahsCells l)) (hd : ∀ p ∈ l, p.2.size ≤ 140737488351232) (r : Nat × Nat) (hr : rightGo l 0 0 = some r) : Calls Tryz.prog 24 #[v] w fun e w' =>
    ∃ er, e = .returned (.tuple #[.string ⟨#[]⟩, er]) ∧ ErrAt w' w.heap.size er (some r) ∧ Below w.heap.size w w' := by
  have HR := Lib.hid hr
  clear hr
  go_enter Tryz.func24, Tryz.ntmps24
  go_wp2_with fail
  refine (ahsRight_any l v w hv hd).mono ?_
  rintro e w1 ⟨r1, rfl, he, hb⟩
  rw [HR.out] at he
  obtain ⟨g, hg, rfl, hB⟩ := errAt_some he
  go_wp2_with fail
  go_ret2
  exact ⟨_, rfl, ⟨g, hg, rfl, hB⟩, hb⟩
set_option maxRecDepth 20000 in
theorem ahsWrite_ok (l : AhsL) (v : Value) (w : World) (hv : SRd w v 2 l.length (ahsCells l)) (hd : ∀ p ∈ l, p.2.size ≤ 140737488351232) (hr : rightGo l 0 0 = none) : Calls Tryz.prog 24 #[v] w fun e w' =>
    e = .returned (.tuple #[.string ⟨(ahsB l).toArray⟩, .nilIface]) ∧ Below w.heap.size w w' := by
  obtain ⟨hall, hsum⟩ := right_none l 0 0 (by omega) hr
  have HR := Lib.hid hr
  have HALL := Lib.hid hall
  clear hr hall
  go_enter Tryz.func24, Tryz.ntmps24
  go_wp2_with fail
  refine (ahsRight_any l v w hv hd).mono ?_
  rintro e w1 ⟨r1, rfl, he, hb⟩
  rw [HR.out] at he
  obtain rfl : r1 = .nilIface := he
  have hv1 := hv.on hb
  obtain ⟨hlen, A, cap, rfl, hcap, hmax, hcell⟩ := hv1
  have HC := Lib.hid hcell
  unfold maxLen at hmax
  clear hcell hlen hv
  go_wp2_with fail
  go_loopw [5, 17] (fun s i wr => ∃ k : Nat, k ≤ l.length ∧ i = .int .i64 k ∧ s = .string ⟨(ahsB (l.take k)).toArray⟩ ∧ Below w1.heap.size w1 wr) (fun _ i _ => l.length - (intOf i).toNat)
  case atStart => exact ⟨0, Nat.zero_le _, rfl, rfl, Below.refl _ _⟩
  case round =>
    obtain ⟨k, hk, rfl, rfl, hbw⟩ := hrel
    by_cases hlt : k < l.length
    · obtain ⟨p, hp⟩ : ∃ p, l[k]? = some p := ⟨_, List.getElem?_eq_getElem hlt⟩
      obtain ⟨b, o, rfl, hbl, hcc⟩ := HC.out (by omega)
      have hc := ahsCells_at l k p hp
      have c0 := (hbw.cell (p := ⟨b, o + 2 * k, none⟩) hbl).trans (hcc _ _ hc.1)
      have c1 := (hbw.cell (p := ⟨b, o + (2 * k + 1), none⟩) hbl).trans (hcc _ _ hc.2)
      rw [Nat.mul_comm] at c0 c1
      rw [← Nat.add_assoc] at c1
      have hpa := HALL.out p (List.mem_of_getElem? hp)
      have htk : l.take (k + 1) = l.take k ++ [p] := by
        rw [List.take_succ_eq_append_getElem hlt]
        rw [List.getElem?_eq_getElem hlt] at hp
        rw [Option.some.inj hp]
      have hln : (ahsB (l.take k)).length ≤ 1020 := by
        rw [ahsB_len]; have := sumLen_take l k; omega
      have HT := Lib.hid htk
      clear hc hcc htk hp
      have hs0 := hbw.size
      obtain ⟨ki, d⟩ := p
      obtain ⟨q, rfl⟩ := Int.eq_ofNat_of_zero_le hpa.1
      simp only at hpa c0 c1
      go_wp2_with fail
      refine (put_ok _ _ _ (by omega) (by omega) (by omega) (by simp; omega) (by omega)).mono ?_
      rintro e w2 ⟨rfl, hb2⟩
      have d0 := (hb2.cell (p := ⟨wr.heap.size, 0, none⟩) (by simp)).trans ((Blk.new wr 81 #[.int .i64 (q : Int), .string d]).cell 0)
      have d1 := (hb2.cell (p := ⟨wr.heap.size, 1, none⟩) (by simp)).trans ((Blk.new wr 81 #[.int .i64 (q : Int), .string d]).cell 1)
      have hz : wr.heap.size < w2.heap.size := by have := hb2.size; simp at this; omega
      have hcv := lit_string w2 [UInt8.ofNat q] #[.int .u8 (q : Int)] (by simp [byteV]; omega) (by simp [maxLen])
      simp only [List.length_singleton] at hcv
      simp only [List.getElem?_toArray, List.getElem?_cons_zero, List.getElem?_cons_succ] at d0 d1
      have hpl : (putB d.size 2).length ≤ 2 := by rw [putB_len]; omega
      go_wp2_with fail
      refine (padded_any _ _ (by simp; omega)).mono ?_
      rintro e w' ⟨rfl, rfl⟩
      have hlp : (padded (putB d.size 2 ++ UInt8.ofNat q :: d.data.toList)).length ≤ 2000 := by
        rw [padded, List.length_append, List.length_append, List.length_replicate, List.length_cons, len_of]
        have := padI_rng (((putB d.size 2).length + (d.size + 1) : Nat) : Int)
        omega
      go_wp2_with fail
      go_roundw
      case rel =>
        refine ⟨k + 1, by omega, by go_num, ?_, ?_⟩
        · rw [HT.out, ahsB_snoc]
          simp only [cat_of, ahsB1, Int.toNat_natCast, List.append_assoc, List.singleton_append]
        · exact ((hbw.alloc hs0 _).trans (hb2.mono (by simp; omega))).alloc (by omega) _
      case measure => simp [intOf]; omega
    · have hfin : l.take k = l := List.take_of_length_le (by omega)
      rw [hfin]
      clear hfin
      go_wp2_with fail
      go_ret2
      exact ⟨rfl, below_step hb hbw⟩
end Go.Proofs.YtehellmpghfopaaGreatDoor
