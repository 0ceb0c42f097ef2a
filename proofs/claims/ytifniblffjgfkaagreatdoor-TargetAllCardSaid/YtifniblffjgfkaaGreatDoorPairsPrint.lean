/- The contract of pairs.Print. -/
import Derived.Test.YtifniblffjgfkaaGreatDoorPairsParse
import Derived.Test.YtifniblffjgfkaaGreatDoorBuilder
namespace Go.Proofs.YtifniblffjgfkaaGreatDoor
open Go.ChangeShapes Go.WideShapes Go.ChangeAt Go.RowKit
set_option linter.unusedVariables false
theorem keyB_len {l : List UInt8} (h : keyB l = true) : l.length ≤ 63 := by
  unfold keyB at h
  simp at h
  omega
theorem valB_len {l : List UInt8} (h : valB l = true) : l.length ≤ 255 := by
  unfold valB at h
  simp at h
  omega
theorem pRightGo_none : ∀ (l : PairL) (i : Nat), pRightGo l i = none → ∀ p ∈ l, keyB p.1.data.toList = true ∧ valB p.2.data.toList = true
  | [], _, _, p, hp => (List.not_mem_nil hp).elim
  | q :: l, i, h, p, hp => by
    rw [pRightGo] at h
    split at h
    · cases h
    · rename_i h1
      split at h
      · cases h
      · rename_i h2
        rcases List.mem_cons.1 hp with rfl | hp
        · exact ⟨by simpa using h1, by simpa using h2⟩
        · exact pRightGo_none l _ h p hp
theorem pRight_none {l : PairL} (h : pRightR l = none) : l.length ≤ 60 ∧ ∀ p ∈ l, keyB p.1.data.toList = true ∧ valB p.2.data.toList = true := by
  unfold pRightR at h
  split at h
  · cases h
  · exact ⟨by omega, pRightGo_none l 0 (by simpa using h)⟩
theorem pRightGo_ok : ∀ (l : PairL) (i : Nat), (∀ p ∈ l, keyB p.1.data.toList = true ∧ valB p.2.data.toList = true) → pRightGo l i = none
  | [], _, _ => rfl
  | q :: l, i, h => by
    obtain ⟨h1, h2⟩ := h q (by simp)
    rw [pRightGo, if_neg (by rw [h1]; simp), if_neg (by rw [h2]; simp)]
    exact pRightGo_ok l _ fun p hp => h p (by simp [hp])
theorem pRight_ok {l : PairL} (hl : l.length ≤ 60) (h : ∀ p ∈ l, keyB p.1.data.toList = true ∧ valB p.2.data.toList = true) : pRightR l = none := by
  rw [pRightR, if_neg (by omega), pRightGo_ok l 0 h]; rfl
theorem pairB_len (p : ByteArray × ByteArray) : (pairB p).length = p.1.size + p.2.size + 2 := by
  simp only [pairB, List.length_append, List.length_singleton, len_of]; omega
theorem pairsB_len_le (l : PairL) (h : ∀ p ∈ l, keyB p.1.data.toList = true ∧ valB p.2.data.toList = true) : (pairsB l).length ≤ 320 * l.length := by
  induction l with
  | nil => simp [pairsB]
  | cons p l ih =>
    obtain ⟨h1, h2⟩ := h p (by simp)
    have h3 := keyB_len h1
    have h4 := valB_len h2
    rw [len_of] at h3 h4
    have := ih fun q hq => h q (by simp [hq])
    show (pairB p ++ pairsB l).length ≤ _
    rw [List.length_append, pairB_len, List.length_cons]
    omega
theorem pairsB_snoc (l : PairL) (p : ByteArray × ByteArray) : pairsB (l ++ [p]) = pairsB l ++ pairB p := by simp [pairsB]
theorem pairsB_append (a b : PairL) : pairsB (a ++ b) = pairsB a ++ pairsB b := by simp [pairsB]
theorem bld_alloc {T e : TypeId} {B b : Nat} {p : Value} {bs : List Value} {w : World} (h : Lib.BuilderAt T e B b p bs w) (o : Obj) : Lib.BuilderAt T e B b p bs (w.alloc o) := by
  have hlt := h.lt
  obtain ⟨hB, v, hb, hown, hne⟩ := h
  exact ⟨hB, v, (Lib.alloc_old w o b hlt).trans hb, hown.alloc o, hne⟩
theorem isb_alloc {T e : TypeId} {B b : Nat} {bs : List Value} {w : World} (h : Lib.IsBuilder T e B b bs w) (o : Obj) : Lib.IsBuilder T e B b bs (w.alloc o) := by
  rcases h with h | h
  · exact .inl (bld_alloc h o)
  · exact .inr (bld_alloc h o)
theorem print_bad (l : PairL) (v : Value) (w : World) (hv : SRd w v 2 l.length (pairCells l)) (hd : ∀ p ∈ l, psmall p) (r : Nat × Option Nat) (hr : pRightR l = some r) : Calls Tryz.prog 76 #[v] w fun e w' =>
    ∃ er, e = .returned (.tuple #[.string ⟨#[]⟩, er]) ∧ PErr w' w.heap.size er (some r) ∧ Below w.heap.size w w' := by
  have HR := Lib.hid hr
  clear hr
  go_enter Tryz.func76, Tryz.ntmps76
  go_wp2_with fail
  refine (pRight_any l v w hv hd).mono ?_
  rintro e w1 ⟨r1, rfl, he, hb⟩
  rw [HR.out] at he
  obtain ⟨c, _ | p⟩ := r
  · have hc : errv c = .iface 43 (.int .i64 c) := by
      unfold errv
      rw [if_neg]
      intro h0
      subst h0
      have := HR.out
      unfold pRightR at this
      split at this
      · cases this
      · rcases h : pRightGo l 0 with _ | ⟨a, b⟩ <;> rw [h] at this <;> cases this
    obtain rfl : r1 = errv c := he
    rw [hc]
    go_wp2_with fail
    go_ret2
    exact ⟨_, rfl, hc.symm, hb⟩
  · obtain ⟨g, hg, rfl, hB⟩ := he
    go_wp2_with fail
    go_ret2
    exact ⟨_, rfl, ⟨g, hg, rfl, hB⟩, hb⟩
set_option maxRecDepth 20000 in
set_option maxHeartbeats 4000000 in
theorem print_ok (l : PairL) (v : Value) (w : World) (hv : SRd w v 2 l.length (pairCells l)) (hd : ∀ p ∈ l, psmall p) (hr : pRightR l = none) : Calls Tryz.prog 76 #[v] w fun e w' =>
    e = .returned (.tuple #[.string ⟨(pairsB l).toArray⟩, .nilIface]) ∧ Below w.heap.size w w' := by
  obtain ⟨hl60, hall⟩ := pRight_none hr
  have HR := Lib.hid hr
  have HALL := Lib.hid hall
  clear hr hall
  go_enter Tryz.func76, Tryz.ntmps76
  go_wp2_with fail
  refine (pRight_any l v w hv hd).mono ?_
  rintro e w1 ⟨r1, rfl, he, hb⟩
  rw [HR.out] at he
  obtain rfl : r1 = .nilIface := he
  have hv1 := hv.on hb
  obtain ⟨hlen, A, cap, rfl, hcap, hmax, hcell⟩ := hv1
  have HC := Lib.hid hcell
  unfold maxLen at hmax
  have hs1 := hb.size
  have hB0 := Lib.fresh_isBuilder 126 5 w1
  have hb0 : Below w1.heap.size w1 (w1.alloc (.cells #[.pointer none, .slice none 0 0] 126)) := (Below.refl _ _).alloc (Nat.le_refl _) _
  clear hcell hlen hv
  go_wp2_with fail
  go_loopw [15] (fun i wr => ∃ k : Nat, k ≤ l.length ∧ i = .int .i64 k ∧ Lib.IsBuilder 126 5 w1.heap.size w1.heap.size (Lib.byteCells (pairsB (l.take k))) wr ∧ Below w1.heap.size w1 wr) (fun i _ => l.length - (intOf i).toNat)
  case atStart => exact ⟨0, Nat.zero_le _, rfl, hB0, hb0⟩
  case round =>
    obtain ⟨k, hk, rfl, hB, hbw⟩ := hrel
    clear hB0 hb0
    have hs2 := hbw.size
    by_cases hlt : k < l.length
    · obtain ⟨p, hp⟩ : ∃ p, l[k]? = some p := ⟨_, List.getElem?_eq_getElem hlt⟩
      obtain ⟨b, o, rfl, hbl, hcc⟩ := HC.out (by omega)
      have hc := pairCells_at l k p hp
      have c0 := (hbw.cell (p := ⟨b, o + 2 * k, none⟩) hbl).trans (hcc _ _ hc.1)
      have c1 := (hbw.cell (p := ⟨b, o + (2 * k + 1), none⟩) hbl).trans (hcc _ _ hc.2)
      rw [Nat.mul_comm] at c0 c1
      rw [← Nat.add_assoc] at c1
      obtain ⟨hpa, hpb⟩ := HALL.out p (List.mem_of_getElem? hp)
      have hpa := keyB_len hpa
      have hpb := valB_len hpb
      rw [len_of] at hpa hpb
      have htk : pairsB (l.take (k + 1)) = pairsB (l.take k) ++ pairB p := by
        rw [List.take_succ_eq_append_getElem hlt, pairsB_snoc]
        rw [List.getElem?_eq_getElem hlt] at hp
        rw [Option.some.inj hp]
      have hln : (pairsB (l.take k)).length ≤ 20000 := by
        have h1 := pairsB_len_le (l.take k) fun q hq => HALL.out q (List.mem_of_mem_take hq)
        have h2 := List.length_take_le k l
        omega
      have HT := Lib.hid htk
      clear hc hcc htk hp
      obtain ⟨p1, p2⟩ := p
      simp only at hpa hpb c0 c1
      have hpe : (p1 ++ ⟨#[61]⟩ ++ p2 ++ ⟨#[0]⟩).data.toList = pairB (p1, p2) := by rw [cat_of, cat_of, cat_of]; rfl
      have hpz : (p1 ++ ⟨#[61]⟩ ++ p2 ++ ⟨#[0]⟩).size ≤ 400 := by rw [← len_of, hpe, pairB_len]; simp only; omega
      have hsc : Lib.byteCells (pairsB (l.take k)) ++ Lib.strCells (p1 ++ ⟨#[61]⟩ ++ p2 ++ ⟨#[0]⟩) = Lib.byteCells (pairsB (l.take (k + 1))) := by
        rw [HT.out, Lib.strCells_eq, hpe]
        simp [Lib.byteCells]
      have HSC := Lib.hid hsc
      clear hsc hpe
      go_wp2_with fail
      refine (writeString_any w1.heap.size w1.heap.size _ _ _ (isb_alloc hB _) ?_ ?_).mono ?_
      · rw [Lib.byteCells_length]; omega
      · simp; omega
      rintro e w2 ⟨rfl, h2, hb2⟩
      rw [HSC.out] at h2
      go_wp2_with fail
      go_roundw
      case rel => exact ⟨k + 1, by omega, by go_num, .inr h2, (hbw.alloc hs2 _).trans hb2⟩
      case measure => simp [intOf]; omega
    · have hfin : l.take k = l := List.take_of_length_le (by omega)
      rw [hfin] at hB
      clear hfin
      go_wp2_with fail
      refine (Tryz.Builder_String_any w1.heap.size w1.heap.size (pairsB l) _ hB hs2).mono ?_
      rintro e w2 ⟨rfl, hb2⟩
      go_wp2_with fail
      go_ret2
      exact ⟨rfl, below_step hb (hbw.trans hb2)⟩
end Go.Proofs.YtifniblffjgfkaaGreatDoor
