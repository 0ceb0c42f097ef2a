/- Ahs AhsPlain AhsWrite AhsRead AhsMore AhsRound Open AhsBackW. -/
import Derived.Test.YtifniblffjgfkaaGreatDoorGbase
import Derived.Deep.RegionLaw
import Derived.Deep.SlicePairs
/- The contract of ahs.Right. -/
namespace Go.Proofs.YtifniblffjgfkaaGreatDoor
open Go.ChangeShapes Go.WideShapes Go.ChangeAt Go.RowKit
set_option linter.unusedVariables false
abbrev AhsL := List (Int × ByteArray)
def ahsCells (l : AhsL) : List Value := l.flatMap fun p => [.int .i64 p.1, .string p.2]
theorem ahsCells_len (l : AhsL) : (ahsCells l).length = 2 * l.length := by
  induction l with
  | nil => rfl
  | cons p l ih => simp only [ahsCells, List.flatMap_cons, List.length_append, List.length_cons, List.length_nil] at ih ⊢; omega
theorem ahsCells_at (l : AhsL) (k : Nat) (p : Int × ByteArray) (h : l[k]? = some p) : (ahsCells l)[2 * k]? = some (.int .i64 p.1) ∧ (ahsCells l)[2 * k + 1]? = some (.string p.2) := by
  induction l generalizing k with
  | nil => simp at h
  | cons q l ih =>
    cases k with
    | zero =>
      simp at h
      subst h
      exact ⟨rfl, rfl⟩
    | succ k =>
      have := ih k (by simpa using h)
      exact this
/- how many bytes one has, to the next four -/
def ahsLen (d : ByteArray) : Nat := 3 + d.size + (padI (3 + d.size)).toNat
def rightGo : AhsL → Nat → Nat → Option (Nat × Nat)
  | [], _, _ => none
  | (k, d) :: l, n, i => if k < 0 ∨ 255 < k then some (2, i) else if 1020 < d.size ∨ 1020 < n + ahsLen d then some (4, i) else rightGo l (n + ahsLen d) (i + 1)
/- An error at a place, or nil. -/
def ErrAt (w : World) (base : Nat) (v : Value) : Option (Nat × Nat) → Prop
  | none => v = .nilIface
  | some (c, p) => ∃ g, base ≤ g ∧ v = .iface 136 (.pointer (some ⟨g, 0, none⟩)) ∧ Blk w g 138 #[.int .i64 c, .int .i64 p]
def sumLen (l : AhsL) : Nat := (l.map fun p => ahsLen p.2).sum
theorem ahsRight_any (l : AhsL) (v : Value) (w : World) (hv : SRd w v 2 l.length (ahsCells l)) (hd : ∀ p ∈ l, p.2.size ≤ 140737488351232) : Calls Tryz.prog 59 #[v] w fun e w' =>
    ∃ r, e = .returned r ∧ ErrAt w' w.heap.size r (rightGo l 0 0) ∧ Below w.heap.size w w' := by
  obtain ⟨hlen, A, cap, rfl, hcap, hmax, hcell⟩ := hv
  have HC := Lib.hid hcell
  have HL := Lib.hid hlen
  unfold maxLen at hmax
  clear hcell hlen
  go_enter Tryz.func59, Tryz.ntmps59
  go_wp2
  go_loopw [3, 8] (fun s i wr => ∃ k n : Nat, k ≤ l.length ∧ n ≤ 1020 ∧ i = .int .i64 k ∧ s = .int .i64 n ∧ rightGo l 0 0 = rightGo (l.drop k) n k ∧ Below w.heap.size w wr) (fun _ i _ => l.length - (intOf i).toNat)
  case atStart => exact ⟨0, 0, Nat.zero_le _, by omega, rfl, rfl, by simp, Below.refl _ _⟩
  case round =>
    obtain ⟨k, n, hk, hn, rfl, rfl, hgo, hbw⟩ := hrel
    have HG := Lib.hid hgo
    clear hgo
    by_cases hlt : k < l.length
    · obtain ⟨p, hp⟩ : ∃ p, l[k]? = some p := ⟨_, List.getElem?_eq_getElem hlt⟩
      obtain ⟨b, o, rfl, hbl, hcc⟩ := HC.out (by omega)
      have hc := ahsCells_at l k p hp
      have c0 := (hbw.cell (p := ⟨b, o + 2 * k, none⟩) hbl).trans (hcc _ _ hc.1)
      have c1 := (hbw.cell (p := ⟨b, o + (2 * k + 1), none⟩) hbl).trans (hcc _ _ hc.2)
      rw [Nat.mul_comm] at c0 c1
      rw [← Nat.add_assoc] at c1
      have hdp := hd p (List.mem_of_getElem? hp)
      have hdrop : l.drop k = p :: l.drop (k + 1) := by
        rw [List.drop_eq_getElem_cons hlt]
        rw [List.getElem?_eq_getElem hlt] at hp
        rw [Option.some.inj hp]
      have HD := Lib.hid hdrop
      clear hc hcc hdrop hp
      have hs0 := hbw.size
      have hpr := padI_rng (3 + p.2.size)
      have fin : ∀ (c : Nat), rightGo (p :: l.drop (k + 1)) n k = some (c, k) → ∀ (W : World), Below w.heap.size w W → ErrAt (W.alloc (.cells #[.int .i64 c, .int .i64 k] 138)) w.heap.size (.iface 136 (.pointer (some ⟨W.heap.size, 0, none⟩))) (rightGo l 0 0) := by
        intro c hc W hW
        rw [HG.out, HD.out, hc]
        exact ⟨W.heap.size, hW.size, rfl, Blk.new _ _ _⟩
      have FIN := Lib.hid fin
      clear fin
      by_cases h1 : p.1 < 0
      · go_wp2
        refine bodyPost_ret (results_tmp rfl _ _ _) rfl ⟨_, rfl, ?_, (hbw.alloc hs0 _).alloc (by simp; omega) _⟩
        have := FIN.out 2 (by rw [rightGo, if_pos (Or.inl h1)]) (wr.alloc (.cells #[.int .i64 p.1, .string p.2] 111)) (hbw.alloc hs0 _)
        simpa using this
      · by_cases h2 : 255 < p.1
        · go_wp2
          refine bodyPost_ret (results_tmp rfl _ _ _) rfl ⟨_, rfl, ?_, (hbw.alloc hs0 _).alloc (by simp; omega) _⟩
          have := FIN.out 2 (by rw [rightGo, if_pos (Or.inr h2)]) (wr.alloc (.cells #[.int .i64 p.1, .string p.2] 111)) (hbw.alloc hs0 _)
          simpa using this
        · have hkind : ¬ (p.1 < 0 ∨ 255 < p.1) := by omega
          have HK := Lib.hid hkind
          clear hkind
          by_cases h3 : 1020 < p.2.size
          · have h3b : decide ((1020 : Int) < p.2.size) = true := decide_eq_true (by omega)
            go_wp2
            go_quiet (fail)
            go_wp2
            refine bodyPost_ret (results_tmp rfl _ _ _) rfl ⟨_, rfl, ?_, (below_drewN (hbw.alloc hs0 _) _).alloc (by simp; omega) _⟩
            have := FIN.out 4 (by rw [rightGo, if_neg HK.out, if_pos (Or.inl h3)]) ((wr.alloc (.cells #[.int .i64 p.1, .string p.2] 111)).drewN nq) (below_drewN (hbw.alloc hs0 _) _)
            simpa using this
          · have h3b : decide ((1020 : Int) < p.2.size) = false := decide_eq_false (by omega)
            have hal : (ahsLen p.2 : Int) = 3 + p.2.size + padI (3 + p.2.size) := by unfold ahsLen; omega
            by_cases h4 : 1020 < (n : Int) + 3 + p.2.size + padI (3 + p.2.size)
            · have hlim : rightGo (p :: l.drop (k + 1)) n k = some (4, k) := by
                rw [rightGo, if_neg HK.out, if_pos (Or.inr (by omega))]
              have HR := Lib.hid hlim
              clear hlim hal
              go_wp2
              go_quiet ((go_at_call 81; exact quiet_same (pad_any _ _)))
              go_wp2
              refine bodyPost_ret (results_tmp rfl _ _ _) rfl ⟨_, rfl, ?_, (below_drewN (hbw.alloc hs0 _) _).alloc (by simp; omega) _⟩
              have := FIN.out 4 HR.out ((wr.alloc (.cells #[.int .i64 p.1, .string p.2] 111)).drewN nq) (below_drewN (hbw.alloc hs0 _) _)
              simpa using this
            · have hgo2 : rightGo (p :: l.drop (k + 1)) n k = rightGo (l.drop (k + 1)) (n + ahsLen p.2) (k + 1) := by
                rw [rightGo, if_neg HK.out, if_neg (by omega)]
              have HR := Lib.hid hgo2
              have HA := Lib.hid hal
              have hle : n + ahsLen p.2 ≤ 1020 := by omega
              clear hgo2 hal
              go_wp2
              go_quiet ((go_at_call 81; exact quiet_same (pad_any _ _)))
              go_wp2
              go_quiet ((go_at_call 81; exact quiet_at (pad_any _ _) ⟨_, rfl⟩))
              go_wp2
              go_roundw
              case rel =>
                refine ⟨k + 1, n + ahsLen p.2, by omega, hle, by go_num, ?_, by rw [HG.out, HD.out, HR.out], below_drewN (hbw.alloc hs0 _) _⟩
                have := HA.out
                simp
                omega
              case measure => simp [intOf]; omega
    · have hz : rightGo l 0 0 = none := by
        rw [HG.out, List.drop_eq_nil_of_le (by omega)]; rfl
      have HZ := Lib.hid hz
      clear hz
      go_wp2
      refine bodyPost_ret (results_tmp rfl _ _ _) rfl ⟨_, rfl, ?_, hbw⟩
      rw [HZ.out]
      rfl
end Go.Proofs.YtifniblffjgfkaaGreatDoor

/- Plain laws of additional headers as bytes. -/
namespace Go.Proofs.YtifniblffjgfkaaGreatDoor
set_option linter.unusedVariables false
def ahsB1 (p : Int × ByteArray) : List UInt8 := padded (putB p.2.size 2 ++ [UInt8.ofNat p.1.toNat] ++ p.2.data.toList)
def ahsB (l : AhsL) : List UInt8 := l.flatMap ahsB1
theorem ahsB1_len (p : Int × ByteArray) : (ahsB1 p).length = ahsLen p.2 := by
  have e : (putB p.2.size 2 ++ [UInt8.ofNat p.1.toNat] ++ p.2.data.toList).length = 3 + p.2.size := by
    simp only [List.length_append, putB_len, List.length_singleton, len_of]
  unfold ahsB1 padded ahsLen
  rw [List.length_append, List.length_replicate, e]
  congr 2
theorem ahsB_len (l : AhsL) : (ahsB l).length = sumLen l := by
  induction l with
  | nil => rfl
  | cons p l ih =>
    show (ahsB1 p ++ ahsB l).length = _
    rw [List.length_append, ih, ahsB1_len]
    rfl
theorem ahsB_snoc (l : AhsL) (p : Int × ByteArray) : ahsB (l ++ [p]) = ahsB l ++ ahsB1 p := by simp [ahsB]
theorem sumLen_cons (p : Int × ByteArray) (l : AhsL) : sumLen (p :: l) = ahsLen p.2 + sumLen l := rfl
theorem sumLen_append (a b : AhsL) : sumLen (a ++ b) = sumLen a + sumLen b := by simp [sumLen]
theorem right_none (l : AhsL) : ∀ n i, n ≤ 1020 → rightGo l n i = none → (∀ p ∈ l, 0 ≤ p.1 ∧ p.1 ≤ 255 ∧ p.2.size ≤ 1020) ∧ n + sumLen l ≤ 1020 := by
  induction l with
  | nil => intro n i hn _; exact ⟨fun p hp => (List.not_mem_nil hp).elim, by simpa [sumLen] using hn⟩
  | cons p l ih =>
    intro n i hn h
    obtain ⟨k, d⟩ := p
    rw [rightGo] at h
    split at h
    · cases h
    · split at h
      · cases h
      · rename_i h1 h2
        obtain ⟨h3, h4⟩ := ih _ _ (by omega) h
        refine ⟨fun p hp => ?_, by rw [sumLen_cons]; simp only; omega⟩
        rcases List.mem_cons.1 hp with rfl | hp
        · simp only; omega
        · exact h3 p hp
theorem right_some_iff (l : AhsL) : ∀ n i, n ≤ 1020 → (∀ p ∈ l, 0 ≤ p.1 ∧ p.1 ≤ 255) → n + sumLen l ≤ 1020 → rightGo l n i = none := by
  induction l with
  | nil => intro n i _ _ _; rfl
  | cons p l ih =>
    intro n i hn hk hs
    obtain ⟨k, d⟩ := p
    have h1 := hk (k, d) (by simp)
    rw [sumLen_cons] at hs
    simp only at h1 hs
    have h2 : d.size ≤ ahsLen d := by unfold ahsLen; omega
    rw [rightGo, if_neg (by omega), if_neg (by omega)]
    exact ih _ _ (by omega) (fun p hp => hk p (by simp [hp])) (by omega)
theorem sumLen_take (l : AhsL) (k : Nat) : sumLen (l.take k) ≤ sumLen l := by
  have := sumLen_append (l.take k) (l.drop k)
  rw [List.take_append_drop] at this
  omega
theorem ahsLen_mod (d : ByteArray) : ahsLen d % 4 = 0 := by
  unfold ahsLen padI
  split <;> omega
theorem sumLen_mod (l : AhsL) : sumLen l % 4 = 0 := by
  induction l with
  | nil => rfl
  | cons p l ih => rw [sumLen_cons]; have := ahsLen_mod p.2; omega
end Go.Proofs.YtifniblffjgfkaaGreatDoor

/- The contract of ahs.Write. -/
namespace Go.Proofs.YtifniblffjgfkaaGreatDoor
open Go.ChangeShapes Go.WideShapes Go.ChangeAt Go.RowKit
set_option linter.unusedVariables false
theorem errAt_some {w : World} {base : Nat} {v : Value} {r : Nat × Nat} (h : ErrAt w base v (some r)) : ∃ g, base ≤ g ∧ v = .iface 136 (.pointer (some ⟨g, 0, none⟩)) ∧ Blk w g 138 #[.int .i64 r.1, .int .i64 r.2] := h
theorem ahsWrite_bad (l : AhsL) (v : Value) (w : World) (hv : SRd w v 2 l.length (ahsCells l)) (hd : ∀ p ∈ l, p.2.size ≤ 140737488351232) (r : Nat × Nat) (hr : rightGo l 0 0 = some r) : Calls Tryz.prog 27 #[v] w fun e w' =>
    ∃ er, e = .returned (.tuple #[.string ⟨#[]⟩, er]) ∧ ErrAt w' w.heap.size er (some r) ∧ Below w.heap.size w w' := by
  have HR := Lib.hid hr
  clear hr
  go_enter Tryz.func27, Tryz.ntmps27
  go_wp2_with fail
  refine (ahsRight_any l v w hv hd).mono ?_
  rintro e w1 ⟨r1, rfl, he, hb⟩
  rw [HR.out] at he
  obtain ⟨g, hg, rfl, hB⟩ := errAt_some he
  go_wp2_with fail
  go_ret2
  exact ⟨_, rfl, ⟨g, hg, rfl, hB⟩, hb⟩
set_option maxRecDepth 20000 in
theorem ahsWrite_ok (l : AhsL) (v : Value) (w : World) (hv : SRd w v 2 l.length (ahsCells l)) (hd : ∀ p ∈ l, p.2.size ≤ 140737488351232) (hr : rightGo l 0 0 = none) : Calls Tryz.prog 27 #[v] w fun e w' =>
    e = .returned (.tuple #[.string ⟨(ahsB l).toArray⟩, .nilIface]) ∧ Below w.heap.size w w' := by
  obtain ⟨hall, hsum⟩ := right_none l 0 0 (by omega) hr
  have HR := Lib.hid hr
  have HALL := Lib.hid hall
  clear hr hall
  go_enter Tryz.func27, Tryz.ntmps27
  go_wp2_with fail
  refine (ahsRight_any l v w hv hd).mono ?_
  rintro e w1 ⟨r1, rfl, he, hb⟩
  rw [HR.out] at he
  obtain rfl : r1 = .nilIface := he
  have hv1 := hv.on hb
  obtain ⟨hlen, A, cap, rfl, hcap, hmax, hcell⟩ := hv1
  have HC := Lib.hid hcell
  unfold maxLen at hmax
  clear hcell hlen hv
  go_wp2_with fail
  go_loopw [5, 17] (fun s i wr => ∃ k : Nat, k ≤ l.length ∧ i = .int .i64 k ∧ s = .string ⟨(ahsB (l.take k)).toArray⟩ ∧ Below w1.heap.size w1 wr) (fun _ i _ => l.length - (intOf i).toNat)
  case atStart => exact ⟨0, Nat.zero_le _, rfl, rfl, Below.refl _ _⟩
  case round =>
    obtain ⟨k, hk, rfl, rfl, hbw⟩ := hrel
    by_cases hlt : k < l.length
    · obtain ⟨p, hp⟩ : ∃ p, l[k]? = some p := ⟨_, List.getElem?_eq_getElem hlt⟩
      obtain ⟨b, o, rfl, hbl, hcc⟩ := HC.out (by omega)
      have hc := ahsCells_at l k p hp
      have c0 := (hbw.cell (p := ⟨b, o + 2 * k, none⟩) hbl).trans (hcc _ _ hc.1)
      have c1 := (hbw.cell (p := ⟨b, o + (2 * k + 1), none⟩) hbl).trans (hcc _ _ hc.2)
      rw [Nat.mul_comm] at c0 c1
      rw [← Nat.add_assoc] at c1
      have hpa := HALL.out p (List.mem_of_getElem? hp)
      have htk : l.take (k + 1) = l.take k ++ [p] := by
        rw [List.take_succ_eq_append_getElem hlt]
        rw [List.getElem?_eq_getElem hlt] at hp
        rw [Option.some.inj hp]
      have hln : (ahsB (l.take k)).length ≤ 1020 := by
        rw [ahsB_len]; have := sumLen_take l k; omega
      have HT := Lib.hid htk
      clear hc hcc htk hp
      have hs0 := hbw.size
      obtain ⟨ki, d⟩ := p
      obtain ⟨q, rfl⟩ := Int.eq_ofNat_of_zero_le hpa.1
      simp only at hpa c0 c1
      go_wp2_with fail
      refine (put_ok _ _ _ (by omega) (by omega) (by omega) (by simp; omega) (by omega)).mono ?_
      rintro e w2 ⟨rfl, hb2⟩
      have d0 := (hb2.cell (p := ⟨wr.heap.size, 0, none⟩) (by simp)).trans ((Blk.new wr 111 #[.int .i64 (q : Int), .string d]).cell 0)
      have d1 := (hb2.cell (p := ⟨wr.heap.size, 1, none⟩) (by simp)).trans ((Blk.new wr 111 #[.int .i64 (q : Int), .string d]).cell 1)
      have hz : wr.heap.size < w2.heap.size := by have := hb2.size; simp at this; omega
      have hcv := lit_string w2 [UInt8.ofNat q] #[.int .u8 (q : Int)] (by simp [byteV]; omega) (by simp [maxLen])
      simp only [List.length_singleton] at hcv
      simp only [List.getElem?_toArray, List.getElem?_cons_zero, List.getElem?_cons_succ] at d0 d1
      have hpl : (putB d.size 2).length ≤ 2 := by rw [putB_len]; omega
      go_wp2_with fail
      refine (padded_any _ _ (by simp; omega)).mono ?_
      rintro e w' ⟨rfl, rfl⟩
      have hlp : (padded (putB d.size 2 ++ UInt8.ofNat q :: d.data.toList)).length ≤ 2000 := by
        rw [padded, List.length_append, List.length_append, List.length_replicate, List.length_cons, len_of]
        have := padI_rng (((putB d.size 2).length + (d.size + 1) : Nat) : Int)
        omega
      go_wp2_with fail
      go_roundw
      case rel =>
        refine ⟨k + 1, by omega, by go_num, ?_, ?_⟩
        · rw [HT.out, ahsB_snoc]
          simp only [cat_of, ahsB1, Int.toNat_natCast, List.append_assoc, List.singleton_append]
        · exact ((hbw.alloc hs0 _).trans (hb2.mono (by simp; omega))).alloc (by omega) _
      case measure => simp [intOf]; omega
    · have hfin : l.take k = l := List.take_of_length_le (by omega)
      rw [hfin]
      clear hfin
      go_wp2_with fail
      go_ret2
      exact ⟨rfl, below_step hb hbw⟩
end Go.Proofs.YtifniblffjgfkaaGreatDoor

/- The contract of ahs.Read. -/
namespace Go.Proofs.YtifniblffjgfkaaGreatDoor
open Go.ChangeShapes Go.WideShapes Go.ChangeAt Go.RowKit
set_option linter.unusedVariables false
theorem infoAhs : (Tryz.prog.info? 111).map (fun i => (i.zero, i.size, i.bytes)) = some (some (.agg #[.int .i64 0, .string ⟨#[]⟩]), 2, 24) := by kernel_rfl
def ARow (w : World) (base : Nat) (v : Value) (l : AhsL) : Prop := MRow w base 111 2 v l.length (ahsCells l)
theorem ahsCells_snoc (l : AhsL) (p : Int × ByteArray) : ahsCells (l ++ [p]) = ahsCells l ++ [.int .i64 p.1, .string p.2] := by simp [ahsCells]
theorem step_append_ahs (w : World) {ops : Array Oper} {o : Oper} {a : Act} {K : Act → World → Prop} {Q : Exit → Act → World → Prop} {E : Prop} (hgd : o.guard = none) (s x : Operand)
    (ho : o.op = .call { callee := .builtin .append, args := #[s, x], argTypes := #[36, 36] })
    (base : Nat) (v : Value) (l : AhsL) (hs : a.eval s = v) (hown : ARow w base v l)
    (ad : Addr) (p : Int × ByteArray) (c : Nat) (hx : a.eval x = .slice (some ad) 1 c) (h0 : w.cell? (ad.add 0) = some (.int .i64 p.1)) (h1 : w.cell? (ad.add 1) = some (.string p.2))
    (hlen : l.length ≤ 1000) (hbase : base ≤ w.heap.size) {w0 : World} (hbel : Below base w0 w)
    (h : ∀ v' w', ARow w' base v' (l ++ [p]) → Below base w0 w' → K (a.put o.dst v') w') : if Region.wanted o (yielded ops a.tmps) = true then Oper.wp Tryz.prog o a w K Q else E := by
  rw [if_pos (by simp [Region.wanted, hgd])]
  obtain ⟨i0, hi, hz0, hz1, hz2⟩ := info_parts infoAhs
  refine wp_append_m w s x _ ho base 111 i0 _ 2 24 Tryz.underlying36 hi hz0 hz1 hz2 rfl (by decide) v l.length _ hs hown ad 1 c [.int .i64 p.1, .string p.2] hx (by simp) ?_ ?_ (by unfold maxLen; omega) (by omega) hbase ?_
  · intro j u hu
    match j with
    | 0 => cases hu; exact h0
    | 1 => cases hu; exact h1
    | j + 2 => simp at hu
  · intro u hu
    simp at hu
    rcases hu with rfl | rfl <;> rfl
  · intro v' w' r1 r2 _
    refine h v' w' ?_ (hbel.grown r2 hbase fun k hk => (hown.lt k hk).1)
    unfold ARow
    rw [List.length_append, ahsCells_snoc]
    exact r1
def readGo : Nat → List UInt8 → Nat → (Nat × Nat) ⊕ AhsL
  | 0, _, _ => .inr []
  | f + 1, r, i =>
    if r.length = 0 then .inr [] else if r.length < 3 then .inl (7, i) else
    if unpadE r (3 + (getN (r.take 2) : Int)) ≠ 0 then .inl (unpadE r (3 + (getN (r.take 2) : Int)), i) else
    match readGo f (r.drop (unpadN r (3 + (getN (r.take 2) : Int))).toNat) (i + (unpadN r (3 + (getN (r.take 2) : Int))).toNat) with
    | .inl e => .inl e
    | .inr l => .inr ((((r.getD 2 0).toNat : Int), ⟨((r.take (3 + getN (r.take 2))).drop 3).toArray⟩) :: l)
/- what it is, beside what is there already -/
def rdAcc (acc : AhsL) : (Nat × Nat) ⊕ AhsL → (Nat × Nat) ⊕ AhsL
  | .inl e => .inl e
  | .inr l => .inr (acc ++ l)
def AhsRes (w : World) (base : Nat) (r er : Value) : (Nat × Nat) ⊕ AhsL → Prop
  | .inl e => r = .slice none 0 0 ∧ ErrAt w base er (some e)
  | .inr l => er = .nilIface ∧ ARow w base r l
theorem getN_lt2 (l : List UInt8) : getN (l.take 2) < 65536 := by
  have h1 := getN_lt (l.take 2)
  have h2 : 256 ^ (l.take 2).length ≤ 256 ^ 2 := Nat.pow_le_pow_right (by omega) (List.length_take_le _ _)
  omega
theorem take_take_drop (l : List UInt8) (k n : Nat) (h : l.length ≤ n) : (((l.drop k).take (n - k)).drop 0).take (2 - 0) = (l.drop k).take 2 := by
  rw [List.drop_zero, List.take_of_length_le (l := l.drop k) (by rw [List.length_drop]; omega)]
theorem unpad_ok (l : List UInt8) (n : Nat) (h : unpadE l (3 + n) = 0) : 3 + n + padI (3 + n) ≤ l.length := by
  unfold unpadE at h
  split at h
  · cases h
  · split at h
    · cases h
    · omega
theorem head_of (l : List UInt8) (n : Nat) (tt : ByteArray) (h : tt = ⟨(l.take (3 + n)).toArray⟩) (hz : tt.size = 3 + n) (h2 : 2 < tt.size) :
    (((l.getD 2 0).toNat : Int), (⟨((l.take (3 + n)).drop 3).toArray⟩ : ByteArray)) = ((tt[2].toNat : Int), tt.extract 3 tt.size) := by
  have hl : 3 + n ≤ l.length := by
    subst h
    rw [size_mkl, List.length_take] at hz
    omega
  have e1 : tt.extract 3 tt.size = ⟨((l.take (3 + n)).drop 3).toArray⟩ := by
    rw [ext_of, List.take_of_length_le (by rw [List.length_drop, len_of]; exact Nat.le_refl _), h]
  have e2 : l.getD 2 0 = tt[2] := by
    subst h
    have h2 : 2 < l.length := by omega
    show _ = ((List.take (3 + n) l).toArray[2]'(by simp; omega))
    simp [List.getElem_take, List.getElem?_eq_getElem h2]
  rw [e1, e2]
theorem byte_wrap (c : UInt8) : IntKind.i64.wrap (c.toNat : Int) = c.toNat := by
  have := c.toNat_lt
  rw [IntKind.wrap_i64]
  omega
theorem cell_lit0 (w : World) (t : TypeId) (a a' : Int) (u : Value) (h : a = a') : (w.alloc (.cells #[.int .i64 a, u] t)).cell? ((⟨w.heap.size, 0, none⟩ : Addr).add 0) = some (.int .i64 a') := by
  subst h
  rw [Addr.add_lit]
  exact (Blk.new w t _).cell 0
theorem cell_lit1 (w : World) (t : TypeId) (a u : Value) : (w.alloc (.cells #[a, u] t)).cell? ((⟨w.heap.size, 0, none⟩ : Addr).add 1) = some u := by
  rw [Addr.add_lit]
  exact (Blk.new w t _).cell 1
theorem rdAcc_rdAcc (a b : AhsL) (r : (Nat × Nat) ⊕ AhsL) : rdAcc a (rdAcc b r) = rdAcc (a ++ b) r := by
  cases r <;> simp [rdAcc]
theorem ahsRead_long (s : ByteArray) (w : World) (h : 1020 < s.size) (hs : s.size ≤ 140737488351232) : Calls Tryz.prog 83 #[.string s] w fun e w' =>
    e = .returned (.tuple #[.slice none 0 0, errv 4]) ∧ w = w' := by
  go_enter Tryz.func83, Tryz.ntmps83
  go_wp2_with fail
  go_ret2
  exact ⟨rfl, rfl⟩
set_option maxRecDepth 20000 in
set_option maxHeartbeats 2000000 in
theorem ahsRead_any (s : ByteArray) (w : World) (hL : LaidE w) (h : s.size ≤ 1020) : Calls Tryz.prog 83 #[.string s] w fun e w' =>
    ∃ r er, e = .returned (.tuple #[r, er]) ∧ AhsRes w' w.heap.size r er (readGo 1021 s.data.toList 0) ∧ Below w.heap.size w w' := by
  go_enter Tryz.func83, Tryz.ntmps83
  go_wp2_with fail
  go_loopw [4, 5] (fun o i wr => ∃ (k f : Nat) (acc : AhsL), k ≤ s.size ∧ s.size - k < f ∧ 3 * acc.length ≤ k ∧ i = .int .i64 k ∧ ARow wr w.heap.size o acc ∧ readGo 1021 s.data.toList 0 = rdAcc acc (readGo f (s.data.toList.drop k) k) ∧ Below w.heap.size w wr) (fun _ i _ => s.size - (intOf i).toNat)
  case atStart => exact ⟨0, 1021, [], Nat.zero_le _, by omega, by simp, rfl, MRow.nil _ _ _ _, by rw [List.drop_zero]; generalize readGo 1021 s.data.toList 0 = r; cases r <;> rfl, Below.refl _ _⟩
  case round =>
    obtain ⟨k, f, acc, hk, hf, hal, rfl, hrow, hgo, hbw⟩ := hrel
    have HG := Lib.hid hgo
    clear hgo
    have hs0 := hbw.size
    obtain ⟨f, rfl⟩ : ∃ f', f = f' + 1 := ⟨f - 1, by omega⟩
    have hdl : (s.data.toList.drop k).length = s.size - k := by simp
    have HD := Lib.hid hdl
    clear hdl
    by_cases hlt : k < s.size
    · by_cases h3 : s.size - k < 3
      · have hz : readGo (f + 1) (s.data.toList.drop k) k = .inl (7, k) := by
          rw [readGo, HD.out, if_neg (by omega), if_pos (by omega)]
        have HZ := Lib.hid hz
        clear hz
        go_wp2_with fail
        go_ret2
        refine ⟨_, _, rfl, ?_, hbw.alloc hs0 _⟩
        rw [HG.out, HZ.out]
        exact ⟨rfl, wr.heap.size, hs0, rfl, Blk.new _ _ _⟩
      · have hx2 : ((s.extract k s.size).extract 0 2).data.toList = (s.data.toList.drop k).take 2 := by
          rw [ext_of, ext_of]
          exact take_take_drop _ _ _ (by rw [len_of]; exact Nat.le_refl _)
        have hgl := getN_lt2 (s.data.toList.drop k)
        go_wp2_with fail
        refine (get_any _ _ (by rw [ByteArray.size_extract]; omega)).mono ?_
        rintro e w1 ⟨rfl, rfl⟩
        rw [hx2]
        obtain ⟨n, hn⟩ : ∃ n, getN ((s.data.toList.drop k).take 2) = n := ⟨_, rfl⟩
        rw [hn] at hgl ⊢
        go_wp2_with fail
        have hx1 : (s.extract k s.size).data.toList = s.data.toList.drop k := by
          rw [ext_of]
          exact List.take_of_length_le (by rw [List.length_drop, len_of]; exact Nat.le_refl _)
        refine (unpad_any _ _ _ (by rw [ByteArray.size_extract]; omega) (by omega)).mono ?_
        rintro e w1 ⟨rfl, nq, rfl⟩
        rw [hx1]
        have HX := Lib.hid hx1
        clear hx1
        by_cases hE : unpadE (s.data.toList.drop k) (3 + n) = 0
        · have hS : unpadS (s.data.toList.drop k) (3 + n) = (s.data.toList.drop k).take (3 + n) := by
            rw [unpadS, if_pos hE]; rfl
          have hN : unpadN (s.data.toList.drop k) (3 + n) = 3 + n + padI (3 + n) := by
            rw [unpadN, if_pos hE]
          have hle := unpad_ok _ _ hE
          rw [HD.out] at hle
          have hpr := padI_rng (3 + (n : Int))
          rw [hS, hN, hE, errv0]
          have hz : readGo (f + 1) (s.data.toList.drop k) k = rdAcc [((((s.data.toList.drop k).getD 2 0).toNat : Int), ⟨(((s.data.toList.drop k).take (3 + n)).drop 3).toArray⟩)] (readGo f (s.data.toList.drop (k + (3 + n + padI (3 + n)).toNat)) (k + (3 + n + padI (3 + n)).toNat)) := by
            rw [readGo, HD.out, if_neg (by omega), if_neg (by omega), hn, if_neg (by simp [hE]), hN, List.drop_drop]
            generalize readGo f _ _ = r
            cases r <;> rfl
          have HZ := Lib.hid hz
          clear hz hS hN hE
          obtain ⟨tt, htt⟩ : ∃ tt : ByteArray, tt = ⟨((s.data.toList.drop k).take (3 + n)).toArray⟩ := ⟨_, rfl⟩
          have htz : tt.size = 3 + n := by
            rw [htt, size_mkl, List.length_take, HD.out]; omega
          have htlo : 2 < tt.size := by omega
          have hthi : tt.size ≤ 1000000 := by omega
          have htli : (2 : Int) < tt.size := by omega
          have htl3 : (3 : Int) ≤ tt.size := by omega
          have hp1 : ((((s.data.toList.drop k).getD 2 0).toNat : Int), (⟨(((s.data.toList.drop k).take (3 + n)).drop 3).toArray⟩ : ByteArray)) = ((tt[2].toNat : Int), tt.extract 3 tt.size) := by
            exact head_of _ _ _ htt htz htlo
          rw [← htt]
          rw [hp1] at HZ
          have HT := Lib.hid htt
          clear htt hp1 htz
          go_wp2_with fail
          go_region_law (refine step_append_ahs _ rfl _ _ rfl w.heap.size _ acc rfl (by first | exact (MRow.drewN hrow _).alloc _ | exact ((MRow.drewN hrow _).alloc _).drew | exact ((MRow.drewN hrow _).alloc _).drewN _) ⟨wr.heap.size, 0, none⟩ ((tt[2].toNat : Int), tt.extract 3 tt.size) 1 rfl (cell_lit0 _ _ _ _ _ (byte_wrap _)) (cell_lit1 _ _ _ _) (by omega) (by simp; omega) (by first | exact (below_drewN hbw _).alloc hs0 _ | exact ((below_drewN hbw _).alloc hs0 _).drew | exact below_drewN ((below_drewN hbw _).alloc hs0 _) _) ?_; intro v1 w1 hB1 hb1)
          all_goals
            have HB1 := Lib.hid hB1
            clear hB1
            go_wp2
            go_roundw
            case rel =>
              refine ⟨k + (3 + (n : Int) + padI (3 + n)).toNat, f, acc ++ [((tt[2].toNat : Int), tt.extract 3 tt.size)], by omega, by omega, by rw [List.length_append, List.length_singleton]; omega, ?_, HB1.out, ?_, hb1⟩
              · congr 1; omega
              · rw [HG.out, HZ.out, rdAcc_rdAcc]
            case measure => simp [intOf]; omega
        · have hz : readGo (f + 1) (s.data.toList.drop k) k = .inl (unpadE (s.data.toList.drop k) (3 + n), k) := by
            rw [readGo, HD.out, if_neg (by omega), if_neg (by omega), hn, if_pos hE]
          have HZ := Lib.hid hz
          clear hz
          have hev : errv (unpadE (s.data.toList.drop k) (3 + n)) = .iface 43 (.int .i64 (unpadE (s.data.toList.drop k) (3 + n))) := by rw [errv, if_neg hE]
          have hT := (hL.on hbw).drewN nq
          go_wp2_with (rw [hev])
          refine (tell_errno _ _ hT).mono ?_
          rintro e w1 ⟨rfl, hb1⟩
          have hbw1 : Below w.heap.size w w1 := (below_drewN hbw nq).trans (hb1.mono hs0)
          go_wp2_with fail
          go_ret2
          refine ⟨_, _, rfl, ?_, hbw1.alloc hbw1.size _⟩
          rw [HG.out, HZ.out]
          exact ⟨rfl, w1.heap.size, hbw1.size, rfl, Blk.new _ _ _⟩
    · have hz : readGo (f + 1) (s.data.toList.drop k) k = .inr [] := by
        rw [readGo, HD.out, if_pos (by omega)]
      have HZ := Lib.hid hz
      clear hz
      go_wp2_with fail
      go_ret2
      refine ⟨_, _, rfl, ?_, hbw⟩
      rw [HG.out, HZ.out]
      exact ⟨rfl, by simpa using hrow⟩
end Go.Proofs.YtifniblffjgfkaaGreatDoor

/- The fact of additional headers, and the plain laws of what is read. -/
namespace Go.Proofs.YtifniblffjgfkaaGreatDoor
open Go.ChangeShapes Go.WideShapes Go.ChangeAt Go.RowKit
set_option linter.unusedVariables false
def moreL : AhsL := [(1, ⟨#[97, 98]⟩), (2, ⟨#[99]⟩)]
set_option maxRecDepth 100000 in
theorem moreB : ahsB moreL = [0, 2, 1, 97, 98, 0, 0, 0, 0, 1, 2, 99] := by decide
set_option maxRecDepth 100000 in
theorem moreR : readGo 1021 [0, 2, 1, 97, 98, 0, 0, 0, 0, 1, 2, 99] 0 = .inr moreL := by rfl
theorem readGo_ok : ∀ (f : Nat) (r : List UInt8) (i : Nat) (l : AhsL), r.length < f → readGo f r i = .inr l → ahsB l = r ∧ (∀ p ∈ l, 0 ≤ p.1 ∧ p.1 ≤ 255) ∧ l.length ≤ r.length := by
  intro f
  induction f with
  | zero => intro r i l h; omega
  | succ f ih =>
    intro r i l hf h
    rw [readGo] at h
    split at h
    · cases h
      rename_i h0
      rw [List.eq_nil_of_length_eq_zero h0]
      exact ⟨rfl, fun p hp => (List.not_mem_nil hp).elim, Nat.le_refl _⟩
    · split at h
      · cases h
      · rename_i h0 h3
        split at h
        · cases h
        · rename_i hE
          have hE : unpadE r (3 + (getN (r.take 2) : Int)) = 0 := by simpa using hE
          obtain ⟨n, hn⟩ : ∃ n, getN (r.take 2) = n := ⟨_, rfl⟩
          rw [hn] at h hE
          have hle := unpad_ok _ _ hE
          have hpr := padI_rng (3 + (n : Int))
          have hN : unpadN r (3 + n) = 3 + n + padI (3 + n) := by rw [unpadN, if_pos hE]
          rw [hN] at h
          have hP : padded (r.take (3 + n)) = r.take (3 + n + padI (3 + n)).toNat := by
            unfold unpadE at hE
            split at hE
            · cases hE
            · split at hE
              · cases hE
              · split at hE
                · rename_i h; exact h
                · cases hE
          split at h
          · cases h
          · rename_i m hm
            cases h
            obtain ⟨i1, i2, i3⟩ := ih _ _ _ (by rw [List.length_drop]; omega) hm
            refine ⟨?_, ?_, ?_⟩
            · show ahsB1 _ ++ ahsB m = r
              rw [i1]
              have e : putB (ByteArray.mk (List.drop 3 (List.take (3 + n) r)).toArray).size 2 ++ [UInt8.ofNat (((r.getD 2 0).toNat : Int)).toNat] ++ (ByteArray.mk (List.drop 3 (List.take (3 + n) r)).toArray).data.toList = r.take (3 + n) := by
                have hs : (ByteArray.mk (List.drop 3 (List.take (3 + n) r)).toArray).size = n := by
                  rw [size_mkl, List.length_drop, List.length_take]; omega
                rw [hs]
                match r, h3, hle, hn with
                | a :: b :: c :: r, _, hle, hn =>
                  have h2 : putB n 2 = [a, b] := by
                    rw [← hn]
                    exact get_put [a, b]
                  rw [h2, Nat.add_comm 3 n]
                  simp
                | [], h, _, _ => simp at h
                | [_], h, _, _ => simp at h
                | [_, _], h, _, _ => simp at h
              unfold ahsB1
              simp only
              rw [e, hP, List.take_append_drop]
            · intro p hp
              rcases List.mem_cons.1 hp with rfl | hp
              · have := (r.getD 2 0).toNat_lt
                simp only
                omega
              · exact i2 p hp
            · rw [List.length_drop] at i3
              simp only [List.length_cons]
              omega
end Go.Proofs.YtifniblffjgfkaaGreatDoor

/- What is written of additional headers is read: the plain law. -/
namespace Go.Proofs.YtifniblffjgfkaaGreatDoor
set_option linter.unusedVariables false
def bodyB (p : Int × ByteArray) : List UInt8 := putB p.2.size 2 ++ [UInt8.ofNat p.1.toNat] ++ p.2.data.toList
theorem bodyB_len (p : Int × ByteArray) : (bodyB p).length = 3 + p.2.size := by
  simp only [bodyB, List.length_append, putB_len, List.length_singleton, len_of]
theorem readGo_ahsB : ∀ (l : AhsL) (f i : Nat), (∀ p ∈ l, 0 ≤ p.1 ∧ p.1 ≤ 255 ∧ p.2.size ≤ 1020) → (ahsB l).length < f → readGo f (ahsB l) i = .inr l := by
  intro l
  induction l with
  | nil =>
    intro f i _ hf
    obtain ⟨f, rfl⟩ : ∃ f', f = f' + 1 := ⟨f - 1, by omega⟩
    rfl
  | cons p l ih =>
    intro f i hp hf
    obtain ⟨f, rfl⟩ : ∃ f', f = f' + 1 := ⟨f - 1, by omega⟩
    obtain ⟨k, d⟩ := p
    obtain ⟨h0, h1, h2⟩ := hp _ (List.mem_cons_self ..)
    simp only at h0 h1 h2
    have hr : ahsB ((k, d) :: l) = padded (bodyB (k, d)) ++ ahsB l := rfl
    have hbl := bodyB_len (k, d)
    simp only at hbl
    have hpl : (bodyB (k, d)).length ≤ (padded (bodyB (k, d))).length := by simp [padded]
    obtain ⟨u1, u2, u3⟩ := unpad_padded (bodyB (k, d)) (ahsB l)
    have hp2 : putB d.size 2 = [UInt8.ofNat (d.size / 256), UInt8.ofNat d.size] := by
      simp [putB]
    have hb : bodyB (k, d) = UInt8.ofNat (d.size / 256) :: UInt8.ofNat d.size :: UInt8.ofNat k.toNat :: d.data.toList := by
      rw [bodyB, hp2]; rfl
    have hg : getN ((padded (bodyB (k, d)) ++ ahsB l).take 2) = d.size := by
      have e : (padded (bodyB (k, d)) ++ ahsB l).take 2 = putB d.size 2 := by
        rw [hp2, padded, hb]; rfl
      rw [e, putB_get]
      exact Nat.mod_eq_of_lt (by omega)
    rw [hr] at hf ⊢
    rw [List.length_append] at hf
    rw [readGo, if_neg (by rw [List.length_append]; omega), if_neg (by rw [List.length_append]; omega), hg]
    have hcast : ((bodyB (k, d)).length : Int) = 3 + (d.size : Int) := by omega
    rw [hcast] at u1 u3
    rw [u1, if_neg (by simp), u3]
    have hdrop : (padded (bodyB (k, d)) ++ ahsB l).drop ((padded (bodyB (k, d))).length : Int).toNat = ahsB l := by
      rw [Int.toNat_natCast, List.drop_left]
    rw [hdrop, ih f _ (fun q hq => hp q (List.mem_cons_of_mem _ hq)) (by omega)]
    have e1 : (padded (bodyB (k, d)) ++ ahsB l).getD 2 0 = UInt8.ofNat k.toNat := by
      rw [padded, hb]; rfl
    have e2 : ((padded (bodyB (k, d)) ++ ahsB l).take (3 + d.size)).drop 3 = d.data.toList := by
      rw [← hbl, List.take_append_of_le_length hpl, padded, List.take_left, hb]; rfl
    have e3 : ((UInt8.ofNat k.toNat).toNat : Int) = k := by
      simp; omega
    simp only [e1, e2, e3]
end Go.Proofs.YtifniblffjgfkaaGreatDoor

/- An argument that is a slice of additional headers: read as a list. -/
namespace Go.Proofs.YtifniblffjgfkaaGreatDoor
open Go.ChangeShapes Go.WideShapes Go.ChangeAt Go.RowKit Go.Deep
set_option linter.unusedVariables false
theorem weightsAll_mem' {H : Type} {P : Program} {e : TypeId} : ∀ {l : List (DataW H)} {d : DataW H}, d ∈ l → ∀ n ∈ d.weights P e, n ∈ DataW.weightsAll P e l
  | d' :: r, d, hd, n, hn => by
    simp only [DataW.weightsAll, List.mem_append]
    rcases List.mem_cons.1 hd with rfl | h
    · exact Or.inl hn
    · exact Or.inr (weightsAll_mem' h n hn)
set_option maxRecDepth 100000 in
theorem open_ahs {H : Type} {enc : TypeId × Value → H} {W : World} {base : Nat} {spare : Nat → Bool} {held : Bool} {v : Value} {d : DataW H} {p : List MemPlace} {ts : List TypeId} {ds : List (DataW H)} {j : Nat} {b0 : Nat}
    (hv : Value.okWide Tryz.prog W .any b0 36 v) (h : DataW.Trod enc Tryz.prog W base spare held 36 v d p)
    (hsz : (DataW.weightsEach Tryz.prog ts ds).all (· ≤ reachBytes) = true) (ht : ts[j]? = some 36) (hd : ds[j]? = some d) :
    ∃ l : AhsL, SRd W v 2 l.length (ahsCells l) ∧ (∀ q ∈ l, -9223372036854775808 ≤ q.1 ∧ q.1 ≤ 9223372036854775807) ∧ (∀ q ∈ l, q.2.size ≤ 140737488351232) := by
  obtain ⟨a0, len, cap, rfl⟩ := okWide_slice Tryz.underlying36 hv
  obtain ⟨fuel, hf⟩ := h
  rcases open_slice_pairs Tryz.underlying36 Tryz.underlying111 (by kernel_rfl) rfl rfl (by kernel_rfl) (by kernel_rfl) hf with ⟨hc, hx⟩ | ⟨a, len', cap', m, n, V0, V1, D0, D1, P0, P1, hc, hb, hl, hmx, hmm, hx, hi⟩
  · cases hc
    exact ⟨[], ⟨rfl, none, 0, rfl, Nat.le_refl _, by unfold maxLen; omega, fun h => absurd h (Nat.lt_irrefl _)⟩, fun q hq => (List.not_mem_nil hq).elim, fun q hq => (List.not_mem_nil hq).elim⟩
  · cases hc
    have hlm : len ≤ m := by rw [hmm]; split <;> omega
    have hval : ∀ i, i < len → ∃ (k : Int) (s : ByteArray), V0 i = .int .i64 k ∧ V1 i = .string s ∧ D1 i = .lit (.string s.data.toList) ∧ (Lit.int .i64 k).wf = true := by
      intro i hi'
      obtain ⟨_, _, h0, h1⟩ := hi i (by omega)
      obtain ⟨k, e0, _, hw⟩ := DataW.trod_int Tryz.underlying3 h0
      obtain ⟨s, e1, hx1, _⟩ := DataW.trod_string Tryz.underlying9 h1
      have e0' : V0 i = .int .i64 k := by simpa using e0
      have e1' : V1 i = .string s := by simpa using e1
      have hx1' : D1 i = .lit (.string s.data.toList) := by
        have := congrArg Prod.fst hx1
        simpa using this
      exact ⟨k, s, e0', e1', hx1', hw⟩
    have hch : ∀ i, ∃ q : Int × ByteArray, i < len → V0 i = .int .i64 q.1 ∧ V1 i = .string q.2 ∧ D1 i = .lit (.string q.2.data.toList) ∧ (Lit.int .i64 q.1).wf = true := by
      intro i
      by_cases hi' : i < len
      · obtain ⟨k, s, h⟩ := hval i hi'
        exact ⟨(k, s), fun _ => h⟩
      · exact ⟨(0, ⟨#[]⟩), fun h => absurd h hi'⟩
    obtain ⟨L, hL⟩ := Classical.axiomOfChoice hch
    have hcells : ∀ n, ahsCells ((List.range n).map L) = (List.range n).flatMap fun i => [.int .i64 (L i).1, .string (L i).2] := by
      intro n; simp [ahsCells, List.flatMap_map]
    have hget : ∀ j u, (ahsCells ((List.range len).map L))[j]? = some u → W.cell? (a.add j) = some u := by
      intro j u hu
      have hjl : j < 2 * len := by
        have := (List.getElem?_eq_some_iff.1 hu).1
        rw [ahsCells_len] at this
        simpa using this
      have hk : ((List.range len).map L)[j / 2]? = some (L (j / 2)) := by
        rw [List.getElem?_map, List.getElem?_range (by omega)]; rfl
      obtain ⟨g0, g1⟩ := ahsCells_at _ _ _ hk
      obtain ⟨c0, c1, _, _⟩ := hi (j / 2) (by omega)
      obtain ⟨l0, l1, _, _⟩ := hL (j / 2) (by omega)
      rcases Nat.mod_two_eq_zero_or_one j with h2 | h2
      · have e : j = 2 * (j / 2) := by omega
        rw [e, g0] at hu
        rw [e, Nat.mul_comm, c0, l0]
        exact hu
      · have e : j = 2 * (j / 2) + 1 := by omega
        rw [e, g1] at hu
        rw [e, Nat.mul_comm, c1, l1]
        exact hu
    refine ⟨(List.range len).map L, ⟨by rw [ahsCells_len]; omega, some a, cap, ?_, ?_, ?_, ?_⟩, ?_, ?_⟩
    · simp
    · simpa using hl
    · exact hmx
    · intro hpos
      have hpos' : 0 < len := by simpa using hpos
      have c00 := (hi 0 (by omega)).1
      have e0 : a.add (0 * 2) = a := by simp [Addr.add]
      rw [e0] at c00
      have hsp := World.cell?_spot c00
      obtain ⟨ab, ao, asp⟩ := a
      simp only at hsp
      subst hsp
      refine ⟨ab, ao, rfl, ?_, fun j u hu => by rw [← Addr.add_lit]; exact hget j u hu⟩
      simp only [World.cell?] at c00
      by_cases hlt : ab < W.heap.size
      · exact hlt
      · rw [Array.getElem?_eq_none (by omega)] at c00
        simp at c00
    · intro q hq
      obtain ⟨i, hi', rfl⟩ := List.mem_map.1 hq
      exact bounds_i64 (hL i (List.mem_range.1 hi')).2.2.2
    · intro q hq
      obtain ⟨i, hi', rfl⟩ := List.mem_map.1 hq
      have hd1 := (hL i (List.mem_range.1 hi')).2.2.1
      have hd' : d = .slice ((List.range len).map fun i => .agg [D0 i, D1 i]) ((List.range (m - len)).map fun j => .agg [D0 (len + j), D1 (len + j)]) := congrArg Prod.fst hx
      rw [hd'] at hd
      refine str_size rfl (of_decide_eq_true (List.all_eq_true.1 hsz _ (DataW.weights_mem_each ht hd _ ?_)))
      simp only [DataW.weights, Tryz.underlying36, List.mem_cons, List.mem_append]
      refine Or.inr (Or.inl (weightsAll_mem' (List.mem_map.2 ⟨i, hi', rfl⟩) _ ?_))
      rw [hd1]
      simp [DataW.weights, DataW.weightsEach, Tryz.underlying111]
end Go.Proofs.YtifniblffjgfkaaGreatDoor

/- What is written of additional headers is read. -/
namespace Go.Proofs.YtifniblffjgfkaaGreatDoor
open Go.ChangeShapes Go.WideShapes Go.ChangeAt Go.RowKit
set_option linter.unusedVariables false
theorem wide_any (l : AhsL) (v : Value) (w : World) (hv : SRd w v 2 l.length (ahsCells l)) (hd : ∀ p ∈ l, p.2.size ≤ 140737488351232) : Calls Tryz.prog 57 #[v] w fun e w' =>
    ∃ b, e = .returned (.bool b) ∧ Below w.heap.size w w' := by
  obtain ⟨hlen, A, cap, rfl, hcap, hmax, hcell⟩ := hv
  have HC := Lib.hid hcell
  unfold maxLen at hmax
  clear hcell hlen
  go_enter Tryz.func57, Tryz.ntmps57
  go_wp2_with fail
  go_loopw [3, 10] (fun s i wr => ∃ (k : Nat) (n : Int), k ≤ l.length ∧ i = .int .i64 k ∧ s = .int .i64 n ∧ Below w.heap.size w wr) (fun _ i _ => l.length - (intOf i).toNat)
  case atStart => exact ⟨0, _, Nat.zero_le _, rfl, rfl, Below.refl _ _⟩
  case round =>
    obtain ⟨k, n, hk, rfl, rfl, hbw⟩ := hrel
    by_cases hlt : k < l.length
    · obtain ⟨p, hp⟩ : ∃ p, l[k]? = some p := ⟨_, List.getElem?_eq_getElem hlt⟩
      obtain ⟨b, o, rfl, hbl, hcc⟩ := HC.out (by omega)
      have hc := ahsCells_at l k p hp
      have c0 := (hbw.cell (p := ⟨b, o + 2 * k, none⟩) hbl).trans (hcc _ _ hc.1)
      have c1 := (hbw.cell (p := ⟨b, o + (2 * k + 1), none⟩) hbl).trans (hcc _ _ hc.2)
      rw [Nat.mul_comm] at c0 c1
      rw [← Nat.add_assoc] at c1
      have hdp := hd p (List.mem_of_getElem? hp)
      clear hc hcc hp
      have hs0 := hbw.size
      go_wp2_with fail
      go_roundw
      case rel => exact ⟨k + 1, _, by omega, by go_num, rfl, hbw.alloc hs0 _⟩
      case measure => simp [intOf]; omega
    · go_wp2_with fail
      go_ret
      exact ⟨_, rfl, hbw⟩
theorem equal_same (l : AhsL) (v v2 : Value) (w : World) (hv : SRd w v 2 l.length (ahsCells l)) (hv2 : SRd w v2 2 l.length (ahsCells l)) : Calls Tryz.prog 55 #[v, v2] w fun e w' =>
    e = .returned (.bool true) ∧ ∃ k, w' = w.drewN k := by
  obtain ⟨hlen, A, cap, rfl, hcap, hmax, hcell⟩ := hv
  obtain ⟨_, A2, cap2, rfl, hcap2, hmax2, hcell2⟩ := hv2
  have HC := Lib.hid hcell
  have HC2 := Lib.hid hcell2
  unfold maxLen at hmax
  clear hcell hcell2 hlen
  go_enter Tryz.func55, Tryz.ntmps55
  go_wp2_with fail
  go_loopw [13] (fun i wr => ∃ (k n : Nat), k ≤ l.length ∧ i = .int .i64 k ∧ wr = w.drewN n) (fun i _ => l.length - (intOf i).toNat)
  case atStart => exact ⟨0, 0, Nat.zero_le _, rfl, rfl⟩
  case round =>
    obtain ⟨k, nd, hk, rfl, rfl⟩ := hrel
    by_cases hlt : k < l.length
    · obtain ⟨p, hp⟩ : ∃ p, l[k]? = some p := ⟨_, List.getElem?_eq_getElem hlt⟩
      obtain ⟨b, o, rfl, hbl, hcc⟩ := HC.out (by omega)
      have hc := ahsCells_at l k p hp
      obtain ⟨b2, o2, rfl, hbl2, hcc2⟩ := HC2.out (by omega)
      have c0 := hcc _ _ hc.1
      have c1 := hcc _ _ hc.2
      have d0 := hcc2 _ _ hc.1
      have d1 := hcc2 _ _ hc.2
      rw [Nat.mul_comm] at c0 c1 d0 d1
      rw [← Nat.add_assoc] at c1 d1
      clear hc hcc hcc2 hp
      go_wp2_with fail
      go_quiet (fail)
      go_wp2_with fail
      go_roundw
      case rel => exact ⟨k + 1, _, by omega, by go_num, rfl⟩
      case measure => simp [intOf]; omega
    · go_wp2_with fail
      go_ret
      exact ⟨rfl, nd, rfl⟩
end Go.Proofs.YtifniblffjgfkaaGreatDoor
