/- What FullSettles stands on: how thick offers are, which of them are left out, and what is said to the others. -/
import Derived.Test.YtamlepacljjpiaaGreatDoorFullListP
import Derived.Test.YtamlepacljjpiaaGreatDoorNegoDelf
namespace Go.Proofs.YtamlepacljjpiaaGreatDoor
open Go.ChangeShapes Go.WideShapes Go.ChangeAt Go.RowKit Go.Shelf
set_option linter.unusedVariables false
set_option linter.unusedSimpArgs false
def szN : PairL → Nat
  | [] => 0
  | p :: l => p.1.size + p.2.size + szN l
theorem szN_app : ∀ a b : PairL, szN (a ++ b) = szN a + szN b
  | [], b => by simp [szN]
  | p :: a, b => by
    rw [List.cons_append, szN, szN, szN_app a b]
    omega
theorem szN_take (l : PairL) (k : Nat) : szN (l.take k) ≤ szN l := by
  have h := szN_app (l.take k) (l.drop k)
  rw [List.take_append_drop] at h
  omega
theorem szN_filter (f : ByteArray × ByteArray → Bool) : ∀ l : PairL, szN (l.filter f) ≤ szN l
  | [] => Nat.le_refl _
  | p :: l => by
    have ih := szN_filter f l
    rw [List.filter_cons]
    split
    · rw [szN, szN]; omega
    · rw [szN]; omega
theorem pairs_len : ∀ l : PairL, (pairsB l).length = szN l + 2 * l.length
  | [] => rfl
  | p :: l => by
    have ih := pairs_len l
    have e : pairsB (p :: l) = pairB p ++ pairsB l := rfl
    rw [e, List.length_append, pairB_len, ih, szN, List.length_cons]
    omega
set_option maxRecDepth 20000 in
set_option maxHeartbeats 4000000 in
theorem thick_exact (l : PairL) (v : Value) (w : World) (hv : SRd w v 2 l.length (pairCells l)) (hz : l.length + szN l ≤ 4000000000000000000) : Calls Tryz.prog 40 #[v] w fun e w' =>
    e = .returned (.bool (decide (3000 < l.length + szN l))) ∧ Below w.heap.size w w' := by
  obtain ⟨hlen, A, cap, rfl, hcap, hmax, hcell⟩ := hv
  have HC := Lib.hid hcell
  unfold maxLen at hmax
  clear hcell hlen
  go_enter Tryz.func40, Tryz.ntmps40
  go_wp2_with fail
  go_loopw [3, 10] (fun s i wr => ∃ k : Nat, k ≤ l.length ∧ i = .int .i64 k ∧ s = .int .i64 (l.length + szN (l.take k) : Nat) ∧ Below w.heap.size w wr) (fun _ i _ => l.length - (intOf i).toNat)
  case atStart => exact ⟨0, Nat.zero_le _, rfl, by simp [szN], Below.refl _ _⟩
  case round =>
    obtain ⟨k, hk, rfl, rfl, hbw⟩ := hrel
    by_cases hlt : k < l.length
    · obtain ⟨p, hp⟩ : ∃ p, l[k]? = some p := ⟨_, List.getElem?_eq_getElem hlt⟩
      obtain ⟨b, o, rfl, hbl, hcc⟩ := HC.out (by omega)
      have hc := pairCells_at l k p hp
      have c0 := (hbw.cell (p := ⟨b, o + 2 * k, none⟩) hbl).trans (hcc _ _ hc.1)
      have c1 := (hbw.cell (p := ⟨b, o + (2 * k + 1), none⟩) hbl).trans (hcc _ _ hc.2)
      rw [Nat.mul_comm] at c0 c1
      rw [← Nat.add_assoc] at c1
      have htk : szN (l.take (k + 1)) = szN (l.take k) + (p.1.size + p.2.size) := by
        rw [List.take_add_one, hp, szN_app]
        simp [szN]
      have hle := szN_take l (k + 1)
      obtain ⟨Z, hZ⟩ : ∃ Z, szN (l.take k) = Z := ⟨_, rfl⟩
      obtain ⟨Z2, hZ2⟩ : ∃ Z, szN (l.take (k + 1)) = Z := ⟨_, rfl⟩
      rw [hZ, hZ2] at htk
      rw [hZ2] at hle
      rw [hZ]
      have HZ2 := Lib.hid hZ2
      clear hc hcc hp hZ hZ2
      obtain ⟨p1, p2⟩ := p
      simp only at c0 c1 htk
      have hs0 := hbw.size
      have n1 : ((l.length + Z : Nat) : Int) + p1.size ≤ 4000000000000000000 := by omega
      have n2 : ((l.length + Z : Nat) : Int) + p1.size + p2.size ≤ 4000000000000000000 := by omega
      have n0 : (0 : Int) ≤ ((l.length + Z : Nat) : Int) := by omega
      go_wp2_with fail
      go_roundw
      case rel =>
        refine ⟨k + 1, by omega, by go_num, ?_, hbw.alloc hs0 _⟩
        rw [HZ2.out, htk]
        go_num
      case measure => simp [intOf]; omega
    · have hkl : k = l.length := by omega
      subst hkl
      rw [List.take_length]
      go_wp2_with fail
      go_ret
      refine ⟨?_, hbw⟩
      simp
      try omega
theorem wpList_append_posF (w : World) {ops : Array Oper} {rest : List Oper} {o : Oper} {a : Act} {Q : Exit → Act → World → Prop} (hgd : o.guard = none) (s x : Operand)
    (ho : o.op = .call { callee := .builtin .append, args := #[s, x], argTypes := #[27, 27] })
    (base : Nat) (v : Value) (l : PairL) (hs : a.eval s = v) (hown : ORow w base v l)
    (ad : Addr) (c : Nat) (m : PairL) (hx : a.eval x = .slice (some ad) m.length c) (hm : SRd w (.slice (some ad) m.length c) 2 m.length (pairCells m)) (hlen : (l.length + m.length) * 32 ≤ 140737488355328) (hbase : base ≤ w.heap.size)
    (h : ∀ v' w', ORow w' base v' (l ++ m) → w.grownBy w' v.ownBlock → wpList Tryz.prog ops Q rest (a.put o.dst v') w') : wpList Tryz.prog ops Q (o :: rest) a w := by
  obtain ⟨i0, hi, hz0, hz1, hz2⟩ := info_parts infoPair
  obtain ⟨h1, A, cap, hv, h2, h3, h4⟩ := hm
  injection hv with hv _ _
  subst hv
  refine wpList_append_own_at w hgd s x _ ho base 62 i0 _ 2 32 Tryz.underlying27 hi hz0 hz1 hz2 rfl (by decide) v l.length _ hs hown ad m.length c (pairCells m) hx (by rw [pairCells_len, Nat.mul_comm]) ?_ ?_ (by unfold maxLen; omega) (by omega) hbase ?_
  · intro j u hu
    have hpos : 0 < m.length := by
      have := (List.getElem?_eq_some_iff.1 hu).1
      rw [pairCells_len] at this
      omega
    obtain ⟨b, o, hA, _, hc⟩ := h4 hpos
    obtain rfl := Option.some.inj hA
    rw [Addr.add_lit]
    exact hc j u hu
  · intro u hu
    simp only [pairCells, List.mem_flatMap] at hu
    obtain ⟨q, _, hq⟩ := hu
    simp at hq
    rcases hq with rfl | rfl <;> rfl
  · intro v' w' r1 r2 _ _
    refine h v' w' ?_ r2
    unfold ORow
    rw [List.length_append, pairCells_append]
    exact r1
set_option maxHeartbeats 2000000 in
theorem clone_off (l : PairL) (v : Value) (w : World) (hv : SRd w v 2 l.length (pairCells l)) (hl : l.length * 32 ≤ 140737488351232) : Calls Tryz.prog 42 #[v] w fun e w' =>
    ∃ u, e = .returned u ∧ ORow w' w.heap.size u l ∧ Below w.heap.size w w' := by
  have hv0 := hv
  obtain ⟨hlen, A, cap, rfl, hcap, hmax, hcell⟩ := hv
  unfold maxLen at hmax
  have hnil : A = none → l = [] := by
    intro hA
    rcases l with _ | ⟨p, l⟩
    · rfl
    · obtain ⟨b, o, hA2, _⟩ := hcell (by simp)
      rw [hA] at hA2; cases hA2
  clear hcell hlen
  have heq := fun (w : World) (a : Option Addr) (n c : Nat) => Lib.run_eql_slice_nil (P := Tryz.prog) w 27 62 a n c 0 0 Tryz.underlying27
  go_enter Tryz.func42, Tryz.ntmps42
  rcases A with _ | a
  · have h0 := hnil rfl
    subst h0
    clear hnil
    go_wp2_with fail
    go_ret
    exact ⟨_, rfl, ORow.nil _ _, Below.refl _ _⟩
  · have hown : ORow (w.alloc (.cells #[] 62)) w.heap.size (.slice (some ⟨w.heap.size, 0, none⟩) 0 0) [] :=
      ⟨rfl, .inr ⟨w.heap.size, 0, #[], rfl, Nat.le_refl _, Blk.new w _ _, Nat.le_refl _, by decide, rfl, rfl⟩⟩
    have hb0 : Below w.heap.size w (w.alloc (.cells #[] 62)) := (Below.refl _ _).alloc (Nat.le_refl _) _
    have hv1 := hv0.on hb0
    go_wp2_with (at_builtin; refine wpList_append_posF _ rfl _ _ rfl w.heap.size _ [] rfl hown _ _ l rfl hv1 (by simp; omega) (by simp) ?_)
    intro v1 w1 hr1 hg1
    have hb1 : Below w.heap.size w w1 := hb0.grown hg1 (by simp) (fun k hk => by cases hk; exact Nat.le_refl _)
    go_wp2_with fail
    go_ret
    exact ⟨_, rfl, hr1, hb1⟩
def dropB (q : ByteArray × ByteArray) : Bool := decide (q.1 = stB ∨ q.1 = mrB)
theorem name_ne {k : ByteArray} {L : List UInt8} (h : k ≠ ⟨L.toArray⟩) : (k.toList == L) = false := by
  rw [beq_eq_false_iff_ne]
  intro h2
  exact h (by rw [← ba_of k, ← toList_of k, h2]; rfl)
theorem set_clos (k v : ByteArray) (W : World) : Calls Tryz.prog 43 (#[.agg #[.string k, .string v]] ++ #[]) W fun e w' => e = .returned (.bool (dropB (k, v))) ∧ Below W.heap.size W w' := by
  show Calls Tryz.prog 43 #[.agg #[.string k, .string v]] W _
  have hb0 : Below W.heap.size W (W.alloc (.cells #[.string k, .string v] 62)) := (Below.refl _ _).alloc (Nat.le_refl _) _
  by_cases h1 : k = stB
  · have hd : dropB (k, v) = true := by unfold dropB; exact decide_eq_true (.inl h1)
    rw [hd]
    obtain rfl : k = ⟨#[83, 101, 110, 100, 84, 97, 114, 103, 101, 116, 115]⟩ := h1
    go_enter Tryz.func43, Tryz.ntmps43
    go_wp2_with fail
    go_ret
    exact ⟨by first | rfl | simp, hb0⟩
  · have n1 : (k.toList == [83, 101, 110, 100, 84, 97, 114, 103, 101, 116, 115]) = false := name_ne h1
    by_cases h2 : k = mrB
    · have hd : dropB (k, v) = true := by unfold dropB; exact decide_eq_true (.inr h2)
      rw [hd]
      obtain rfl : k = ⟨#[77, 97, 120, 82, 101, 99, 118, 68, 97, 116, 97, 83, 101, 103, 109, 101, 110, 116, 76, 101, 110, 103, 116, 104]⟩ := h2
      go_enter Tryz.func43, Tryz.ntmps43
      go_wp2_with fail
      go_ret
      exact ⟨by first | rfl | simp, hb0⟩
    · have n2 : (k.toList == [77, 97, 120, 82, 101, 99, 118, 68, 97, 116, 97, 83, 101, 103, 109, 101, 110, 116, 76, 101, 110, 103, 116, 104]) = false := name_ne h2
      have hd : dropB (k, v) = false := by unfold dropB; exact decide_eq_false (fun h => h.elim h1 h2)
      rw [hd]
      go_enter Tryz.func43, Tryz.ntmps43
      go_wp2_with fail
      go_ret
      exact ⟨by first | rfl | simp, hb0⟩
/- what is said to those that are left -/
def NoST (l : PairL) : Prop := ∀ q ∈ l, q.1 ≠ stB ∧ q.1 ≠ mrB
theorem keep_no (l : PairL) : NoST (keepP dropB l) := by
  intro q hq
  have h := (List.mem_filter.1 hq).2
  have h2 : ¬ (q.1 = stB ∨ q.1 = mrB) := by
    unfold dropB at h
    simpa using h
  exact ⟨fun h => h2 (.inl h), fun h => h2 (.inr h)⟩
theorem rest_no {l : PairL} (h : NoST l) : restL l = l := by
  unfold restL
  rw [List.filter_eq_self]
  intro q hq
  have : isST q = false := by unfold isST; exact decide_eq_false (h q hq).1
  rw [this]
  rfl
theorem said_no {X : FP} {l : PairL} (h : NoST l) : saidS X l = [] := by
  unfold saidS
  have : l.filter isST = [] := by
    rw [List.filter_eq_nil_iff]
    intro q hq
    have : isST q = false := by unfold isST; exact decide_eq_false (h q hq).1
    rw [this]
    simp
  rw [this]
  rfl
theorem find_add {rc : PairL} {k k' : ByteArray} {v : List UInt8} (h : findB rc k = none) (hk : k'.data.toList ≠ k.data.toList) : findB (addB rc k' v) k = none := by
  unfold addB
  split
  · exact h
  · rw [findB_app]
    have h1 : findB (rc.filter fun q => decide (kB q ≠ k'.data.toList)) k = none := findB_none.2 fun q hq => findB_none.1 h q (List.mem_filter.1 hq).1
    rw [h1]
    show (if k'.data.toList = k.data.toList then some (ba v) else findB [] k) = none
    rw [if_neg hk]
    rfl
theorem find_rec (own : PairL) (login disc : Bool) (k : ByteArray) : ∀ (l rc : PairL), findB rc k = none → (∀ q ∈ l, q.1 ≠ k) → findB (recL own login disc rc l) k = none
  | [], rc, h, _ => h
  | p :: l, rc, h, hl => find_rec own login disc k l _ (find_add h (fun e => hl p (by simp) (by rw [← ba_of p.1, e, ba_of]))) (fun q hq => hl q (List.mem_cons_of_mem _ hq))
theorem most_no {l : PairL} (h : NoST l) (disc : Bool) : mostN (recL [] false disc [] l) = 8192 := by
  have h1 : findB (recL [] false disc [] l) mrB = none := find_rec [] false disc mrB l [] rfl (fun q hq => (h q hq).2)
  have h2 : ownL (recL [] false disc [] l) mrB = ownL [] mrB := by
    unfold ownL
    rw [h1]
    rfl
  have h3 : mostN [] = 8192 := by decide +kernel
  rw [← h3]
  unfold mostN
  rw [h2]
def setT (disc : Bool) (l : PairL) : ByteArray := ba (pairsB (saidL [] false disc l))
def setZ (X : FP) (disc : Bool) (l : PairL) : FP := { X with rc := recL [] false disc [] l, pcs := piecesN (setT disc l) 8192 (cntN (setT disc l) 8192), txt := ⟨#[]⟩ }
theorem set_right {l : PairL} {disc : Bool} (hr : rightP l) (hl : l.length ≤ 60) : pRightR (saidL [] false disc l) = none ∧ (setT disc l).size ≤ 19200 := by
  have h1 : (saidL [] false disc l).length ≤ 60 := Nat.le_trans (saidL_len [] false disc l) hl
  have h2 : rightP (saidL [] false disc l) := said_right hr
  refine ⟨(pRightR_iff _).2 ⟨h1, h2⟩, ?_⟩
  have e : (setT disc l).size = (pairsB (saidL [] false disc l)).length := size_mkl _
  have := pairsB_len_le _ h2
  omega
theorem set_take (X : FP) (l : PairL) (disc : Bool) (s : ByteArray) (hs : s = ba (pairsB l)) (hr : rightP l) (hl : l.length ≤ 60) (hz : s.size ≤ 8192) (hn : NoST l) (hc : X.closed = false) (ht : X.txt = ⟨#[]⟩) (ho : X.own = []) (hrc : X.rc = []) (hd : X.disc = disc) :
    wrongP X (textP 128 noneN s) = none ∧ ((∃ E Y, ansE [] l false = some E ∧ takeP X (textP 128 noneN s) = ([rejA X 4 (headS (textP 128 noneN s))], Y)) ∨ (ansE [] l false = none ∧ takeP X (textP 128 noneN s) = ([(pieceP (setZ X disc l) 1).1], (pieceP (setZ X disc l) 1).2))) := by
  obtain ⟨hw, hta⟩ := text_pairs X hc ht l s hs hr hl hz
  refine ⟨hw, ?_⟩
  rcases hE : ansE [] l false with _ | E
  · refine .inr ⟨rfl, hta.trans ?_⟩
    have e : saysP { X with pcs := [], txt := ⟨#[]⟩ } l 1 (headS (textP 128 noneN s)) = pieceP (setZ X disc l) 1 := by
      unfold saysP
      dsimp only
      rw [rest_no hn, said_no hn, hrc, ho, hd, hE]
      dsimp only
      rw [List.nil_append, (set_right hr hl).1, most_no hn]
      dsimp only
      unfold setZ setT
      rw [ho, hd]
    rw [e]
  · refine .inl ⟨E, ({ X with pcs := [], txt := ⟨#[]⟩ } : FP).up, rfl, hta.trans ?_⟩
    have e : saysP { X with pcs := [], txt := ⟨#[]⟩ } l 1 (headS (textP 128 noneN s)) = (rejA X 4 (headS (textP 128 noneN s)), ({ X with pcs := [], txt := ⟨#[]⟩ } : FP).up) := by
      unfold saysP
      dsimp only
      rw [rest_no hn, hrc, hE]
      rfl
    rw [e]
end Go.Proofs.YtamlepacljjpiaaGreatDoor
