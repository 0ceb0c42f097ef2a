/- The contract of pairs.Parse. -/
import Derived.Test.YtifniblffjgfkaaGreatDoorPairsRight
namespace Go.Proofs.YtifniblffjgfkaaGreatDoor
open Go.ChangeShapes Go.WideShapes Go.ChangeAt Go.RowKit
set_option linter.unusedVariables false
theorem below_dP {B : Nat} {a w : World} (h : Below B a w) (k : Nat) : Below B a (w.drewN k) := h.trans ⟨rfl, rfl, rfl, Nat.le_refl _, fun _ _ => rfl⟩
theorem infoPair : (Tryz.prog.info? 96).map (fun i => (i.zero, i.size, i.bytes)) = some (some (.agg #[.string ⟨#[]⟩, .string ⟨#[]⟩]), 2, 32) := by kernel_rfl
def PRow (w : World) (base : Nat) (v : Value) (l : PairL) : Prop := MRow w base 96 2 v l.length (pairCells l)
theorem wpList_append_pair (w : World) {ops : Array Oper} {rest : List Oper} {o : Oper} {a : Act} {Q : Exit → Act → World → Prop} (hgd : o.guard = none) (s x : Operand)
    (ho : o.op = .call { callee := .builtin .append, args := #[s, x], argTypes := #[75, 75] })
    (base : Nat) (v : Value) (l : PairL) (hs : a.eval s = v) (hown : PRow w base v l)
    (ad : Addr) (p : ByteArray × ByteArray) (c : Nat) (hx : a.eval x = .slice (some ad) 1 c) (h0 : w.cell? (ad.add 0) = some (.string p.1)) (h1 : w.cell? (ad.add 1) = some (.string p.2))
    (hlen : l.length ≤ 1000) (hbase : base ≤ w.heap.size) {w0 : World} (hbel : Below base w0 w)
    (h : ∀ v' w', PRow w' base v' (l ++ [p]) → v' ≠ .slice none 0 0 → Below base w0 w' → wpList Tryz.prog ops Q rest (a.put o.dst v') w') : wpList Tryz.prog ops Q (o :: rest) a w := by
  obtain ⟨i0, hi, hz0, hz1, hz2⟩ := info_parts infoPair
  refine wpList_plain hgd fun _ hK => wp_append_m w s x _ ho base 96 i0 _ 2 32 Tryz.underlying75 hi hz0 hz1 hz2 rfl (by decide) v l.length _ hs hown ad 1 c [.string p.1, .string p.2] hx (by simp) ?_ ?_ (by unfold maxLen; omega) (by omega) hbase ?_
  · intro j u hu
    match j with
    | 0 => cases hu; exact h0
    | 1 => cases hu; exact h1
    | j + 2 => simp at hu
  · intro u hu
    simp at hu
    rcases hu with rfl | rfl <;> rfl
  · intro v' w' r1 r2 r3
    refine hK _ _ (h v' w' ?_ (fun e => absurd (r3 e) (by decide)) (hbel.grown r2 hbase fun k hk => (hown.lt k hk).1))
    unfold PRow
    rw [List.length_append, pairCells_snoc]
    exact r1
theorem pcell0 (w : World) (t : TypeId) (a u : Value) : (w.alloc (.cells #[a, u] t)).cell? ((⟨w.heap.size, 0, none⟩ : Addr).add 0) = some a := by
  rw [Addr.add_lit]
  exact (Blk.new w t _).cell 0
theorem pcell1 (w : World) (t : TypeId) (a u : Value) : (w.alloc (.cells #[a, u] t)).cell? ((⟨w.heap.size, 0, none⟩ : Addr).add 1) = some u := by
  rw [Addr.add_lit]
  exact (Blk.new w t _).cell 1
def PRes (w : World) (base : Nat) (r er : Value) : (Nat × Option Nat) ⊕ PairL → Prop
  | .inl e => r = .slice none 0 0 ∧ PErr w base er (some e)
  | .inr l => er = .nilIface ∧ PRow w base r l
def strLen : Value → Nat | .string s => s.size | _ => 0
theorem cut_any (s sep : ByteArray) (c : UInt8) (hsep : sep = ⟨#[c]⟩) (w : World) (hS : w.ShapedOpen Tryz.prog) (hs : s.size ≤ 1000000) : Calls Tryz.prog 101 #[.string s, .string sep] w fun e w' =>
    ∃ (x r : ByteArray) (b : Bool), e = .returned (.tuple #[.string x, .string r, .bool b]) ∧ Lib.cut s.data.toList [c] = (x.data.toList, r.data.toList, b) ∧ x.size ≤ s.size ∧ r.size ≤ s.size ∧ (b = true → r.size < s.size) ∧ ∃ n, w' = w.drewN n := by
  subst hsep
  refine (Tryz.strings_Cut_shaped s ⟨#[c]⟩ w hS (by omega)).mono ?_
  rintro e w' ⟨rfl, n, rfl⟩
  have hl := cut_len s.data.toList c
  rw [len_of] at hl
  exact ⟨⟨(Lib.cut s.data.toList [c]).1.toArray⟩, ⟨(Lib.cut s.data.toList [c]).2.1.toArray⟩, (Lib.cut s.data.toList [c]).2.2, rfl, rfl, hl.1, hl.2.1, hl.2.2, n, rfl⟩
theorem pRightR_one (p : ByteArray × ByteArray) : pRightR [p] = if right1 p.1.data.toList p.2.data.toList = 0 then none else some (right1 p.1.data.toList p.2.data.toList, some 0) := by
  rw [pRightR, if_neg (by simp)]
  unfold right1
  rw [pRightGo]
  by_cases h1 : keyB p.1.data.toList = false
  · rw [if_pos h1, if_pos h1]; rfl
  · rw [if_neg h1, if_neg h1]
    by_cases h2 : valB p.2.data.toList = false
    · rw [if_pos h2, if_pos h2]; rfl
    · rw [if_neg h2, if_neg h2]; rfl
/- the last of a row that has just grown, as a row of its own -/
theorem last_row {w : World} {base : Nat} {v : Value} {l : PairL} {p : ByteArray × ByteArray} (h : PRow w base v (l ++ [p])) : ∃ g cap, v = .slice (some ⟨g, 0, none⟩) (l.length + 1) cap ∧ l.length + 1 ≤ cap ∧ cap ≤ maxLen ∧ base ≤ g ∧ g < w.heap.size ∧
    SRd w (.slice (some ⟨g, l.length * 2, none⟩) 1 (cap - l.length)) 2 1 (pairCells [p]) := by
  have hlen : (l ++ [p]).length = l.length + 1 := by simp
  rcases h.2 with ⟨_, h0⟩ | ⟨g, cap, cur, rfl, hg, hB, hn, hm, hz, ht⟩
  · rw [hlen] at h0; omega
  · rw [hlen] at hn
    refine ⟨g, cap, by rw [hlen], hn, hm, hg, hB.lt, ?_⟩
    refine ⟨rfl, _, _, rfl, by omega, Nat.le_trans (Nat.sub_le _ _) hm, fun _ => ⟨g, l.length * 2, rfl, hB.lt, fun j u hu => ?_⟩⟩
    have hu' : (pairCells (l ++ [p]))[l.length * 2 + j]? = some u := by
      rw [pairCells_append, List.getElem?_append_right (by rw [pairCells_len]; omega), pairCells_len]
      rw [← hu]; congr 1; omega
    exact h.cellAt _ _ hu'
set_option maxRecDepth 20000 in
set_option maxHeartbeats 8000000 in
theorem parse_any (s : ByteArray) (w : World) (hL : LaidE w) (hS : w.ShapedOpen Tryz.prog) (hs : s.size ≤ 1000000) : Calls Tryz.prog 77 #[.string s] w fun e w' =>
    ∃ r er, e = .returned (.tuple #[r, er]) ∧ PRes w' w.heap.size r er (parseGo (s.size + 1) s.data.toList 0) ∧ Below w.heap.size w w' := by
  go_enter Tryz.func77, Tryz.ntmps77
  go_wp2_with fail
  go_loopw [0, 4] (fun t o wr => ∃ (T : ByteArray) (f : Nat) (acc : PairL), t = .string T ∧ T.size ≤ s.size ∧ T.size < f ∧ acc.length ≤ 60 ∧ PRow wr w.heap.size o acc ∧ parseGo (s.size + 1) s.data.toList 0 = pAcc acc (parseGo f T.data.toList acc.length) ∧ Below w.heap.size w wr) (fun t _ _ => strLen t)
  case atStart => exact ⟨s, s.size + 1, [], rfl, Nat.le_refl _, by omega, by simp, MRow.nil _ _ _ _, by show _ = pAcc [] (parseGo (s.size + 1) s.data.toList 0); generalize parseGo (s.size + 1) s.data.toList 0 = r; cases r <;> rfl, Below.refl _ _⟩
  case round =>
    obtain ⟨T, f, acc, rfl, hT, hf, hacc, hrow, hgo, hbw⟩ := hrel
    have HG := Lib.hid hgo
    clear hgo
    have hs0 := hbw.size
    obtain ⟨f, rfl⟩ : ∃ f', f = f' + 1 := ⟨f - 1, by omega⟩
    have htl := toList_of T
    have HTL := Lib.hid htl
    clear htl
    have hSw := shaped_on hS hbw
    have hLw := hL.on hbw
    by_cases he : T.data.toList = []
    · have hz : parseGo (f + 1) T.data.toList acc.length = .inr [] := by rw [parseGo, he]; rfl
      have HZ := Lib.hid hz
      have e1 : T.toList = [] := by rw [HTL.out, he]
      clear hz he
      go_wp2_with fail
      go_ret2
      refine ⟨_, _, rfl, ?_, hbw⟩
      rw [HG.out, HZ.out]
      exact ⟨rfl, by simpa using hrow⟩
    · have hemp : T.data.toList.isEmpty = false := by simpa using he
      have e1 : T.toList.isEmpty = false := by rw [HTL.out]; exact hemp
      have e2 : (T.toList == []) = false := by rw [HTL.out]; simpa using he
      have e3 : (T.toList != []) = true := by rw [bne, e2]; rfl
      have HEMP := Lib.hid hemp
      clear hemp he
      obtain ⟨A, cap, rfl, hcap, hmx, hcells⟩ := hrow.form
      have HCE := Lib.hid hcells
      unfold maxLen at hmx
      clear hcells
      go_wp2_with fail
      refine (cut_any T _ 0 rfl _ hSw (by omega)).mono ?_
      rintro e w1 ⟨X, R, b, rfl, hcut, hX, hR, hRb, nq, rfl⟩
      have HCUT := Lib.hid hcut
      clear hcut
      cases b
      · have hz : parseGo (f + 1) T.data.toList acc.length = .inl (7, some acc.length) := by
          rw [parseGo, if_neg (by rw [HEMP.out]; decide), if_pos (by rw [HCUT.out])]
        have HZ := Lib.hid hz
        clear hz hRb
        go_wp2_with fail
        go_ret2
        refine ⟨_, _, rfl, ?_, (below_dP hbw nq).alloc hs0 _⟩
        rw [HG.out, HZ.out]
        exact ⟨rfl, wr.heap.size, hs0, rfl, Blk.new _ _ _⟩
      · have hRl : R.size < T.size := hRb rfl
        clear hRb
        go_wp2_with fail
        refine (cut_any X _ 61 rfl _ (shaped_on hSw (below_dP (Below.refl _ _) nq)) (by omega)).mono ?_
        rintro e w1 ⟨K, V, b2, rfl, hcut2, hK, hV, hVb, nq2, rfl⟩
        have HCUT2 := Lib.hid hcut2
        clear hcut2 hVb
        have hbw2 : Below w.heap.size w (wr.drewN (nq + nq2)) := below_dP hbw (nq + nq2)
        cases b2
        · have hz : parseGo (f + 1) T.data.toList acc.length = .inl (3, some acc.length) := by
            rw [parseGo, if_neg (by rw [HEMP.out]; decide), if_neg (by rw [HCUT.out]; simp), HCUT.out, if_pos (by simp only [HCUT2.out])]
          have HZ := Lib.hid hz
          clear hz
          go_wp2_with fail
          go_ret2
          refine ⟨_, _, rfl, ?_, hbw2.alloc hs0 _⟩
          rw [HG.out, HZ.out]
          exact ⟨rfl, wr.heap.size, hs0, rfl, Blk.new _ _ _⟩
        · have hz : parseGo (f + 1) T.data.toList acc.length = if acc.length = 60 then .inl (4, none) else
              if right1 K.data.toList V.data.toList ≠ 0 then .inl (right1 K.data.toList V.data.toList, some acc.length) else
              pAcc [(K, V)] (parseGo f R.data.toList (acc.length + 1)) := by
            rw [parseGo, if_neg (by rw [HEMP.out]; decide), if_neg (by rw [HCUT.out]; simp), HCUT.out, if_neg (by simp only [HCUT2.out]; simp)]
            simp only [HCUT2.out]
            congr 2
            try (cases parseGo f R.data.toList (acc.length + 1) <;> rfl)
          have HZ := Lib.hid hz
          clear hz
          go_wp2_with (at_builtin; refine wpList_append_pair _ rfl _ _ rfl w.heap.size _ acc rfl ?g0 ⟨wr.heap.size, 0, none⟩ (K, V) 1 rfl ?g1 ?g2 (by omega) ?g3 (w0 := w) ?g4 ?_)
          case g0 => exact ((MRow.drewN hrow (nq + nq2)).alloc _)
          case g1 => exact pcell0 _ _ _ _
          case g2 => exact pcell1 _ _ _ _
          case g3 => simp; omega
          case g4 => exact hbw2.alloc hs0 _
          intro v3 w3 hrow3 hne3 hb3
          obtain ⟨g, cap3, rfl, hc3, hm3, hgb, hgl, hsrd⟩ := last_row hrow3
          unfold maxLen at hm3
          clear hrow hne3
          by_cases h60 : acc.length = 60
          · have f60 : ((acc.length : Int) == 60) = true := beq_iff_eq.2 (by omega)
            have hz : parseGo (f + 1) T.data.toList acc.length = .inl (4, none) := by rw [HZ.out, if_pos h60]
            have HZ2 := Lib.hid hz
            clear hz h60
            go_wp2_with fail
            go_ret2
            refine ⟨_, _, rfl, ?_, hb3⟩
            rw [HG.out, HZ2.out]
            exact ⟨rfl, rfl⟩
          · have f60 : ((acc.length : Int) == 60) = false := beq_eq_false_iff_ne.2 (by omega)
            have hz : parseGo (f + 1) T.data.toList acc.length = if right1 K.data.toList V.data.toList ≠ 0 then .inl (right1 K.data.toList V.data.toList, some acc.length) else pAcc [(K, V)] (parseGo f R.data.toList (acc.length + 1)) := by rw [HZ.out, if_neg h60]
            have HZ2 := Lib.hid hz
            have ha60 : acc.length < 60 := by omega
            clear hz h60
            have hK7 : psmall (K, V) := ⟨by show K.size ≤ _; omega, by show V.size ≤ _; omega⟩
            have HK7 := Lib.hid hK7
            clear hK7
            have hbw3 := hb3
            have hLw3 := hL.on hb3
            go_wp2_with fail
            refine (pRight_any [(K, V)] _ _ hsrd (by intro q hq; rw [List.mem_singleton] at hq; subst hq; exact HK7.out)).mono ?_
            rintro e w4 ⟨r4, rfl, he4, hb4⟩
            have hbw4 := below_step hbw3 hb4
            have hL4 := hLw3.on hb4
            have hone := pRightR_one (K, V)
            simp only at hone
            by_cases hr1 : right1 K.data.toList V.data.toList = 0
            · rw [hone, if_pos hr1] at he4
              obtain rfl : r4 = .nilIface := he4
              have hz : parseGo (f + 1) T.data.toList acc.length = pAcc [(K, V)] (parseGo f R.data.toList (acc.length + 1)) := by
                rw [HZ2.out, if_neg (by intro h; exact h hr1)]
              have HZ3 := Lib.hid hz
              have hrow4 : PRow w4 w.heap.size (.slice (some ⟨g, 0, none⟩) (acc.length + 1) cap3) (acc ++ [(K, V)]) := MRow.below hrow3 hb4 (Nat.le_refl _)
              clear hz hr1 hone hsrd
              go_wp2_with fail
              go_roundw
              case rel =>
                refine ⟨R, f, acc ++ [(K, V)], rfl, by omega, by omega, by rw [List.length_append, List.length_singleton]; omega, hrow4, ?_, hbw4⟩
                rw [HG.out, HZ3.out, pAcc_pAcc, List.length_append, List.length_singleton]
              case measure => simp only [strLen]; exact hRl
            · rw [hone, if_neg hr1] at he4
              obtain ⟨g4, hg4, rfl, hB4⟩ := he4
              have hz : parseGo (f + 1) T.data.toList acc.length = .inl (right1 K.data.toList V.data.toList, some acc.length) := by
                rw [HZ2.out, if_pos hr1]
              have HZ3 := Lib.hid hz
              obtain ⟨ec, hec⟩ : ∃ ec, right1 K.data.toList V.data.toList = ec := ⟨_, rfl⟩
              rw [hec] at HZ3 hB4
              clear hz hr1 hone hsrd hec
              go_wp2_with fail
              refine (tell_at g4 _ _ _ hL4 hB4).mono ?_
              rintro e w5 ⟨rfl, hb5⟩
              have hbw5 := below_step hbw4 hb5
              have hs5 := hbw5.size
              go_wp2_with fail
              go_ret2
              refine ⟨_, _, rfl, ?_, hbw5.alloc hs5 _⟩
              rw [HG.out, HZ3.out]
              exact ⟨rfl, w5.heap.size, hs5, rfl, Blk.new _ _ _⟩
end Go.Proofs.YtifniblffjgfkaaGreatDoor
