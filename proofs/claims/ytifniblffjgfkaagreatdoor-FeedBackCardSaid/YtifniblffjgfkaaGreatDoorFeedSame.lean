/- Rows of pieces that are read, and slices.EqualFunc of two that are the same. -/
import Derived.Test.YtifniblffjgfkaaGreatDoorFeedRow
import Derived.Test.YtifniblffjgfkaaGreatDoorGpdub
namespace Go.Proofs.YtifniblffjgfkaaGreatDoor
open Go.ChangeShapes Go.WideShapes Go.ChangeAt Go.RowKit Go.Shelf
set_option linter.unusedVariables false
def PartRd (w : World) (x : Pc × Part) : Prop := SRd w (.slice x.2.A x.1.vals.length x.2.cap) 1 x.1.vals.length (x.1.vals.map u64V) ∧ SRd w (.slice x.2.B x.1.al.length x.2.bcap) 2 x.1.al.length (ahsCells x.1.al)
def PcsRd (w : World) (v : Value) (ps : List Pc) : Prop := ∃ L : List (Pc × Part), L.map (·.1) = ps ∧ SRd w v 7 L.length (rowC L) ∧ ∀ x ∈ L, PartRd w x
theorem PartRd.on {w w' : World} {x : Pc × Part} (h : PartRd w x) (hb : Below w.heap.size w w') : PartRd w' x := ⟨h.1.on hb, h.2.on hb⟩
theorem PcsRd.on {w w' : World} {v : Value} {ps : List Pc} (h : PcsRd w v ps) (hb : Below w.heap.size w w') : PcsRd w' v ps := by
  obtain ⟨L, h1, h2, h3⟩ := h
  exact ⟨L, h1, h2.on hb, fun x hx => (h3 x hx).on hb⟩
theorem PcsAt.rd {w : World} {base : Nat} {v : Value} {ps : List Pc} (h : PcsAt w base v ps) : PcsRd w v ps := by
  obtain ⟨L, h1, h2, h3⟩ := h
  exact ⟨L, h1, SRd.of_m (MRow.of_own h2), fun x hx => ⟨(h3 x hx).1, (h3 x hx).2.1⟩⟩
theorem rowC_at : ∀ (L : List (Pc × Part)) (k j : Nat) (x : Pc × Part), L[k]? = some x → j < 7 → (rowC L)[k * 7 + j]? = (pcC x.1 x.2.A x.2.B x.2.cap x.2.bcap)[j]?
  | [], k, j, x, h, hj => by simp at h
  | y :: L, 0, j, x, h, hj => by
    simp only [List.getElem?_cons_zero, Option.some.injEq] at h
    subst h
    rw [rowC, Nat.zero_mul, Nat.zero_add, List.getElem?_append_left (by show j < 7; exact hj)]
    exact Array.getElem?_toList
  | y :: L, k + 1, j, x, h, hj => by
    rw [rowC, List.getElem?_append_right (by show 7 ≤ (k + 1) * 7 + j; omega)]
    have e : (k + 1) * 7 + j - (pcC y.1 y.2.A y.2.B y.2.cap y.2.bcap).toList.length = k * 7 + j := by show (k + 1) * 7 + j - 7 = _; omega
    rw [e]
    exact rowC_at L k j x (by simpa using h) hj
theorem SRd.piece {w : World} {v : Value} {L : List (Pc × Part)} {k : Nat} {x : Pc × Part} (h : SRd w v 7 L.length (rowC L)) (hx : L[k]? = some x) : ∃ b o cap, v = .slice (some ⟨b, o, none⟩) L.length cap ∧ b < w.heap.size ∧
    w.cell? ⟨b, o + k * 7, none⟩ = some (.int .i64 x.1.op) ∧ w.cell? ⟨b, o + k * 7 + 1, none⟩ = some (.bool x.1.now) ∧ w.cell? ⟨b, o + k * 7 + 2, none⟩ = some (.int .i64 x.1.fl) ∧ w.cell? ⟨b, o + k * 7 + 3, none⟩ = some (.slice x.2.A x.1.vals.length x.2.cap) ∧
    w.cell? ⟨b, o + k * 7 + 4, none⟩ = some (.slice x.2.B x.1.al.length x.2.bcap) ∧ w.cell? ⟨b, o + k * 7 + 5, none⟩ = some (.string ⟨x.1.data.toArray⟩) ∧ w.cell? ⟨b, o + k * 7 + 6, none⟩ = some (.string ⟨x.1.sp.toArray⟩) := by
  have hk : k < L.length := (List.getElem?_eq_some_iff.1 hx).1
  obtain ⟨h1, A, cap, hv, h2, h3, h4⟩ := h
  obtain ⟨b, o, rfl, hb, hc⟩ := h4 (by omega)
  have e : ∀ j, j < 7 → w.cell? ⟨b, o + (k * 7 + j), none⟩ = (pcC x.1 x.2.A x.2.B x.2.cap x.2.bcap)[j]? := by
    intro j hj
    have h7 := rowC_at L k j x hx hj
    rcases hu : (pcC x.1 x.2.A x.2.B x.2.cap x.2.bcap)[j]? with _ | u
    · have : (pcC x.1 x.2.A x.2.B x.2.cap x.2.bcap).size = 7 := rfl
      rw [Array.getElem?_eq_none_iff] at hu
      omega
    · exact hc _ _ (h7.trans hu)
  exact ⟨b, o, cap, hv, hb, e 0 (by omega), e 1 (by omega), e 2 (by omega), e 3 (by omega), e 4 (by omega), e 5 (by omega), e 6 (by omega)⟩
set_option maxRecDepth 20000 in
set_option maxHeartbeats 2000000 in
theorem cutsf_yes (op : Nat) (now : Bool) (fl : Nat) (vals : List Nat) (l : AhsL) (A A2 B B2 : Option Addr) (cap cap2 bcap bcap2 : Nat) (s t : ByteArray) (w : World) (hx : SRd w (.slice A vals.length cap) 1 vals.length (vals.map u64V)) (hy : SRd w (.slice A2 vals.length cap2) 1 vals.length (vals.map u64V))
    (hu : SRd w (.slice B l.length bcap) 2 l.length (ahsCells l)) (hv : SRd w (.slice B2 l.length bcap2) 2 l.length (ahsCells l)) :
    Calls Tryz.prog 32 #[.agg #[.int .i64 op, .bool now, .int .i64 fl, .slice A vals.length cap, .slice B l.length bcap, .string s, .string t], .agg #[.int .i64 op, .bool now, .int .i64 fl, .slice A2 vals.length cap2, .slice B2 l.length bcap2, .string s, .string t]] w
      fun e w' => e = .returned (.bool true) ∧ Below w.heap.size w w' := by
  have hb0 : Below w.heap.size w ((w.alloc (.cells #[.int .i64 op, .bool now, .int .i64 fl, .slice A vals.length cap, .slice B l.length bcap, .string s, .string t] 40)).alloc (.cells #[.int .i64 op, .bool now, .int .i64 fl, .slice A2 vals.length cap2, .slice B2 l.length bcap2, .string s, .string t] 40)) := ((Below.refl _ _).alloc (Nat.le_refl _) _).alloc (by simp) _
  have e1 : (t.toList == t.toList) = true := by simp
  go_enter Tryz.func32, Tryz.ntmps32
  go_wp2_with fail
  obtain ⟨w0, hw0⟩ : ∃ w0 : World, (w.alloc (.cells #[.int .i64 op, .bool now, .int .i64 fl, .slice A vals.length cap, .slice B l.length bcap, .string s, .string t] 40)).alloc (.cells #[.int .i64 op, .bool now, .int .i64 fl, .slice A2 vals.length cap2, .slice B2 l.length bcap2, .string s, .string t] 40) = w0 := ⟨_, rfl⟩
  rw [hw0] at hb0 ⊢
  refine (samePdu_yes op now fl vals l _ _ _ _ s _ (hx.on hb0) (hy.on hb0) (hu.on hb0) (hv.on hb0)).mono ?_
  rintro e w1 ⟨rfl, hb1⟩
  go_wp2_with fail
  go_ret
  exact ⟨rfl, below_step hb0 hb1⟩
set_option maxRecDepth 20000 in
set_option maxHeartbeats 2000000 in
theorem eqf_pieces (ps : List Pc) (x y : Value) (w : World) (hx : PcsRd w x ps) (hy : PcsRd w y ps) (hl : ps.length ≤ 1000000) :
    Calls Tryz.prog 31 #[x, y, .func (.func 32) #[] #[]] w fun e w' => e = .returned (.bool true) ∧ Below w.heap.size w w' := by
  obtain ⟨L, hL1, hL2, hL3⟩ := hx
  obtain ⟨M, hM1, hM2, hM3⟩ := hy
  obtain ⟨N, hN⟩ : ∃ N, ps.length = N := ⟨_, rfl⟩
  have hLN : L.length = N := by rw [← hN, ← hL1, List.length_map]
  have hMN : M.length = N := by rw [← hN, ← hM1, List.length_map]
  have hN6 : N ≤ 1000000 := by omega
  obtain ⟨A, cap, rfl⟩ : ∃ A cap, x = .slice A L.length cap := by obtain ⟨_, A, cap, hv, _⟩ := hL2; exact ⟨A, cap, hv⟩
  obtain ⟨A2, cap2, rfl⟩ : ∃ A cap, y = .slice A M.length cap := by obtain ⟨_, A, cap, hv, _⟩ := hM2; exact ⟨A, cap, hv⟩
  rw [hLN, hMN]
  have HL1 := Lib.hid hL1
  have HM1 := Lib.hid hM1
  have HL2 := Lib.hid hL2
  have HM2 := Lib.hid hM2
  have HL3 := Lib.hid hL3
  have HM3 := Lib.hid hM3
  have HLN := Lib.hid hLN
  have HMN := Lib.hid hMN
  clear hL1 hM1 hL2 hM2 hL3 hM3 hLN hMN hN hl
  go_enter Tryz.func31, Tryz.ntmps31
  go_wp2_with fail
  go_loopw [17] (fun i wr => ∃ k : Nat, k ≤ N ∧ i = .int .i64 k ∧ Below w.heap.size w wr) (fun i _ => N - (intOf i).toNat)
  case atStart => exact ⟨0, Nat.zero_le _, rfl, Below.refl _ _⟩
  case round =>
    obtain ⟨k, hk, rfl, hbw⟩ := hrel
    by_cases hlt : k < N
    · obtain ⟨p, hp⟩ : ∃ p, L[k]? = some p := ⟨_, List.getElem?_eq_getElem (by rw [HLN.out]; exact hlt)⟩
      obtain ⟨q, hq⟩ : ∃ q, M[k]? = some q := ⟨_, List.getElem?_eq_getElem (by rw [HMN.out]; exact hlt)⟩
      have hpq : p.1 = q.1 := by
        have h1 : (L.map (·.1))[k]? = some p.1 := by rw [List.getElem?_map, hp]; rfl
        have h2 : (M.map (·.1))[k]? = some q.1 := by rw [List.getElem?_map, hq]; rfl
        rw [HL1.out] at h1
        rw [HM1.out] at h2
        exact Option.some.inj (h1.symm.trans h2)
      obtain ⟨b, o, cp, hv, hbl, c0, c1, c2, c3, c4, c5, c6⟩ := (HL2.out.on hbw).piece hp
      obtain ⟨b2, o2, cp2, hv2, hbl2, d0, d1, d2, d3, d4, d5, d6⟩ := (HM2.out.on hbw).piece hq
      injection hv with hA _ hc1
      injection hv2 with hA2 _ hc2
      subst hA
      subst hA2
      subst hc1
      subst hc2
      have hP := (HL3.out p (List.mem_of_getElem? hp)).on hbw
      have hQ := (HM3.out q (List.mem_of_getElem? hq)).on hbw
      obtain ⟨p, P⟩ := p
      obtain ⟨q, Q⟩ := q
      obtain rfl : p = q := hpq
      obtain ⟨op, now, fl, vals, al, data, sp⟩ := p
      obtain ⟨PA, pcap, PB, pbcap⟩ := P
      obtain ⟨QA, qcap, QB, qbcap⟩ := Q
      obtain ⟨X, hX⟩ : ∃ X : ByteArray, (⟨data.toArray⟩ : ByteArray) = X := ⟨_, rfl⟩
      obtain ⟨Y, hY⟩ : ∃ Y : ByteArray, (⟨sp.toArray⟩ : ByteArray) = Y := ⟨_, rfl⟩
      simp only at c0 c1 c2 c3 c4 c5 c6 d0 d1 d2 d3 d4 d5 d6 hP hQ
      obtain ⟨hP1, hP2⟩ := hP
      obtain ⟨hQ1, hQ2⟩ := hQ
      simp only at hP1 hP2 hQ1 hQ2
      rw [hX] at c5 d5
      rw [hY] at c6 d6
      clear hp hq hX hY
      go_wp2_with fail
      have hb2 : Below wr.heap.size wr ((wr.alloc (.cells #[.int .i64 op, .bool now, .int .i64 fl, .slice PA vals.length pcap, .slice PB al.length pbcap, .string X, .string Y] 40)).alloc (.cells #[.int .i64 op, .bool now, .int .i64 fl, .slice QA vals.length qcap, .slice QB al.length qbcap, .string X, .string Y] 40)) := ((Below.refl _ _).alloc (Nat.le_refl _) _).alloc (by simp) _
      refine (cutsf_yes op now fl vals al PA QA PB QB pcap qcap pbcap qbcap X Y _ (hP1.on hb2) (hQ1.on hb2) (hP2.on hb2) (hQ2.on hb2)).mono ?_
      rintro e w1 ⟨rfl, hb1⟩
      go_wp2_with fail
      go_roundw
      case rel => exact ⟨k + 1, by omega, by go_num, below_step hbw (below_step hb2 hb1)⟩
      case measure => simp [intOf]; omega
    · go_wp2_with fail
      go_ret
      exact ⟨rfl, hbw⟩
end Go.Proofs.YtifniblffjgfkaaGreatDoor
