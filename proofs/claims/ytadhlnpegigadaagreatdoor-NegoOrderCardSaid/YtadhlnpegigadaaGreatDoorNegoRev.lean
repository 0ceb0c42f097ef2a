/- slices.Reverse of pairs. -/
import Derived.Test.YtadhlnpegigadaaGreatDoorNegoDelf
namespace Go.Proofs.YtadhlnpegigadaaGreatDoor
open Go.ChangeShapes Go.WideShapes Go.ChangeAt Go.RowKit Go.Shelf
set_option linter.unusedVariables false
structure RevI (l m : PairL) (i j : Nat) : Prop where
  len : m.length = l.length
  sum : i + j + 1 = l.length
  at_ : ∀ t, t < l.length → m[t]? = if t < i ∨ j < t then l[l.length - 1 - t]? else l[t]?
theorem RevI.start {l : PairL} (h : 0 < l.length) : RevI l l 0 (l.length - 1) :=
  ⟨rfl, by omega, fun t ht => by rw [if_neg (by omega)]⟩
theorem RevI.step {l m : PairL} {i j : Nat} {a b : ByteArray × ByteArray} (h : RevI l m i j) (hij : i < j) (ha : m[i]? = some a) (hb : m[j]? = some b) : RevI l ((m.set i b).set j a) (i + 1) (j - 1) := by
  have hs := h.sum
  have hl := h.len
  refine ⟨by simp [hl], by omega, fun t ht => ?_⟩
  have hai := h.at_ i (by omega)
  have hbj := h.at_ j (by omega)
  rw [if_neg (by omega)] at hai hbj
  by_cases h1 : t = j
  · subst h1
    rw [List.getElem?_set_self (by simp; omega), if_pos (by omega), show l.length - 1 - t = i by omega, ← hai, ha]
  · rw [List.getElem?_set_ne (fun e => h1 e.symm)]
    by_cases h2 : t = i
    · subst h2
      rw [List.getElem?_set_self (by omega), if_pos (by omega), show l.length - 1 - t = j by omega, ← hbj, hb]
    · rw [List.getElem?_set_ne (fun e => h2 e.symm), h.at_ t ht]
      by_cases h3 : t < i ∨ j < t
      · rw [if_pos h3, if_pos (by omega)]
      · rw [if_neg h3, if_neg (by omega)]
theorem RevI.done {l m : PairL} {i j : Nat} (h : RevI l m i j) (hij : ¬ i < j) : m = l.reverse := by
  have hs := h.sum
  have hl := h.len
  apply List.ext_getElem?
  intro t
  by_cases ht : t < l.length
  · rw [h.at_ t ht, List.getElem?_reverse ht]
    by_cases h3 : t < i ∨ j < t
    · rw [if_pos h3]
    · rw [if_neg h3]
      congr 1
      omega
  · rw [List.getElem?_eq_none (by omega), List.getElem?_eq_none (by simp; omega)]
theorem cells_two {w : World} {base g n cap : Nat} {m : PairL} {i : Nat} {r : ByteArray × ByteArray} (h : ORow w base (.slice (some ⟨g, 0, none⟩) n cap) m) (hr : m[i]? = some r) : w.cell? ⟨g, i * 2, none⟩ = some (.string r.1) ∧ w.cell? ⟨g, i * 2 + 1, none⟩ = some (.string r.2) ∧ w.frozen? ⟨g, i * 2, none⟩ = false ∧ w.frozen? ⟨g, i * 2 + 1, none⟩ = false :=
  ⟨(old_cells h hr).1, (old_cells h hr).2.1, (old_cells h hr).2.2.1, (old_cells h hr).2.2.2.1⟩
set_option maxRecDepth 20000 in
set_option maxHeartbeats 8000000 in
theorem rev_any (l : PairL) (v : Value) (base : Nat) (w : World) (hv : ORow w base v l) (hn : l.length * 32 ≤ 140737488351232) :
    Calls Tryz.prog 47 #[v] w fun e w' => ORow w' base v l.reverse ∧ w.grownBy w' v.ownBlock ∧ ∃ x, e = .returned x := by
  obtain ⟨A, cap, rfl⟩ := hv.form
  obtain ⟨N, hN⟩ : ∃ N, l.length = N := ⟨_, rfl⟩
  rcases Nat.eq_zero_or_pos N with h0 | hpos
  · have hl : l = [] := List.eq_nil_of_length_eq_zero (by omega)
    subst hl
    have HV := Lib.hid hv
    clear hv
    go_enter Tryz.func47, Tryz.ntmps47
    go_wp2_with fail
    go_loopw [2, 3] (fun s2 s3 wr => s2 = .int .i64 0 ∧ s3 = .int .i64 (-1) ∧ wr = w) (fun _ _ _ => 0)
    case atStart => exact ⟨rfl, rfl, rfl⟩
    case round =>
      obtain ⟨rfl, rfl, rfl⟩ := hrel
      go_wp2_with fail
      exact ⟨rfl, .tuple #[], by simp [results, Tryz.f47, go_sem], HV.out, grown_below' _ (Below.refl _ _), _, rfl⟩
  · obtain ⟨g, rfl⟩ : ∃ g, A = some ⟨g, 0, none⟩ := by
      rcases hv.2 with ⟨h0, _⟩ | ⟨g, _, _, h0, _⟩
      · injection h0 with _ h0 _; omega
      · injection h0 with h0 _ _; exact ⟨g, h0⟩
    have hI0 := RevI.start (l := l) (by omega)
    rw [hN] at hn hv hI0 ⊢
    have hgb : (Value.slice (some ⟨g, 0, none⟩) N cap).ownBlock = some g := rfl
    rw [hgb]
    have HN := Lib.hid hN
    have HI0 := Lib.hid hI0
    have HV := Lib.hid hv
    have hN1 : ((N : Int) - 1) = ((N - 1 : Nat) : Int) := by omega
    clear hN hI0 hv hgb
    go_enter Tryz.func47, Tryz.ntmps47
    go_wp2_with fail
    go_loopw [2, 3] (fun s2 s3 wr => ∃ (i j : Nat) (m : PairL), s2 = .int .i64 i ∧ s3 = .int .i64 j ∧ Hid (RevI l m i j) ∧ ORow wr base (.slice (some ⟨g, 0, none⟩) N cap) m ∧ w.grownBy wr (some g)) (fun _ j _ => (intOf j).toNat)
    case atStart => exact ⟨0, N - 1, l, rfl, by first | rfl | (rw [← hN1]), HI0.out, HV.out, grown_below' _ (Below.refl _ _)⟩
    case round =>
      clear hN1
      obtain ⟨i, j, m, rfl, rfl, hI, hO, hg⟩ := hrel
      have hsum := hI.out.sum
      have hml := hI.out.len
      rw [HN.out] at hsum hml
      by_cases hij : i < j
      · obtain ⟨a, ha⟩ : ∃ q, m[i]? = some q := ⟨_, List.getElem?_eq_getElem (by omega)⟩
        obtain ⟨b, hb⟩ : ∃ q, m[j]? = some q := ⟨_, List.getElem?_eq_getElem (by omega)⟩
        have hI2 := hI.out.step hij ha hb
        have hb2 : (m.set i b)[j]? = some b := by rw [List.getElem?_set_ne (by omega)]; exact hb
        obtain ⟨a1, a2⟩ := a
        obtain ⟨b1, b2⟩ := b
        have ca := cells_two hO ha
        have cb := cells_two hO hb
        have hO2 := hO.set i (b1, b2)
        have cc := cells_two hO2 hb2
        have hO3 := hO2.set j (a1, a2)
        have a5 := (old_cells hO ha).2.2.2.2.1 b1
        have a6 := (old_cells hO ha).2.2.2.2.2 b1
        have b5 := (old_cells hO2 hb2).2.2.2.2.1 a1
        have b6 := (old_cells hO2 hb2).2.2.2.2.2 a1
        obtain ⟨x0, x1, x2, x3⟩ := ca
        obtain ⟨y0, y1, y2, y3⟩ := cb
        obtain ⟨z0, z1, z2, z3⟩ := cc
        simp only at x0 x1 y0 y1 z0 z1 a5 b5
        have hg3 : w.grownBy _ (some g) := (((hg.trans (grown_put' (i * 2) (.string b1))).trans (grown_put' (i * 2 + 1) (.string b2))).trans (grown_put' (j * 2) (.string a1))).trans (grown_put' (j * 2 + 1) (.string a2))
        have HI2 := Lib.hid hI2
        have hijI : (i : Int) < (j : Int) := by omega
        have hjN : (j : Int) < (N : Int) := by omega
        have hiN : (i : Int) < (N : Int) := by omega
        have hj1 : ((j : Int) - 1) = ((j - 1 : Nat) : Int) := by omega
        have HJ1 := Lib.hid hj1
        clear ha hb hb2 hI2 hsum hml hj1
        go_wp2_with fail
        go_region
        have hO4 := hO3.drew
        have hg4 : w.grownBy ((((wr.setCell ⟨g, i * 2, none⟩ (.string b1)).setCell ⟨g, i * 2 + 1, none⟩ (.string b2)).setCell ⟨g, j * 2, none⟩ (.string a1)).setCell ⟨g, j * 2 + 1, none⟩ (.string a2)).drew (some g) := ⟨hg3.os, hg3.tape, hg3.output, hg3.size, hg3.block⟩
        go_wp2_with fail
        go_roundw
        case rel => exact ⟨i + 1, j - 1, _, by go_num, by first | (rw [← HJ1.out]) | (rw [HJ1.out]) | go_num, HI2.out, hO4, hg4⟩
        case measure => simp [intOf]; omega
      · have hrev := hI.out.done hij
        have hijI : ¬ (i : Int) < (j : Int) := by omega
        have HREV := Lib.hid hrev
        clear hrev
        go_wp2_with fail
        refine ⟨rfl, .tuple #[], by simp [results, Tryz.f47, go_sem], ?_, hg, _, rfl⟩
        rw [← HREV.out]
        exact hO
end Go.Proofs.YtadhlnpegigadaaGreatDoor
