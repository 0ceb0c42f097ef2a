/- No piece of additional headers is one: the walk. -/
import Derived.Test.YtddjpddafpfngaaDoorAhsBackW
import Derived.Test.YtddjpddafpfngaaDoorAhsCutP
import Derived.Test.YtddjpddafpfngaaDoorAhsJoinsP
import Derived.Test.YtddjpddafpfngaaDoorPlace
namespace Go.Proofs.YtddjpddafpfngaaDoor
open Go.ChangeShapes Go.WideShapes Go.ChangeAt Go.RowKit
set_option linter.unusedVariables false
theorem SRd.init {w : World} {l : AhsL} {p : Int × ByteArray} {A : Option Addr} {cap n : Nat} (hn : n = l.length) (h : SRd w (.slice A (l ++ [p]).length cap) 2 (l ++ [p]).length (ahsCells (l ++ [p]))) : SRd w (.slice A n cap) 2 l.length (ahsCells l) := by
  subst hn
  obtain ⟨h1, A', cap', hv, h2, h3, h4⟩ := h
  injection hv with e1 e2 e3
  subst e1; subst e3
  rw [List.length_append, List.length_singleton] at h2
  refine ⟨by rw [ahsCells_len]; omega, A, cap, rfl, by omega, h3, fun hpos => ?_⟩
  obtain ⟨b, o, hA, hb, hc⟩ := h4 (by simp)
  refine ⟨b, o, hA, hb, fun j u hu => hc j u ?_⟩
  rw [ahsCells_append, List.getElem?_append_left (List.getElem?_eq_some_iff.1 hu).1]
  exact hu
set_option maxRecDepth 20000 in
set_option maxHeartbeats 2000000 in
theorem cutAhs (l : AhsL) (v : Value) (at_ : Int) (w : World) (hv : SRd w v 2 l.length (ahsCells l)) (hb : ∀ q ∈ l, -9223372036854775808 ≤ q.1 ∧ q.1 ≤ 9223372036854775807) (hd : ∀ p ∈ l, p.2.size ≤ 140737488351232)
    (hz : -9223372036854775808 ≤ at_ ∧ at_ ≤ 9223372036854775807) (hL : LaidE w) (hS : w.ShapedOpen Tryd.prog) :
    Calls Tryd.prog 8 #[v, .int .i64 at_] w fun e w' => e = .returned (.bool true) ∧ Below w.heap.size w w' := by
  clear hS hb hz
  go_enter Tryd.func8, Tryd.ntmps8
  go_wp2_with fail
  refine (more_fact _ hL).mono ?_
  rintro e w1 ⟨rfl, hb1⟩
  have hL1 := hL.on hb1
  have hv1 := hv.on hb1
  go_wp2_with fail
  refine (wide_any l v _ hv1 hd).mono ?_
  rintro e w2 ⟨b, rfl, hb2⟩
  have hv2 := hv1.on hb2
  have hL2 := hL1.on hb2
  have hbw2 := below_step hb1 hb2
  cases b
  case true =>
    go_wp2_with fail
    go_ret
    exact ⟨rfl, hbw2⟩
  case false =>
    rcases split_last l with rfl | ⟨li, p, rfl⟩
    · obtain ⟨h1, A, cap, rfl, h2, h3, h4⟩ := hv2
      clear h1 h4 hv hv1
      go_wp2_with fail
      go_ret
      exact ⟨rfl, hbw2⟩
    · obtain ⟨h1, A, cap, rfl, h2, h3, h4⟩ := hv2
      have hv2 : SRd w2 (.slice A (li ++ [p]).length cap) 2 (li ++ [p]).length (ahsCells (li ++ [p])) := ⟨h1, A, cap, rfl, h2, h3, h4⟩
      have hln : (li ++ [p]).length = li.length + 1 := by simp
      have hv2 : SRd w2 (.slice A (li.length + 1) cap) 2 (li ++ [p]).length (ahsCells (li ++ [p])) := by rw [← hln]; exact hv2
      have hdi : ∀ q ∈ li, q.2.size ≤ 140737488351232 := fun q hq => hd q (by simp [hq])
      rw [hln] at h2 ⊢
      unfold maxLen at h3
      clear h1 h4 hv hv1
      rcases hr : rightGo (li ++ [p]) 0 0 with _ | r
      · have hri : rightGo li 0 0 = none := by
          rcases h : rightGo li 0 0 with _ | r
          · rfl
          · rw [right_append_some li [p] r 0 0 h] at hr; cases hr
        obtain ⟨hall, hsum⟩ := right_none _ 0 0 (by omega) hr
        have HN := Lib.hid hr
        have HNi := Lib.hid hri
        clear hr hri
        go_wp2_with fail
        refine (ahsWrite_ok (li ++ [p]) _ _ hv2 hd HN.out).mono ?_
        rintro e w3 ⟨rfl, hb3⟩
        have hv3 := (hv2.on hb3)
        have hL3 := hL2.on hb3
        have hbw3 := below_step hbw2 hb3
        obtain ⟨S, hSe⟩ : ∃ S : ByteArray, S = ⟨(ahsB (li ++ [p])).toArray⟩ := ⟨_, rfl⟩
        rw [← hSe]
        have HSe := Lib.hid hSe
        clear hv2 hSe
        go_wp2_with fail
        refine (ahsWrite_ok li _ _ (SRd.init rfl (by rw [← hln] at hv3; exact hv3)) hdi HNi.out).mono ?_
        rintro e w4 ⟨rfl, hb4⟩
        have hL4 := hL3.on hb4
        have hbw4 := below_step hbw3 hb4
        obtain ⟨T, hTe⟩ : ∃ T : ByteArray, T = ⟨(ahsB li).toArray⟩ := ⟨_, rfl⟩
        rw [← hTe]
        have hSe := HSe.out
        have hSz : S.size = (ahsB (li ++ [p])).length := by rw [hSe]; rfl
        have hTz : T.size = (ahsB li).length := by rw [hTe]; rfl
        have hST : S.size = T.size + (ahsB1 p).length := by rw [hSz, hTz, ahsB_snoc, List.length_append]
        have hS1 : S.size ≤ 1020 := by rw [hSz, ahsB_len]; omega
        have hp1 : 3 ≤ (ahsB1 p).length := by rw [ahsB1_len]; unfold ahsLen; omega
        have hlt : T.size < S.size := by omega
        have hpk := pick_rng at_ ((S.size : Int) - T.size) (by omega)
        obtain ⟨d, hd0⟩ := Int.eq_ofNat_of_zero_le hpk.1
        rw [hd0] at hpk
        have hle : T.size + 1 + d ≤ S.size := by omega
        have hrd : readGo 1021 (S.extract 0 (T.size + 1 + d)).data.toList 0 = if T.size + 1 + d = S.size then .inr (li ++ [p]) else .inl (7, T.size) := by
          have e1 : (S.extract 0 (T.size + 1 + d)).data.toList = (ahsB (li ++ [p])).take ((ahsB li).length + (1 + d)) := by
            rw [ext_of, hSe, ← hTz]
            show ((ahsB (li ++ [p])).drop 0).take _ = _
            rw [List.drop_zero]
            congr 1
            omega
          rw [e1]
          by_cases h : T.size + 1 + d = S.size
          · rw [if_pos h, List.take_of_length_le (by omega)]
            exact readGo_ahsB _ _ _ hall (by omega)
          · rw [if_neg h, hTz]
            exact read_cut li p (1 + d) (fun q hq => hall q (by simp [hq])) (hall p (by simp)).2.2 (by omega) (by omega) (by omega)
        have HR := Lib.hid hrd
        have HD := Lib.hid hd0
        clear hrd hd0 hSe hTe hSz hTz hST hp1 hv3
        go_wp2_with fail
        refine (pick_any _ _ _ (by omega) (by omega)).mono ?_
        rintro e w' ⟨rfl, rfl⟩
        rw [HD.out]
        go_wp2_with fail
        refine (ahsRead_any _ _ hL4 (by rw [ByteArray.size_extract]; omega)).mono ?_
        rintro e w5 ⟨r, er, rfl, hr5, hb5⟩
        have hL5 := hL4.on hb5
        have hbw5 := below_step hbw4 hb5
        by_cases h : T.size + 1 + d = S.size
        · rw [HR.out, if_pos h] at hr5
          obtain ⟨rfl, hr5⟩ := hr5
          have hk : (((T.size : Int) + 1 + d) == (S.size : Int)) = true := beq_iff_eq.2 (by omega)
          clear hr5 h
          go_wp2_with fail
          refine (place_nil _).mono ?_
          rintro e w' ⟨rfl, rfl⟩
          go_wp2_with fail
          go_ret
          exact ⟨rfl, hbw5⟩
        · rw [HR.out, if_neg h] at hr5
          obtain ⟨rfl, hr5⟩ := hr5
          obtain ⟨g, hg, rfl, hB⟩ := errAt_some hr5
          have hk : (((T.size : Int) + 1 + d) == (S.size : Int)) = false := beq_eq_false_iff_ne.2 (by omega)
          clear hr5 h
          go_wp2_with fail
          refine (place_at g _ _ _ hL5 hB).mono ?_
          rintro e w6 ⟨rfl, hb6⟩
          have hbw6 := below_step hbw5 hb6
          go_wp2_with fail
          go_ret
          exact ⟨by simp, hbw6⟩
      · have HN := Lib.hid hr
        clear hr
        go_wp2_with fail
        refine (ahsWrite_bad (li ++ [p]) _ _ hv2 hd _ HN.out).mono ?_
        rintro e w3 ⟨er, rfl, her, hb3⟩
        obtain ⟨g3, hg3, rfl, hB3⟩ := errAt_some her
        have hv3 := (hv2.on hb3)
        have hbw3 := below_step hbw2 hb3
        clear hv2 her
        rcases hri : rightGo li 0 0 with _ | ri
        · have HNi := Lib.hid hri
          clear hri
          go_wp2_with fail
          refine (ahsWrite_ok li _ _ (SRd.init rfl (by rw [← hln] at hv3; exact hv3)) hdi HNi.out).mono ?_
          rintro e w4 ⟨rfl, hb4⟩
          have hbw4 := below_step hbw3 hb4
          go_wp2_with fail
          go_ret
          exact ⟨rfl, hbw4⟩
        · have HNi := Lib.hid hri
          clear hri
          go_wp2_with fail
          refine (ahsWrite_bad li _ _ (SRd.init rfl (by rw [← hln] at hv3; exact hv3)) hdi _ HNi.out).mono ?_
          rintro e w4 ⟨er, rfl, her, hb4⟩
          obtain ⟨g4, hg4, rfl, hB4⟩ := errAt_some her
          have hbw4 := below_step hbw3 hb4
          go_wp2_with fail
          go_ret
          exact ⟨rfl, hbw4⟩
end Go.Proofs.YtddjpddafpfngaaDoor
