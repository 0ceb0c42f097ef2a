/- The walks of the laws PairsOnly, PairsLong, PairsCut, PairsBack. -/
import Derived.Test.YthfibnoekfkamaaDoorPairsFind
import Derived.Test.YthfibnoekfkamaaDoorPairsLaw
import Derived.Test.YthfibnoekfkamaaDoorOpenPairs
import Derived.Test.YthfibnoekfkamaaDoorPlace
namespace Go.Proofs.YthfibnoekfkamaaDoor
open Go.ChangeShapes Go.WideShapes Go.ChangeAt Go.RowKit
set_option linter.unusedVariables false
theorem parse_c : ∀ (f : Nat) (s : List UInt8) (i c : Nat), parseGo f s i = .inl (c, none) → c = 4
  | 0, s, i, c, h => by cases h
  | f + 1, s, i, c, h => by
    rw [parseGo] at h
    split at h
    · cases h
    · split at h
      · cases h
      · split at h
        · cases h
        · split at h
          · cases h; rfl
          · split at h
            · cases h
            · split at h
              · rename_i e he
                cases h
                exact parse_c f _ _ _ he
              · cases h
theorem right_c {l : PairL} {c : Nat} (h : pRightR l = some (c, none)) : c = 4 := by
  unfold pRightR at h
  split at h
  · cases h; rfl
  · rcases hp : pRightGo l 0 with _ | ⟨a, b⟩ <;> rw [hp] at h <;> cases h
theorem PErr.iface {w : World} {base : Nat} {er : Value} {c : Nat} {o : Option Nat} (h : PErr w base er (some (c, o))) (hc : o = none → c = 4) : ∃ t x, er = .iface t x := by
  rcases o with _ | p
  · obtain rfl := hc rfl
    exact ⟨_, _, h⟩
  · obtain ⟨g, _, h, _⟩ := h
    exact ⟨_, _, h⟩
set_option maxRecDepth 20000 in
set_option maxHeartbeats 4000000 in
theorem onlyPairs (s : ByteArray) (w : World) (hs : s.size ≤ 140737488351232) (hL : LaidE w) (hS : w.ShapedOpen Tryd.prog) :
    Calls Tryd.prog 3 #[.string s] w fun e w' => e = .returned (.bool true) ∧ Below w.heap.size w w' := by
  go_enter Tryd.func3, Tryd.ntmps3
  go_wp2_with fail
  refine (paired_fact _ hL hS).mono ?_
  rintro e w1 ⟨rfl, hb1⟩
  have hL1 := hL.on hb1
  have hS1 := shaped_on hS hb1
  by_cases h3 : 2000 < s.size
  · go_wp2_with fail
    go_ret
    exact ⟨rfl, hb1⟩
  go_wp2_with fail
  refine (parse_any s _ hL1 hS1 (by omega)).mono ?_
  rintro e w2 ⟨r, er, rfl, hr, hb2⟩
  have hbw2 := below_step hb1 hb2
  rcases hgo : parseGo (s.size + 1) s.data.toList 0 with ⟨c, o⟩ | l
  · rw [hgo] at hr
    obtain ⟨rfl, he⟩ := hr
    obtain ⟨t, x, rfl⟩ := he.iface (fun h => by subst h; exact parse_c _ _ _ _ hgo)
    clear hgo he
    go_wp2_with fail
    go_ret
    exact ⟨rfl, hbw2⟩
  · rw [hgo] at hr
    obtain ⟨rfl, hr⟩ := hr
    obtain ⟨k1, k2, k3⟩ := parse_ok _ _ _ _ (by rw [len_of]; omega) (by omega) hgo
    have hn : pRightR l = none := pRight_ok (by omega) k2
    have hd : ∀ p ∈ l, psmall p := by
      intro p hp
      obtain ⟨a, b⟩ := k2 p hp
      have a := keyB_len a
      have b := valB_len b
      rw [len_of] at a b
      exact ⟨by omega, by omega⟩
    have hrd := SRd.of_m hr
    have HN := Lib.hid hn
    have HK := Lib.hid k1
    clear hgo hn k1 hr
    go_wp2_with fail
    refine (print_ok l r _ hrd hd HN.out).mono ?_
    rintro e w3 ⟨rfl, hb3⟩
    rw [HK.out, ← str_of]
    have hrd3 := hrd.on hb3
    have hbw3 := below_step hbw2 hb3
    go_wp2_with fail
    refine (pRight_any l r _ hrd3 hd).mono ?_
    rintro e w4 ⟨r4, rfl, he4, hb4⟩
    rw [HN.out] at he4
    obtain rfl : r4 = .nilIface := he4
    have hbw4 := below_step hbw3 hb4
    go_wp2_with fail
    go_ret
    exact ⟨rfl, hbw4⟩
set_option maxRecDepth 20000 in
set_option maxHeartbeats 4000000 in
theorem backPairs (l : PairL) (v : Value) (w : World) (hv : SRd w v 2 l.length (pairCells l)) (hd : ∀ p ∈ l, psmall p) (hL : LaidE w) (hS : w.ShapedOpen Tryd.prog) :
    Calls Tryd.prog 11 #[v] w fun e w' => e = .returned (.bool true) ∧ Below w.heap.size w w' := by
  go_enter Tryd.func11, Tryd.ntmps11
  go_wp2_with fail
  refine (paired_fact _ hL hS).mono ?_
  rintro e w1 ⟨rfl, hb1⟩
  have hv1 := hv.on hb1
  go_wp2_with fail
  refine (thick_any l v _ hv1 hd).mono ?_
  rintro e w2 ⟨b, rfl, hb2⟩
  have hv2 := hv1.on hb2
  have hbw2 := below_step hb1 hb2
  cases b
  case true =>
    go_wp2_with fail
    go_ret
    exact ⟨rfl, hbw2⟩
  case false =>
    clear hv hv1
    rcases hr : pRightR l with _ | ⟨c, o⟩
    · obtain ⟨h60, hall⟩ := pRight_none hr
      have hlen := pairsB_len_le l hall
      have hp := parse_pairsB l ((pairsB l).length + 1) hall h60 (by omega)
      have hcnt := count_pairsB l hall
      have HN := Lib.hid hr
      have HP := Lib.hid hp
      have HCNT := Lib.hid hcnt
      clear hr hp hall hcnt
      go_wp2_with fail
      refine (print_ok l v _ hv2 hd HN.out).mono ?_
      rintro e w3 ⟨rfl, hb3⟩
      have hv3 := hv2.on hb3
      have hbw3 := below_step hbw2 hb3
      obtain ⟨S, hS0⟩ : ∃ S : ByteArray, S = ⟨(pairsB l).toArray⟩ := ⟨_, rfl⟩
      rw [← hS0]
      have hSl : S.data.toList = pairsB l := by rw [hS0]
      have hSz : S.size ≤ 20000 := by rw [hS0, size_mkl]; omega
      have hSe : S.size = (pairsB l).length := by rw [hS0]; rfl
      have HSL := Lib.hid hSl
      have HSE := Lib.hid hSe
      clear hS0 hSl hSe
      go_wp2_with fail
      refine (pRight_any l v _ hv3 hd).mono ?_
      rintro e w4 ⟨r4, rfl, he4, hb4⟩
      rw [HN.out] at he4
      obtain rfl : r4 = .nilIface := he4
      have hv4 := hv3.on hb4
      have hbw4 := below_step hbw3 hb4
      go_wp2_with fail
      refine (parse_any S _ (hL.on hbw4) (shaped_on hS hbw4) (by omega)).mono ?_
      rintro e w5 ⟨r, er, rfl, hr5, hb5⟩
      rw [HSL.out, HSE.out, HP.out] at hr5
      obtain ⟨rfl, hr5⟩ := hr5
      have hv5 := hv4.on hb5
      have hbw5 := below_step hbw4 hb5
      have hr6 := SRd.of_m hr5
      obtain ⟨h1, A, cap, rfl, h2, h3, h4⟩ := hv5
      have hv5 : SRd w5 (.slice A l.length cap) 2 l.length (pairCells l) := ⟨h1, A, cap, rfl, h2, h3, h4⟩
      clear h1 h4
      go_wp2_with fail
      refine (pequal_same l _ r _ hv5 hr6).mono ?_
      rintro e w6 ⟨rfl, kq, rfl⟩
      go_wp2_with fail
      refine (Tryd.strings_Count_one S 0 _).mono ?_
      rintro e w7 ⟨rfl, rfl⟩
      rw [HSL.out, Lib.countByte, HCNT.out]
      go_wp2_with fail
      go_ret
      exact ⟨by simp, below_drewN hbw5 kq⟩
    · have HN := Lib.hid hr
      clear hr
      go_wp2_with fail
      refine (print_bad l v _ hv2 hd _ HN.out).mono ?_
      rintro e w3 ⟨er, rfl, her, hb3⟩
      obtain ⟨t, x, rfl⟩ := her.iface (fun h => by subst h; exact right_c HN.out)
      have hv3 := hv2.on hb3
      have hbw3 := below_step hbw2 hb3
      clear her
      go_wp2_with fail
      refine (pRight_any l v _ hv3 hd).mono ?_
      rintro e w4 ⟨r4, rfl, he4, hb4⟩
      rw [HN.out] at he4
      obtain ⟨t4, x4, rfl⟩ := he4.iface (fun h => by subst h; exact right_c HN.out)
      have hbw4 := below_step hbw3 hb4
      clear he4
      go_wp2_with fail
      go_ret
      exact ⟨rfl, hbw4⟩
theorem pInit {w : World} {l : PairL} {p : ByteArray × ByteArray} : (l ++ [p]).length = l.length + 1 := by simp
set_option maxRecDepth 20000 in
set_option maxHeartbeats 4000000 in
theorem cutPairs (l : PairL) (v : Value) (w : World) (hv : SRd w v 2 l.length (pairCells l)) (hd : ∀ p ∈ l, psmall p) (hL : LaidE w) (hS : w.ShapedOpen Tryd.prog) :
    Calls Tryd.prog 7 #[v] w fun e w' => e = .returned (.bool true) ∧ Below w.heap.size w w' := by
  go_enter Tryd.func7, Tryd.ntmps7
  go_wp2_with fail
  refine (paired_fact _ hL hS).mono ?_
  rintro e w1 ⟨rfl, hb1⟩
  have hv1 := hv.on hb1
  go_wp2_with fail
  refine (thick_any l v _ hv1 hd).mono ?_
  rintro e w2 ⟨b, rfl, hb2⟩
  have hv2 := hv1.on hb2
  have hbw2 := below_step hb1 hb2
  cases b
  case true =>
    go_wp2_with fail
    go_ret
    exact ⟨rfl, hbw2⟩
  case false =>
    clear hv hv1
    obtain ⟨h1, A, cap, rfl, h2, h3, h4⟩ := hv2
    by_cases h0 : l.length = 0
    · have f0 : ((l.length : Int) == 0) = true := beq_iff_eq.2 (by omega)
      clear h1 h4
      go_wp2_with fail
      go_ret
      exact ⟨rfl, hbw2⟩
    · have f0 : ((l.length : Int) == 0) = false := beq_eq_false_iff_ne.2 (by omega)
      have hv2 : SRd w2 (.slice A l.length cap) 2 l.length (pairCells l) := ⟨h1, A, cap, rfl, h2, h3, h4⟩
      unfold maxLen at h3
      clear h1 h4
      go_wp2_with fail
      refine (pRight_any l _ _ hv2 hd).mono ?_
      rintro e w3 ⟨r3, rfl, he3, hb3⟩
      have hv3 := hv2.on hb3
      have hbw3 := below_step hbw2 hb3
      rcases hr : pRightR l with _ | ⟨c, o⟩
      · rw [hr] at he3
        obtain rfl : r3 = .nilIface := he3
        obtain ⟨h60, hall⟩ := pRight_none hr
        have hlen := pairsB_len_le l hall
        have HN := Lib.hid hr
        have hcut : ∀ k, (pairsB l).length - 1 < k → parseGo k ((pairsB l).take ((pairsB l).length - 1)) 0 = .inl (7, some (l.length - 1)) := by
          intro k hk
          rcases List.eq_nil_or_concat l with rfl | ⟨li, p, e⟩
          · simp at h0
          · rw [List.concat_eq_append] at e
            subst e
            have hz : 2 ≤ (pairsB (li ++ [p])).length := by rw [pairsB_snoc, List.length_append, pairB_len]; omega
            rw [parse_cutoff li p k hall (by simpa using h60) (by omega)]
            simp
        have hpos : 2 ≤ (pairsB l).length := by
          rcases l with _ | ⟨p, l⟩
          · simp at h0
          · show 2 ≤ (pairB p ++ pairsB l).length
            rw [List.length_append, pairB_len]; omega
        have HCUT := Lib.hid hcut
        clear hr hall hcut
        go_wp2_with fail
        refine (print_ok l _ _ hv3 hd HN.out).mono ?_
        rintro e w4 ⟨rfl, hb4⟩
        have hbw4 := below_step hbw3 hb4
        obtain ⟨S, hS0⟩ : ∃ S : ByteArray, S = ⟨(pairsB l).toArray⟩ := ⟨_, rfl⟩
        rw [← hS0]
        have hSz : S.size ≤ 20000 := by rw [hS0, size_mkl]; omega
        have hS2 : 2 ≤ S.size := by rw [hS0, size_mkl]; omega
        have hSx : (S.extract 0 (S.size - 1)).data.toList = (pairsB l).take ((pairsB l).length - 1) := by
          rw [ext_of, hS0, size_mkl]; simp
        have hSe : (S.extract 0 (S.size - 1)).size = (pairsB l).length - 1 := by
          rw [ByteArray.size_extract, hS0, size_mkl]; omega
        have hne : S.data.toList ≠ [] := by
          intro h
          have := len_of S
          rw [h] at this
          simp at this
          omega
        have f1 : (S.toList == []) = false := by rw [toList_of]; simpa using hne
        have f2 : S.toList.isEmpty = false := by rw [toList_of]; simpa using hne
        have HSX := Lib.hid hSx
        have HSE := Lib.hid hSe
        clear hS0 hSx hSe hne
        go_wp2_with fail
        refine (parse_any _ _ (hL.on hbw4) (shaped_on hS hbw4) (by rw [HSE.out]; omega)).mono ?_
        rintro e w5 ⟨r, er, rfl, hr5, hb5⟩
        rw [HSX.out, HCUT.out _ (by rw [HSE.out]; omega)] at hr5
        obtain ⟨rfl, g, hg, rfl, hB⟩ := hr5
        have hbw5 := below_step hbw4 hb5
        go_wp2_with fail
        refine (place_at g _ _ _ (hL.on hbw5) hB).mono ?_
        rintro e w6 ⟨rfl, hb6⟩
        have hbw6 := below_step hbw5 hb6
        have f3 : (((l.length - 1 : Nat) : Int) == (l.length : Int) - 1) = true := beq_iff_eq.2 (by omega)
        go_wp2_with fail
        go_ret
        exact ⟨by simp, hbw6⟩
      · rw [hr] at he3
        obtain ⟨t, x, rfl⟩ := he3.iface (fun h => by subst h; exact right_c hr)
        clear he3 hr
        go_wp2_with fail
        go_ret
        exact ⟨rfl, hbw3⟩
end Go.Proofs.YthfibnoekfkamaaDoor
