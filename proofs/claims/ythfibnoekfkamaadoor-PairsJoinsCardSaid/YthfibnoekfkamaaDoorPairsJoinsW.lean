/- The walk of the law PairsJoins. -/
import Derived.Test.YthfibnoekfkamaaDoorPairsW2
import Derived.Test.YthfibnoekfkamaaDoorConcatPair
namespace Go.Proofs.YthfibnoekfkamaaDoor
open Go.ChangeShapes Go.WideShapes Go.ChangeAt Go.RowKit
set_option linter.unusedVariables false
theorem parse_60 (p : ByteArray × ByteArray) (t : List UInt8) (f : Nat) (h1 : keyB p.1.data.toList = true) (h2 : valB p.2.data.toList = true) : parseGo (f + 1) (pairB p ++ t) 60 = .inl (4, none) := by
  have hk := keyB_mem h1
  have hv := valB_mem h2
  have e1 : pairB p ++ t = (p.1.data.toList ++ 61 :: p.2.data.toList) ++ 0 :: t := by simp [pairB]
  have hc : Lib.cut (pairB p ++ t) [0] = (p.1.data.toList ++ 61 :: p.2.data.toList, t, true) := by
    rw [e1]
    refine cut_append _ _ _ fun y hy => ?_
    rcases List.mem_append.1 hy with hy | hy
    · exact (hk y hy).2
    · rcases List.mem_cons.1 hy with rfl | hy
      · decide
      · exact hv y hy
  have hc2 : Lib.cut (p.1.data.toList ++ 61 :: p.2.data.toList) [61] = (p.1.data.toList, p.2.data.toList, true) := cut_append _ _ _ fun y hy => (hk y hy).1
  rw [parseGo, if_neg (by rw [e1]; simp), hc]
  simp only
  rw [if_neg (by simp), hc2]
  simp only
  rw [if_neg (by simp), if_pos trivial]
theorem parse_full (l : PairL) (f : Nat) (h : rightP l) (hl : 60 < l.length) (hf : (pairsB l).length < f) : parseGo f (pairsB l) 0 = .inl (4, none) := by
  have e : pairsB l = pairsB (l.take 60) ++ pairsB (l.drop 60) := by rw [← pairsB_append, List.take_append_drop]
  have hz : (l.take 60).length = 60 := by rw [List.length_take]; omega
  obtain ⟨f', hf', he⟩ := parse_app (l.take 60) (pairsB (l.drop 60)) f 0 (fun q hq => h q (List.mem_of_mem_take hq)) (by omega) (by rw [← e]; exact hf)
  obtain ⟨f', rfl⟩ : ∃ g, f' = g + 1 := ⟨f' - 1, by omega⟩
  rw [e, he, hz]
  rcases hd : l.drop 60 with _ | ⟨p, r⟩
  · have := congrArg List.length hd
    rw [List.length_drop] at this
    simp at this
    omega
  · obtain ⟨h1, h2⟩ := h p (List.mem_of_mem_drop (by rw [hd]; simp))
    show pAcc _ (parseGo (f' + 1) (pairB p ++ pairsB r) 60) = _
    rw [parse_60 p _ f' h1 h2]
    rfl
theorem joins_plain (a b : List UInt8) (x y : PairL) (ha : parseGo (a.length + 1) a 0 = .inr x) (hb : parseGo (b.length + 1) b 0 = .inr y) :
    x.length ≤ 60 ∧ y.length ≤ 60 ∧ (60 < x.length + y.length → parseGo ((a ++ b).length + 1) (a ++ b) 0 = .inl (4, none)) ∧ (x.length + y.length ≤ 60 → parseGo ((a ++ b).length + 1) (a ++ b) 0 = .inr (x ++ y)) := by
  obtain ⟨k1, k2, k3⟩ := parse_ok _ _ _ _ (by omega) (by omega) ha
  obtain ⟨m1, m2, m3⟩ := parse_ok _ _ _ _ (by omega) (by omega) hb
  have e : a ++ b = pairsB (x ++ y) := by rw [pairsB_append, k1, m1]
  have hr : rightP (x ++ y) := by
    intro p hp
    rcases List.mem_append.1 hp with hp | hp
    · exact k2 p hp
    · exact m2 p hp
  rw [e]
  exact ⟨by omega, by omega, fun h => parse_full _ _ hr (by rw [List.length_append]; exact h) (by omega), fun h => parse_pairsB _ _ hr (by rw [List.length_append]; exact h) (by omega)⟩
theorem prow_form {w : World} {base : Nat} {v : Value} {l : PairL} (h : PRow w base v l) : ∃ A cap, v = .slice A l.length cap := by
  obtain ⟨A, cap, hv, _⟩ := MRow.form h
  exact ⟨A, cap, hv⟩
set_option maxRecDepth 20000 in
set_option maxHeartbeats 8000000 in
theorem joinPairs (a b : ByteArray) (w : World) (ha : a.size ≤ 140737488351232) (hb : b.size ≤ 140737488351232) (hL : LaidE w) (hS : w.ShapedOpen Tryd.prog) :
    Calls Tryd.prog 12 #[.string a, .string b] w fun e w' => e = .returned (.bool true) ∧ Below w.heap.size w w' := by
  go_enter Tryd.func12, Tryd.ntmps12
  go_wp2_with fail
  refine (paired_fact _ hL hS).mono ?_
  rintro e w1 ⟨rfl, hb1⟩
  by_cases h3 : 2000 < a.size + b.size
  · go_wp2_with fail
    go_ret
    exact ⟨rfl, hb1⟩
  go_wp2_with fail
  refine (parse_any a _ (hL.on hb1) (shaped_on hS hb1) (by omega)).mono ?_
  rintro e w2 ⟨r1, er1, rfl, hr1, hb2⟩
  have hbw2 := below_step hb1 hb2
  go_wp2_with fail
  refine (parse_any b _ (hL.on hbw2) (shaped_on hS hbw2) (by omega)).mono ?_
  rintro e w3 ⟨r2, er2, rfl, hr2, hb3⟩
  have hbw3 := below_step hbw2 hb3
  have hr1' := hr1.below hb3 (Nat.le_refl _)
  clear hr1
  rcases ga : parseGo (a.size + 1) a.data.toList 0 with ⟨c, o⟩ | x
  · rw [ga] at hr1'
    obtain ⟨t, z, rfl⟩ := hr1'.2.iface (fun h => by subst h; exact parse_c _ _ _ _ ga)
    clear ga hr1' hr2
    go_wp2_with fail
    go_ret
    exact ⟨rfl, hbw3⟩
  · rw [ga] at hr1'
    obtain ⟨rfl, hx⟩ := hr1'
    rcases gb : parseGo (b.size + 1) b.data.toList 0 with ⟨c, o⟩ | y
    · rw [gb] at hr2
      obtain ⟨t, z, rfl⟩ := hr2.2.iface (fun h => by subst h; exact parse_c _ _ _ _ gb)
      clear ga gb hr2 hx
      go_wp2_with fail
      go_ret
      exact ⟨rfl, hbw3⟩
    · rw [gb] at hr2
      obtain ⟨rfl, hy⟩ := hr2
      obtain ⟨hx60, hy60, hfull, hjoin⟩ := joins_plain a.data.toList b.data.toList x y (by rw [len_of]; exact ga) (by rw [len_of]; exact gb)
      have hcat : (a ++ b).data.toList = a.data.toList ++ b.data.toList := by rw [cat_of]
      have hcz : (a ++ b).size = (a.data.toList ++ b.data.toList).length := by rw [← len_of, hcat]
      obtain ⟨A1, cap1, rfl⟩ := prow_form hx
      obtain ⟨A2, cap2, rfl⟩ := prow_form hy
      have HF := Lib.hid hfull
      have HJ := Lib.hid hjoin
      have HC := Lib.hid hcat
      have HZ := Lib.hid hcz
      have hx3 := SRd.of_m hx
      have hy3 := SRd.of_m hy
      clear ga gb hfull hjoin hcat hcz hx hy
      go_wp2_with fail
      refine (parse_any (a ++ b) _ (hL.on hbw3) (shaped_on hS hbw3) (by rw [ByteArray.size_append]; omega)).mono ?_
      rintro e w4 ⟨r3, er3, rfl, hr3, hb4⟩
      rw [HC.out, HZ.out] at hr3
      have hx4 := hx3.on hb4
      have hy4 := hy3.on hb4
      have hbw4 := below_step hbw3 hb4
      clear hx3 hy3
      by_cases h60 : 60 < x.length + y.length
      · rw [HF.out h60] at hr3
        obtain ⟨rfl, he3⟩ := hr3
        obtain rfl : er3 = errv 4 := he3
        rw [show errv 4 = .iface 43 (.int .i64 4) from rfl]
        have hL4 := hL.on hbw4
        clear hx4 hy4
        go_wp2_with fail
        refine (tell_errno 4 _ hL4).mono ?_
        rintro e w5 ⟨rfl, hb5⟩
        go_wp2_with fail
        go_ret
        exact ⟨rfl, below_step hbw4 hb5⟩
      · rw [HJ.out (by omega)] at hr3
        obtain ⟨rfl, hz⟩ := hr3
        have hz4 := SRd.of_m hz
        have hs4 : w4.heap.size < (w4.alloc (.cells #[.slice A1 x.length cap1, .slice A2 y.length cap2] 23)).heap.size := by simp
        have hba : Below w4.heap.size w4 (w4.alloc (.cells #[.slice A1 x.length cap1, .slice A2 y.length cap2] 23)) := (Below.refl _ _).alloc (Nat.le_refl _) _
        have c0 := (Blk.new w4 23 #[.slice A1 x.length cap1, .slice A2 y.length cap2]).cell 0
        have c1 := (Blk.new w4 23 #[.slice A1 x.length cap1, .slice A2 y.length cap2]).cell 1
        have hx5 := hx4.on hba
        have hy5 := hy4.on hba
        have hz5 := hz4.on hba
        have HX5 := Lib.hid hx5
        have HY5 := Lib.hid hy5
        have HC0 := Lib.hid c0
        have HC1 := Lib.hid c1
        clear hz c0 c1
        go_wp2_with fail
        refine (concat_any _ _ x y w4.heap.size _ HX5.out HY5.out (by omega) (by omega) HC0.out HC1.out hs4).mono ?_
        rintro e w6 ⟨v6, rfl, hv6, hb6⟩
        have hz6 := hz5.on hb6
        have hv6' := SRd.of_m hv6
        have hbw6 : Below w.heap.size w w6 := below_step (below_step hbw4 hba) hb6
        go_wp2_with fail
        refine (pequal_same (x ++ y) _ _ _ hz6 hv6').mono ?_
        rintro e w7 ⟨rfl, kq, rfl⟩
        go_wp2_with fail
        go_ret
        exact ⟨rfl, below_drewN hbw6 kq⟩
end Go.Proofs.YthfibnoekfkamaaDoor
