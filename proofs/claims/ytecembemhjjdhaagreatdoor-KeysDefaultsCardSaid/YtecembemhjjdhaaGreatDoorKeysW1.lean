/- The fact of keys; the walks of the laws KeysTold, KeysBoth, KeysAgain. -/
import Derived.Test.YtecembemhjjdhaaGreatDoorKeysRes
import Derived.Test.YtecembemhjjdhaaGreatDoorTell2
import Derived.Deep.RegionHeld3
namespace Go.Proofs.YtecembemhjjdhaaGreatDoor
open Go.ChangeShapes Go.WideShapes Go.ChangeAt Go.RowKit Go.Shelf
set_option linter.unusedVariables false
set_option linter.unusedSimpArgs false
/- what the laid variables give -/
structure Env (w : World) : Prop where
  L : LaidE w
  T : Tabs w
  E : Errs w
  S : w.ShapedOpen Tryz.prog
theorem below_dK {B : Nat} {a w : World} (h : Below B a w) (k : Nat) : Below B a (w.drewN k) := h.trans ⟨rfl, rfl, rfl, Nat.le_refl _, fun _ _ => rfl⟩
theorem Env.on {w w' : World} (h : Env w) (hb : Below w.heap.size w w') : Env w' := ⟨h.L.on hb, h.T.on hb, h.E.on hb, shapedK h.S hb⟩
theorem result_inr (n a b : ByteArray) (X : ByteArray) (w : World) (h : resE n.data.toList a.data.toList b.data.toList = .inr X.data.toList) (ha : a.size ≤ 1000000) (hb : b.size ≤ 1000000) (V : Env w) : Calls Tryz.prog 24 #[.string n, .string a, .string b] w fun e w' =>
    e = .returned (.tuple #[.string X, .nilIface]) ∧ Below w.heap.size w w' := by
  refine (result_any n a b w ha hb V.T V.E V.S).mono ?_
  rintro e w' ⟨rfl, hb⟩
  rw [h]
  exact ⟨ret_eq (resV_inr X _ rfl), hb⟩
theorem result_inl (n a b : ByteArray) (c : Nat) (w : World) (h : resE n.data.toList a.data.toList b.data.toList = .inl c) (ha : a.size ≤ 1000000) (hb : b.size ≤ 1000000) (V : Env w) : Calls Tryz.prog 24 #[.string n, .string a, .string b] w fun e w' =>
    e = .returned (.tuple #[.string ⟨#[]⟩, .iface 31 (.int .i64 c)]) ∧ Below w.heap.size w w' := by
  refine (result_any n a b w ha hb V.T V.E V.S).mono ?_
  rintro e w' ⟨rfl, hb⟩
  rw [h]
  exact ⟨rfl, hb⟩
def resB (n a b : ByteArray) : Nat ⊕ List UInt8 := resE n.data.toList a.data.toList b.data.toList
theorem resB_cases (n a b : ByteArray) : (∃ c, resE n.data.toList a.data.toList b.data.toList = .inl c) ∨ ∃ X : ByteArray, resE n.data.toList a.data.toList b.data.toList = .inr X.data.toList := by
  rcases h : resE n.data.toList a.data.toList b.data.toList with c | x
  · exact .inl ⟨c, rfl⟩
  · exact .inr ⟨⟨x.toArray⟩, rfl⟩
set_option maxRecDepth 20000 in
set_option maxHeartbeats 4000000 in
theorem keyed_fact (w : World) (V : Env w) : Calls Tryz.prog 22 #[] w fun e w' => e = .returned (.bool true) ∧ Below w.heap.size w w' := by
  obtain ⟨k1, k2, k3, k4⟩ := keyed_plain
  have K1 := Lib.hid k1
  have K2 := Lib.hid k2
  have K3 := Lib.hid k3
  have K4 := Lib.hid k4
  clear k1 k2 k3 k4
  obtain ⟨A, hA⟩ : ∃ A : ByteArray, (⟨#[89, 101, 115]⟩ : ByteArray) = A := ⟨_, rfl⟩
  obtain ⟨B, hB⟩ : ∃ A : ByteArray, (⟨#[49, 48, 50, 52]⟩ : ByteArray) = A := ⟨_, rfl⟩
  obtain ⟨C, hC⟩ : ∃ A : ByteArray, (⟨#[67, 82, 67, 51, 50, 67]⟩ : ByteArray) = A := ⟨_, rfl⟩
  have hAl : A.data.toList = [89, 101, 115] := by rw [← hA]
  have hBl : B.data.toList = [49, 48, 50, 52] := by rw [← hB]
  have hCl : C.data.toList = [67, 82, 67, 51, 50, 67] := by rw [← hC]
  obtain ⟨a1, a2⟩ := eq_facts A _ hAl
  obtain ⟨b1, b2⟩ := eq_facts B _ hBl
  obtain ⟨c1, c2⟩ := eq_facts C _ hCl
  have HA := Lib.hid hAl
  have HB := Lib.hid hBl
  have HC := Lib.hid hCl
  clear hA hB hC hAl hBl hCl a2 b2 c2
  go_enter Tryz.func22, Tryz.ntmps22
  go_wp2_with fail
  refine (result_inr _ _ _ A _ (by rw [HA.out]; exact K1.out) (by decide) (by decide) V).mono ?_
  rintro e w1 ⟨rfl, hb1⟩
  have V1 := V.on hb1
  go_wp2_with fail
  refine (result_inr _ _ _ B _ (by rw [HB.out]; exact K2.out) (by decide) (by decide) V1).mono ?_
  rintro e w2 ⟨rfl, hb2⟩
  have V2 := V1.on hb2
  have hbw2 := below_step hb1 hb2
  go_wp2_with fail
  refine (result_inr _ _ _ C _ (by rw [HC.out]; exact K3.out) (by decide) (by decide) V2).mono ?_
  rintro e w3 ⟨rfl, hb3⟩
  have V3 := V2.on hb3
  have hbw3 := below_step hbw2 hb3
  go_wp2_with fail
  refine (result_inl _ _ _ 8 _ K4.out (by decide) (by decide) V3).mono ?_
  rintro e w4 ⟨rfl, hb4⟩
  have V4 := V3.on hb4
  have hbw4 := below_step hbw3 hb4
  go_wp2_with fail
  refine (tell_errno 8 _ V4.L).mono ?_
  rintro e w5 ⟨rfl, hb5⟩
  go_wp2_with fail
  go_ret
  exact ⟨rfl, below_step hbw4 hb5⟩
theorem kinds_pos : ∀ r ∈ keyT, 1 ≤ r.kind := by decide +kernel
theorem kindV (n : ByteArray) : keyRow n.data.toList = none ∨ ∃ (r : KeyR) (K : Nat), keyRow n.data.toList = some r ∧ r.kind = K ∧ K ≤ 7 := by
  rcases h : keyRow n.data.toList with _ | r
  · exact .inl rfl
  · exact .inr ⟨r, r.kind, rfl, rfl, (keyT_len r (keyRow_mem h)).2.2.2.1⟩
set_option maxRecDepth 20000 in
set_option maxHeartbeats 4000000 in
theorem toldKeys (n a b : ByteArray) (w : World) (hn : n.size ≤ 140737488351232) (ha : a.size ≤ 140737488351232) (hb : b.size ≤ 140737488351232) (V : Env w) :
    Calls Tryz.prog 3 #[.string n, .string a, .string b] w fun e w' => e = .returned (.bool true) ∧ Below w.heap.size w w' := by
  go_enter Tryz.func3, Tryz.ntmps3
  go_wp2_with fail
  refine (keyed_fact _ V).mono ?_
  rintro e w1 ⟨rfl, hb1⟩
  have V1 := V.on hb1
  by_cases hbig : 300 < n.size + a.size + b.size
  · go_wp2_with fail
    go_ret
    exact ⟨rfl, hb1⟩
  have hna : (n.size : Int) + a.size + b.size ≤ 300 := by omega
  have ha2 : a.size ≤ 300 := by omega
  have hb2 : b.size ≤ 300 := by omega
  go_wp2_with fail
  rcases kindV n with hr | ⟨r, K, hr, hK, hK7⟩
  · have HR := Lib.hid hr
    clear hr
    refine (of_none n _ HR.out V1.T).mono ?_
    rintro e w2 ⟨rfl, hb3⟩
    unfold zeroK
    have hbw2 := below_step hb1 hb3
    go_wp2_with fail
    have hbw3 := below_step hbw2 ((Below.refl _ _).alloc (Nat.le_refl _) (.cells #[.string ⟨#[]⟩, .int .i64 0, .int .i64 0, .int .i64 0, .string ⟨#[]⟩, .bool false, .bool false] 24))
    have V3 := V.on hbw3
    refine (result_inl n a b 5 _ (by unfold resE; rw [HR.out]) (by omega) (by omega) V3).mono ?_
    rintro e w4 ⟨rfl, hb4⟩
    have hbw4 := below_step hbw3 hb4
    go_wp2_with fail
    refine (tell_errno 5 _ (V.on hbw4).L).mono ?_
    rintro e w5 ⟨rfl, hb5⟩
    have hbw5 := below_step hbw4 hb5
    have V5 := V.on hbw5
    go_wp2_with fail
    refine (fits_bad n a 5 _ (by unfold fitsE; rw [HR.out]) (by decide) (by omega) V5.T V5.E V5.S).mono ?_
    rintro e w6 ⟨rfl, hb6⟩
    have hbw6 := below_step hbw5 hb6
    go_wp2_with fail
    refine (tell_errno 5 _ (V.on hbw6).L).mono ?_
    rintro e w7 ⟨rfl, hb7⟩
    go_wp2_with fail
    go_ret
    exact ⟨rfl, below_step hbw6 hb7⟩
  · have HR := Lib.hid hr
    have hKI : (r.kind : Int) = (K : Int) := by omega
    have HK := Lib.hid hK
    have HKI := Lib.hid hKI
    clear hr hKI hK
    refine (of_kind n r _ _ HR.out HKI.out V1.T).mono ?_
    rintro e w2 ⟨rfl, hb3⟩
    have hbw2 := below_step hb1 hb3
    go_wp2_with fail
    have hbw3 := below_step hbw2 ((Below.refl _ _).alloc (Nat.le_refl _) (.cells #[.string ⟨r.name.toArray⟩, .int .i64 K, .int .i64 r.low, .int .i64 r.high, .string ⟨(dfl r).toArray⟩, .bool r.noth, .bool r.lonly] 24))
    have V3 := V.on hbw3
    have hB3 := Blk.new w2 24 #[.string ⟨r.name.toArray⟩, .int .i64 K, .int .i64 r.low, .int .i64 r.high, .string ⟨(dfl r).toArray⟩, .bool r.noth, .bool r.lonly]
    obtain ⟨w3, hw3⟩ : ∃ w3 : World, w2.alloc (.cells #[.string ⟨r.name.toArray⟩, .int .i64 K, .int .i64 r.low, .int .i64 r.high, .string ⟨(dfl r).toArray⟩, .bool r.noth, .bool r.lonly] 24) = w3 := ⟨_, rfl⟩
    obtain ⟨g, hg⟩ : ∃ g, w2.heap.size = g := ⟨_, rfl⟩
    rw [hw3] at hbw3 V3 hB3
    rw [hg] at hB3
    rw [hw3]
    try rw [hg]
    clear hw3 hg hbw2 hb1 hb3 V1
    rcases resB_cases n a b with ⟨c, hc⟩ | ⟨X, hX⟩
    · have HC := Lib.hid hc
      clear hc
      refine (result_inl n a b c _ HC.out (by omega) (by omega) V3).mono ?_
      rintro e w4 ⟨rfl, hb4⟩
      have hbw4 := below_step hbw3 hb4
      have c1 := (hB3.below hb4 hB3.lt).cell 1
      by_cases k6 : K = 6
      · subst k6
        go_wp2_with fail
        go_ret
        exact ⟨rfl, hbw4⟩
      · by_cases k7 : K = 7
        · subst k7
          go_wp2_with fail
          go_ret
          exact ⟨rfl, hbw4⟩
        · have d6 : ((K : Int) != 6) = true := by simp; omega
          have d7 : ((K : Int) != 7) = true := by simp; omega
          go_wp2_with fail
          go_ret
          exact ⟨rfl, hbw4⟩
    · have HX := Lib.hid hX
      clear hX
      refine (result_inr n a b X _ HX.out (by omega) (by omega) V3).mono ?_
      rintro e w4 ⟨rfl, hb4⟩
      have hbw4 := below_step hbw3 hb4
      have c1 := (hB3.below hb4 hB3.lt).cell 1
      by_cases k67 : K = 6 ∨ K = 7
      · have hXa : X = a := by
          have := resE_told HR.out (by rw [HK.out]; exact k67) HX.out
          rw [str_of X, str_of a, this]
        subst hXa
        have f1 : (X.toList == X.toList) = true := by simp
        rcases k67 with rfl | rfl
        · go_wp2_with fail
          go_ret
          exact ⟨rfl, hbw4⟩
        · go_wp2_with fail
          go_ret
          exact ⟨rfl, hbw4⟩
      · have d6 : ((K : Int) != 6) = true := by simp; omega
        have d7 : ((K : Int) != 7) = true := by simp; omega
        clear k67
        go_wp2_with fail
        go_ret
        exact ⟨rfl, hbw4⟩
set_option maxRecDepth 20000 in
set_option maxHeartbeats 4000000 in
theorem bothKeys (n a b : ByteArray) (w : World) (hn : n.size ≤ 140737488351232) (ha : a.size ≤ 140737488351232) (hb : b.size ≤ 140737488351232) (V : Env w) :
    Calls Tryz.prog 4 #[.string n, .string a, .string b] w fun e w' => e = .returned (.bool true) ∧ Below w.heap.size w w' := by
  go_enter Tryz.func4, Tryz.ntmps4
  go_wp2_with fail
  refine (keyed_fact _ V).mono ?_
  rintro e w1 ⟨rfl, hb1⟩
  have V1 := V.on hb1
  by_cases hbig : 300 < n.size + a.size + b.size
  · go_wp2_with fail
    go_ret
    exact ⟨rfl, hb1⟩
  have hna : (n.size : Int) + a.size + b.size ≤ 300 := by omega
  have ha2 : a.size ≤ 300 := by omega
  have hb2 : b.size ≤ 300 := by omega
  go_wp2_with fail
  rcases kindV n with hr | ⟨r, K, hr, hK, hK7⟩
  · have HR := Lib.hid hr
    clear hr
    refine (of_none n _ HR.out V1.T).mono ?_
    rintro e w2 ⟨rfl, hb3⟩
    unfold zeroK
    have hbw2 := below_step hb1 hb3
    go_wp2_with fail
    have hbw3 := below_step hbw2 ((Below.refl _ _).alloc (Nat.le_refl _) (.cells #[.string ⟨#[]⟩, .int .i64 0, .int .i64 0, .int .i64 0, .string ⟨#[]⟩, .bool false, .bool false] 24))
    go_ret
    exact ⟨rfl, hbw3⟩
  · have HR := Lib.hid hr
    have hKI : (r.kind : Int) = (K : Int) := by omega
    have HK := Lib.hid hK
    have HKI := Lib.hid hKI
    clear hr hKI hK
    refine (of_kind n r _ _ HR.out HKI.out V1.T).mono ?_
    rintro e w2 ⟨rfl, hb3⟩
    have hbw2 := below_step hb1 hb3
    by_cases k567 : K = 5 ∨ K = 6 ∨ K = 7
    · have hbw3 := fun k : Int => below_step hbw2 ((Below.refl _ _).alloc (Nat.le_refl _) (.cells #[.string ⟨r.name.toArray⟩, .int .i64 k, .int .i64 r.low, .int .i64 r.high, .string ⟨(dfl r).toArray⟩, .bool r.noth, .bool r.lonly] 24))
      have HB3 := Lib.hid hbw3
      clear hbw3
      rcases k567 with rfl | rfl | rfl
      all_goals
        go_wp2_with fail
        go_ret
        exact ⟨rfl, HB3.out _⟩
    have d5 : ((K : Int) == 5) = false := by simp; omega
    have d6 : ((K : Int) == 6) = false := by simp; omega
    have d7 : ((K : Int) == 7) = false := by simp; omega
    go_wp2_with fail
    by_cases k0 : K = 0
    · exfalso
      have := HK.out
      have h0 := kinds_pos r (keyRow_mem HR.out)
      omega
    have hbw3 := below_step hbw2 ((Below.refl _ _).alloc (Nat.le_refl _) (.cells #[.string ⟨r.name.toArray⟩, .int .i64 K, .int .i64 r.low, .int .i64 r.high, .string ⟨(dfl r).toArray⟩, .bool r.noth, .bool r.lonly] 24))
    have V3 := V.on hbw3
    obtain ⟨w3, hw3⟩ : ∃ w3 : World, w2.alloc (.cells #[.string ⟨r.name.toArray⟩, .int .i64 K, .int .i64 r.low, .int .i64 r.high, .string ⟨(dfl r).toArray⟩, .bool r.noth, .bool r.lonly] 24) = w3 := ⟨_, rfl⟩
    rw [hw3] at hbw3 V3
    rw [hw3]
    clear hw3 hbw2 hb1 hb3 V1
    have hboth := resE_both n.data.toList a.data.toList b.data.toList r HR.out (by have := HK.out; omega)
    have HBOTH := Lib.hid hboth
    clear hboth d5 d6 d7 k0 k567
    rcases resB_cases n a b with ⟨c, hc⟩ | ⟨X, hX⟩
    · have HC := Lib.hid hc
      clear hc
      refine (result_inl n a b c _ HC.out (by omega) (by omega) V3).mono ?_
      rintro e w4 ⟨rfl, hb4⟩
      have hbw4 := below_step hbw3 hb4
      go_wp2_with fail
      rcases resB_cases n b a with ⟨c2, hc2⟩ | ⟨Y, hY⟩
      · have HC2 := Lib.hid hc2
        clear hc2
        refine (result_inl n b a c2 _ HC2.out (by omega) (by omega) (V.on hbw4)).mono ?_
        rintro e w5 ⟨rfl, hb5⟩
        have hbw5 := below_step hbw4 hb5
        go_wp2_with fail
        go_quiet (fail)
        go_wp2_with fail
        go_ret
        exact ⟨by simp, below_dK hbw5 _⟩
      · have := HBOTH.out.1
        rw [HC.out, hY] at this
        cases this
    · have HX := Lib.hid hX
      clear hX
      refine (result_inr n a b X _ HX.out (by omega) (by omega) V3).mono ?_
      rintro e w4 ⟨rfl, hb4⟩
      have hbw4 := below_step hbw3 hb4
      go_wp2_with fail
      rcases resB_cases n b a with ⟨c2, hc2⟩ | ⟨Y, hY⟩
      · have := HBOTH.out.1
        rw [HX.out, hc2] at this
        cases this
      · obtain rfl : X = Y := by
          have := HBOTH.out.2
          rw [HX.out, hY] at this
          rw [str_of X, str_of Y]
          exact congrArg (fun l : List UInt8 => (⟨l.toArray⟩ : ByteArray)) this
        have HY := Lib.hid hY
        clear hY
        refine (result_inr n b a X _ HY.out (by omega) (by omega) (V.on hbw4)).mono ?_
        rintro e w5 ⟨rfl, hb5⟩
        have hbw5 := below_step hbw4 hb5
        go_wp2_with fail
        go_quiet (fail)
        go_wp2_with fail
        go_ret
        exact ⟨by simp, below_dK hbw5 _⟩
set_option maxRecDepth 20000 in
set_option maxHeartbeats 4000000 in
theorem againKeys (n a b : ByteArray) (w : World) (hn : n.size ≤ 140737488351232) (ha : a.size ≤ 140737488351232) (hb : b.size ≤ 140737488351232) (V : Env w) :
    Calls Tryz.prog 5 #[.string n, .string a, .string b] w fun e w' => e = .returned (.bool true) ∧ Below w.heap.size w w' := by
  go_enter Tryz.func5, Tryz.ntmps5
  go_wp2_with fail
  refine (keyed_fact _ V).mono ?_
  rintro e w1 ⟨rfl, hb1⟩
  have V1 := V.on hb1
  by_cases hbig : 300 < n.size + a.size + b.size
  · go_wp2_with fail
    go_ret
    exact ⟨rfl, hb1⟩
  have hna : (n.size : Int) + a.size + b.size ≤ 300 := by omega
  have ha2 : a.size ≤ 300 := by omega
  have hb2 : b.size ≤ 300 := by omega
  go_wp2_with fail
  rcases resB_cases n a b with ⟨c, hc⟩ | ⟨X, hX⟩
  · have HC := Lib.hid hc
    clear hc
    refine (result_inl n a b c _ HC.out (by omega) (by omega) V1).mono ?_
    rintro e w4 ⟨rfl, hb4⟩
    have hbw4 := below_step hb1 hb4
    go_wp2_with fail
    go_ret
    exact ⟨rfl, hbw4⟩
  · have hlen := resE_len hX
    rw [len_of, len_of] at hlen
    obtain ⟨q1, q2, q3⟩ := resE_again hX
    have HX := Lib.hid hX
    have Q1 := Lib.hid q1
    have Q2 := Lib.hid q2
    have Q3 := Lib.hid q3
    clear hX q1 q2 q3
    refine (result_inr n a b X _ HX.out (by omega) (by omega) V1).mono ?_
    rintro e w4 ⟨rfl, hb4⟩
    have hbw4 := below_step hb1 hb4
    go_wp2_with fail
    refine (result_inr n X X X _ Q2.out (by omega) (by omega) (V.on hbw4)).mono ?_
    rintro e w5 ⟨rfl, hb5⟩
    have hbw5 := below_step hbw4 hb5
    go_wp2_with fail
    refine (result_inr n X b X _ Q3.out (by omega) (by omega) (V.on hbw5)).mono ?_
    rintro e w6 ⟨rfl, hb6⟩
    have hbw6 := below_step hbw5 hb6
    go_wp2_with fail
    refine (fits_good n X _ Q1.out (by omega) (V.on hbw6).T (V.on hbw6).E (V.on hbw6).S).mono ?_
    rintro e w7 ⟨rfl, hb7⟩
    have hbw7 := below_step hbw6 hb7
    go_wp2_with fail
    go_ret
    exact ⟨by simp, hbw7⟩
end Go.Proofs.YtecembemhjjdhaaGreatDoor
