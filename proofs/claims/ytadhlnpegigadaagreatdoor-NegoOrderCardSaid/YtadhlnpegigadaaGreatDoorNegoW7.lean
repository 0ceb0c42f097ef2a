/- The walk of NegoDiscovery. -/
import Derived.Test.YtadhlnpegigadaaGreatDoorNegoTwo
import Derived.Test.YtadhlnpegigadaaGreatDoorNegoDelf
namespace Go.Proofs.YtadhlnpegigadaaGreatDoor
open Go.ChangeShapes Go.WideShapes Go.ChangeAt Go.RowKit Go.Shelf
set_option linter.unusedVariables false
theorem wpList_append_pos (w : World) {ops : Array Oper} {rest : List Oper} {o : Oper} {a : Act} {Q : Exit → Act → World → Prop} (hgd : o.guard = none) (s x : Operand)
    (ho : o.op = .call { callee := .builtin .append, args := #[s, x], argTypes := #[27, 27] })
    (base : Nat) (v : Value) (l : PairL) (hs : a.eval s = v) (hown : ORow w base v l)
    (ad : Addr) (c : Nat) (m : PairL) (hx : a.eval x = .slice (some ad) m.length c) (hm : SRd w (.slice (some ad) m.length c) 2 m.length (pairCells m)) (hlen : (l.length + m.length) * 32 ≤ 140737488355328) (hbase : base ≤ w.heap.size)
    (h : ∀ v' w', ORow w' base v' (l ++ m) → w.grownBy w' v.ownBlock → wpList Tryz.prog ops Q rest (a.put o.dst v') w') : wpList Tryz.prog ops Q (o :: rest) a w := by
  obtain ⟨i0, hi, hz0, hz1, hz2⟩ := info_parts infoPair
  obtain ⟨h1, A, cap, hv, h2, h3, h4⟩ := hm
  injection hv with hv _ _
  subst hv
  refine wpList_append_own_at w hgd s x _ ho base 52 i0 _ 2 32 Tryz.underlying27 hi hz0 hz1 hz2 rfl (by decide) v l.length _ hs hown ad m.length c (pairCells m) hx (by rw [pairCells_len, Nat.mul_comm]) ?_ ?_ (by unfold maxLen; omega) (by omega) hbase ?_
  · intro j u hu
    have hpos : 0 < m.length := by
      have := (List.getElem?_eq_some_iff.1 hu).1
      rw [pairCells_len] at this
      omega
    obtain ⟨b, o, hA, _, hc⟩ := h4 hpos
    obtain rfl := Option.some.inj hA
    rw [Addr.add_lit]
    exact hc j u hu
  · intro u hu
    simp only [pairCells, List.mem_flatMap] at hu
    obtain ⟨q, _, hq⟩ := hu
    simp at hq
    rcases hq with rfl | rfl <;> rfl
  · intro v' w' r1 r2 _ _
    refine h v' w' ?_ r2
    unfold ORow
    rw [List.length_append, pairCells_append]
    exact r1
set_option maxHeartbeats 2000000 in
theorem clone_own (l : PairL) (v : Value) (w : World) (hv : SRd w v 2 l.length (pairCells l)) (hl : l.length * 32 ≤ 140737488351232) : Calls Tryz.prog 42 #[v] w fun e w' =>
    ∃ u, e = .returned u ∧ ORow w' w.heap.size u l ∧ Below w.heap.size w w' := by
  have hv0 := hv
  obtain ⟨hlen, A, cap, rfl, hcap, hmax, hcell⟩ := hv
  unfold maxLen at hmax
  have hnil : A = none → l = [] := by
    intro hA
    rcases l with _ | ⟨p, l⟩
    · rfl
    · obtain ⟨b, o, hA2, _⟩ := hcell (by simp)
      rw [hA] at hA2; cases hA2
  clear hcell hlen
  have heq := fun (w : World) (a : Option Addr) (n c : Nat) => Lib.run_eql_slice_nil (P := Tryz.prog) w 27 52 a n c 0 0 Tryz.underlying27
  go_enter Tryz.func42, Tryz.ntmps42
  rcases A with _ | a
  · have h0 := hnil rfl
    subst h0
    clear hnil
    go_wp2_with fail
    go_ret
    exact ⟨_, rfl, ORow.nil _ _, Below.refl _ _⟩
  · have hown : ORow (w.alloc (.cells #[] 52)) w.heap.size (.slice (some ⟨w.heap.size, 0, none⟩) 0 0) [] :=
      ⟨rfl, .inr ⟨w.heap.size, 0, #[], rfl, Nat.le_refl _, Blk.new w _ _, Nat.le_refl _, by decide, rfl, rfl⟩⟩
    have hb0 : Below w.heap.size w (w.alloc (.cells #[] 52)) := (Below.refl _ _).alloc (Nat.le_refl _) _
    have hv1 := hv0.on hb0
    go_wp2_with (at_builtin; refine wpList_append_pos _ rfl _ _ rfl w.heap.size _ [] rfl hown _ _ l rfl hv1 (by simp; omega) (by simp) ?_)
    intro v1 w1 hr1 hg1
    have hb1 : Below w.heap.size w w1 := hb0.grown hg1 (by simp) (fun k hk => by cases hk; exact Nat.le_refl _)
    go_wp2_with fail
    go_ret
    exact ⟨_, rfl, hr1, hb1⟩
set_option maxRecDepth 20000 in
set_option maxHeartbeats 2000000 in
theorem nrec_own (g : Nat) (S : List Nat) (own rc : PairL) (w : World) (hN : NegoH w S g own rc) (hl : rc.length ≤ 100000) : Calls Tryz.prog 31 #[.pointer (some ⟨g, 0, none⟩)] w fun e w' =>
    ∃ u, e = .returned u ∧ ORow w' w.heap.size u rc ∧ Below w.heap.size w w' := by
  obtain ⟨ov, rv, hB, ho, hr, hgS, _, _, _⟩ := id hN
  have hro := hr.rd
  obtain ⟨A, cap, rfl⟩ := hr.form
  have c1 := hB.cell 1
  have hlt := hB.lt
  clear hN hB ho hr
  go_enter Tryz.func31, Tryz.ntmps31
  go_wp2_with fail
  refine (clone_own rc _ _ hro (by omega)).mono ?_
  rintro e w1 ⟨u, rfl, hu, hb1⟩
  obtain ⟨uA, ucap, rfl⟩ := hu.form
  go_wp2_with fail
  go_ret
  exact ⟨_, rfl, hu, hb1⟩
set_option maxRecDepth 20000 in
set_option maxHeartbeats 4000000 in
theorem disc_clos (a b : ByteArray) (w : World) (V : Env w) : Calls Tryz.prog 38 #[.agg #[.string a, .string b]] w fun e w' => e = .returned (.bool (!countsB (a, b))) ∧ Below w.heap.size w w' := by
  obtain ⟨z, hz⟩ : ∃ z, w.heap.size = z := ⟨_, rfl⟩
  obtain ⟨W0, hW0⟩ : ∃ W0 : World, w.alloc (.cells #[.string a, .string b] 52) = W0 := ⟨_, rfl⟩
  have hb0 : Below w.heap.size w W0 := by rw [← hW0]; exact (Below.refl _ _).alloc (Nat.le_refl _) _
  have hB0 : Blk W0 z 52 #[.string a, .string b] := by rw [← hW0, ← hz]; exact Blk.new w _ _
  have V0 := V.on hb0
  have c0 := hB0.cell 0
  have hbz : ∀ W, Below w.heap.size w W → Below z w W := fun W h => by rw [← hz]; exact h
  rcases hk : keyRow a.data.toList with _ | r
  · have hc : (!countsB (a, b)) = true := by
      unfold countsB
      show (!(match keyRow a.data.toList with | none => false | some r => !r.noth)) = true
      rw [hk]
      rfl
    rw [hc]
    have HR := Lib.hid hk
    clear hk hc
    go_enter Tryz.func38, Tryz.ntmps38
    go_wp2_with fail
    refine (of_none a _ HR.out V0.T).mono ?_
    rintro e w1 ⟨rfl, hb1⟩
    have hbf := below_step (below_step hb0 hb1) ((Below.refl _ _).alloc (Nat.le_refl _) (.cells #[.string ⟨#[]⟩, .int .i64 0, .int .i64 0, .int .i64 0, .string ⟨#[]⟩, .bool false, .bool false] 58))
    unfold zeroK
    go_wp2_with fail
    go_ret
    exact ⟨rfl, by first | exact hbf | exact hbz _ hbf⟩
  · obtain ⟨nb, hnb⟩ : ∃ nb, r.noth = nb := ⟨_, rfl⟩
    have hc : (!countsB (a, b)) = nb := by
      unfold countsB
      show (!(match keyRow a.data.toList with | none => false | some r => !r.noth)) = nb
      rw [hk]
      show (!(!r.noth)) = nb
      rw [hnb]
      simp
    rw [hc]
    obtain ⟨D, hD⟩ : ∃ D, ba (dfl r) = D := ⟨_, rfl⟩
    have HR := Lib.hid hk
    have HNB := Lib.hid hnb
    have HD := Lib.hid hD
    clear hk hc hnb hD
    go_enter Tryz.func38, Tryz.ntmps38
    go_wp2_with fail
    refine (of_some a r _ D nb _ _ HR.out rfl HD.out HNB.out rfl V0.T).mono ?_
    rintro e w1 ⟨rfl, hb1⟩
    have hbf := below_step (below_step hb0 hb1) ((Below.refl _ _).alloc (Nat.le_refl _) (.cells #[.string ⟨r.name.toArray⟩, .int .i64 r.kind, .int .i64 r.low, .int .i64 r.high, .string D, .bool nb, .bool r.lonly] 58))
    go_wp2_with fail
    go_ret
    exact ⟨rfl, by first | exact hbf | exact hbz _ hbf⟩
theorem disc_want (own off : PairL) : keepP (fun q => !countsB q) (ansRc own [] off true false) = ansRc own [] off true true := by
  unfold ansRc
  rcases hE : ansE [] off true with _ | E
  · show keepP _ (recL own true false [] off) = recL own true true [] off
    rw [← ans_disc own off hE]
    unfold keepP
    apply List.filter_congr
    intro q _
    simp
  · rfl
set_option maxRecDepth 20000 in
set_option maxHeartbeats 8000000 in
theorem discoveryNego (own : PairL) (vo : Value) (off : PairL) (vf : Value) (w : World) (hv : SRd w vo 2 own.length (pairCells own)) (hd : ∀ p ∈ own, psmall p) (hv2 : SRd w vf 2 off.length (pairCells off)) (hd2 : ∀ p ∈ off, psmall p) (V : Env w) :
    Calls Tryz.prog 6 #[vo, vf] w fun e w' => e = .returned (.bool true) ∧ Below w.heap.size w w' := by
  go_enter Tryz.func6, Tryz.ntmps6
  go_wp2_with fail
  refine (settled_fact _ V).mono ?_
  rintro e w1 ⟨rfl, hb1⟩
  have V1 := V.on hb1
  go_wp2_with fail
  refine (keyed_fact _ V1).mono ?_
  rintro e w1b ⟨rfl, hb1b⟩
  have hb1 := below_step hb1 hb1b
  have V1 := V.on hb1
  go_wp2_with fail
  refine (made_any own _ _ (hv.on hb1) hd V1).mono ?_
  rintro e w2 ⟨hma, hb2⟩
  have hb2w := below_step hb1 hb2
  have V2 := V.on hb2w
  rcases hma with rfl | ⟨Sa, ga, rfl, hNa, hSa, hnew⟩
  · go_wp2_with fail
    refine (made_any own _ _ (hv.on hb2w) hd V2).mono ?_
    rintro e w3 ⟨hmb, hb3⟩
    rcases hmb with rfl | ⟨Sb, gb, rfl, hNb, hSb, _⟩
    · go_wp2_with fail
      go_ret
      exact ⟨rfl, below_step hb2w hb3⟩
    · go_wp2_with fail
      go_ret
      exact ⟨rfl, below_step hb2w hb3⟩
  go_wp2_with fail
  refine (made_any own _ _ (hv.on hb2w) hd V2).mono ?_
  rintro e w3 ⟨hmb, hb3⟩
  rcases hmb with rfl | ⟨Sb, gb, rfl, hNb, hSb, _⟩
  · go_wp2_with fail
    go_ret
    exact ⟨rfl, below_step hb2w hb3⟩
  have T3 : Two w w3 Sa Sb ga gb own [] [] [] := two_made hb1 hb2 hNa hSa hb3 hNb hSb
  clear hNa hNb hSa hSb
  go_wp2_with fail
  refine (thick_any off _ _ (hv2.on T3.b) hd2).mono ?_
  rintro e w4 ⟨b, rfl, hb4⟩
  have T4 := T3.on hb4
  rcases b with _ | _
  rotate_left
  · go_wp2_with fail
    go_ret
    exact ⟨rfl, T4.b⟩
  clear T3
  go_wp2_with fail
  refine (two_arg T4 off true _ V hv2 hd2 hnew (by simp)).mono ?_
  rintro e w5 he5
  obtain ⟨Sa5, u5, er5, rfl, hu5, ht5, T5, _⟩ := T4.ans he5
  have T5 := T5.less (L' := []) (fun k hk => by cases hk)
  clear he5 hu5 T4
  go_wp2_with fail
  refine (two_arg T5.swap off false _ V hv2 hd2 hnew (by simp)).mono ?_
  rintro e w6 he6
  obtain ⟨Sb6, u6, er6, rfl, hu6, ht6, T6, _⟩ := T5.swap.ans he6
  have U6 := T6.swap.less (L' := []) (fun k hk => by cases hk)
  clear T6
  have hwant := disc_want own off
  have hra : (ansRc own [] off true true).length ≤ 60 := by have := ansRc_len (own := own) (rc := []) (offers := off) (login := true) (disc := true); simpa using this
  have hrb : (ansRc own [] off true false).length ≤ 60 := by have := ansRc_len (own := own) (rc := []) (offers := off) (login := true) (disc := false); simpa using this
  obtain ⟨ra, hRa⟩ : ∃ x, ansRc own [] off true true = x := ⟨_, rfl⟩
  obtain ⟨rb, hRb⟩ : ∃ x, ansRc own [] off true false = x := ⟨_, rfl⟩
  rw [hRa, hRb] at hwant
  rw [hRa] at U6 hra
  rw [hRb] at U6 hrb
  have HW := Lib.hid hwant
  have eg : ∀ args w, (callFunc 38 args).run Tryz.prog w = .ok (.enter 38 args) w := enters_of Tryz.func38 (by kernel_rfl) rfl
  have h6a := U6.na.lt
  have h6b := U6.nb.lt
  have b6 := U6.b
  have s6 := U6.b.size
  have hcase : (er5 = .nilIface ∧ er6 = .nilIface) ∨ ((∃ t x, er5 = .iface t x) ∧ ∃ t x, er6 = .iface t x) := by
    rcases Nat.eq_zero_or_pos (codeE (ansE [] off true)) with h | h
    · rw [h] at ht5 ht6
      exact .inl ⟨ht5.nil, ht6.nil⟩
    · exact .inr ⟨ht5.iface (by omega), ht6.iface (by omega)⟩
  clear he6 hu6 T5 ht5 ht6 hRa hRb hwant
  rcases hcase with ⟨rfl, rfl⟩ | ⟨⟨t5, x5, rfl⟩, t6, x6, rfl⟩
  · go_wp2_with fail
    go_quiet (fail)
    obtain ⟨wq, hwq⟩ : ∃ W : World, w6.drewN nq = W := ⟨_, rfl⟩
    have hbq : Below w6.heap.size w6 wq := by rw [← hwq]; exact below_dK (Below.refl _ _) nq
    have Tq := U6.on hbq
    have bq := hbq.size
    rw [hwq]
    clear hwq U6
    go_wp2_with fail
    refine (nrec_own gb Sb6 own rb _ Tq.nb (by omega)).mono ?_
    rintro e w7 ⟨v7, rfl, ho7, hb7⟩
    have T7 := Tq.on hb7
    have b7 := T7.b
    have hdel := delf_any 38 #[] eg (fun q => !countsB q) rb v7 wq.heap.size w7 ho7 (by omega) (fun W hW q hq => by
      have := disc_clos q.1 q.2 W (V.on (b7.grown hW b7.size fun k hk => Nat.le_trans (Nat.le_trans s6 bq) (ho7.lt k hk).1))
      simpa using this)
    rw [HW.out] at hdel
    have HDEL := Lib.hid hdel
    have ho7l := ho7.lt
    obtain ⟨A7, cap7, rfl⟩ := ho7.form
    clear ho7 Tq hdel
    go_wp2_with fail
    refine HDEL.out.mono ?_
    rintro e w8 ⟨v8, rfl, ho8, hg8, _⟩
    have hb78 : Below wq.heap.size w7 w8 := (Below.refl _ _).grown hg8 hb7.size fun k hk => (ho7l k hk).1
    have T8 := T7.past hb78 (Nat.le_trans s6 bq) (fun k hk => Nat.lt_of_lt_of_le (h6a k hk) bq) (fun k hk => Nat.lt_of_lt_of_le (h6b k hk) bq) (fun k hk => by cases hk)
    have hrd8 := ho8.rd
    obtain ⟨A8, cap8, rfl⟩ := ho8.form
    clear ho8 T7 hg8 HDEL hb78
    go_wp2_with fail
    refine (nrec_any ga Sa5 own ra _ T8.na (by omega)).mono ?_
    rintro e w9 ⟨v9, rfl, hr9, hb9⟩
    have hrd9 := SRd.of_m hr9
    have hrd8 := hrd8.on hb9
    have b9 := (T8.on hb9).b
    obtain ⟨A9, cap9, rfl, _⟩ := hr9.form
    clear hr9 T8
    go_wp2_with fail
    refine (pequal_same ra _ _ _ hrd9 hrd8).mono ?_
    rintro e w10 ⟨rfl, kr, rfl⟩
    go_wp2_with fail
    go_ret
    exact ⟨rfl, below_dK b9 kr⟩
  · go_wp2_with fail
    go_quiet (fail)
    obtain ⟨wq, hwq⟩ : ∃ W : World, w6.drewN nq = W := ⟨_, rfl⟩
    have hbq : Below w6.heap.size w6 wq := by rw [← hwq]; exact below_dK (Below.refl _ _) nq
    have Tq := U6.on hbq
    have bq := hbq.size
    rw [hwq]
    clear hwq U6
    go_wp2_with fail
    refine (nrec_own gb Sb6 own rb _ Tq.nb (by omega)).mono ?_
    rintro e w7 ⟨v7, rfl, ho7, hb7⟩
    have T7 := Tq.on hb7
    have b7 := T7.b
    have hdel := delf_any 38 #[] eg (fun q => !countsB q) rb v7 wq.heap.size w7 ho7 (by omega) (fun W hW q hq => by
      have := disc_clos q.1 q.2 W (V.on (b7.grown hW b7.size fun k hk => Nat.le_trans (Nat.le_trans s6 bq) (ho7.lt k hk).1))
      simpa using this)
    rw [HW.out] at hdel
    have HDEL := Lib.hid hdel
    have ho7l := ho7.lt
    obtain ⟨A7, cap7, rfl⟩ := ho7.form
    clear ho7 Tq hdel
    go_wp2_with fail
    refine HDEL.out.mono ?_
    rintro e w8 ⟨v8, rfl, ho8, hg8, _⟩
    have hb78 : Below wq.heap.size w7 w8 := (Below.refl _ _).grown hg8 hb7.size fun k hk => (ho7l k hk).1
    have T8 := T7.past hb78 (Nat.le_trans s6 bq) (fun k hk => Nat.lt_of_lt_of_le (h6a k hk) bq) (fun k hk => Nat.lt_of_lt_of_le (h6b k hk) bq) (fun k hk => by cases hk)
    have hrd8 := ho8.rd
    obtain ⟨A8, cap8, rfl⟩ := ho8.form
    clear ho8 T7 hg8 HDEL hb78
    go_wp2_with fail
    refine (nrec_any ga Sa5 own ra _ T8.na (by omega)).mono ?_
    rintro e w9 ⟨v9, rfl, hr9, hb9⟩
    have hrd9 := SRd.of_m hr9
    have hrd8 := hrd8.on hb9
    have b9 := (T8.on hb9).b
    obtain ⟨A9, cap9, rfl, _⟩ := hr9.form
    clear hr9 T8
    go_wp2_with fail
    refine (pequal_same ra _ _ _ hrd9 hrd8).mono ?_
    rintro e w10 ⟨rfl, kr, rfl⟩
    go_wp2_with fail
    go_ret
    exact ⟨rfl, below_dK b9 kr⟩
end Go.Proofs.YtadhlnpegigadaaGreatDoor
