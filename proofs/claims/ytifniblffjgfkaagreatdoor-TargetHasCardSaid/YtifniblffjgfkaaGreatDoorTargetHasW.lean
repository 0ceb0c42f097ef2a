/- TargetHas: the walk; slices.Clone of strings. -/
import Derived.Test.YtifniblffjgfkaaGreatDoorTargetFact
import Derived.Test.YtifniblffjgfkaaGreatDoorStrRow
namespace Go.Proofs.YtifniblffjgfkaaGreatDoor
open Go.ChangeShapes Go.WideShapes Go.ChangeAt Go.RowKit Go.Shelf
set_option linter.unusedVariables false
set_option linter.unusedSimpArgs false
theorem box7h {w : World} {g : Nat} {t : TypeId} {a b c d e f h : Value} (hB : Blk w g t #[a, b, c, d, e, f, h]) : w.cell? ⟨g, 0, none⟩ = some a ∧ w.cell? ⟨g, 1, none⟩ = some b ∧ w.cell? ⟨g, 2, none⟩ = some c ∧ w.cell? ⟨g, 3, none⟩ = some d ∧ w.cell? ⟨g, 4, none⟩ = some e ∧ w.cell? ⟨g, 5, none⟩ = some f ∧ w.cell? ⟨g, 6, none⟩ = some h :=
  ⟨hB.cell 0, hB.cell 1, hB.cell 2, hB.cell 3, hB.cell 4, hB.cell 5, hB.cell 6⟩
def wB (l : List UInt8) : ByteArray := ⟨l.toArray⟩
theorem map_strV (ws : List (List UInt8)) : (ws.map wB).map Value.string = ws.map strV := by rw [List.map_map]; rfl
theorem clone_str (ws : List (List UInt8)) (v : Value) (w : World) (hv : WRd w v ws) (hl : ws.length * 16 ≤ 140737488351232) : Calls Tryz.prog 37 #[v] w fun e w' =>
    ∃ u, e = .returned u ∧ TRow w' w.heap.size u (ws.map wB) ∧ Below w.heap.size w w' := by
  obtain ⟨hlen, A, cap, rfl, h1, h2, h3⟩ := hv
  rcases ws with _ | ⟨x, r⟩
  · rcases A with _ | a
    · refine (Tryz.slices_Clone_string_nil _ _ w).mono ?_
      rintro e w' ⟨rfl, rfl⟩
      exact ⟨_, rfl, TRow.nil _ _, Below.refl _ _⟩
    · refine (Tryz.slices_Clone_string_zero a _ w).mono ?_
      rintro e w' ⟨v', rfl, hr, _, hb⟩
      exact ⟨_, rfl, MRow.of_own hr, hb⟩
  · obtain ⟨b, o, rfl, hb, hc⟩ := h3 (by simp)
    have hcl := Tryz.slices_Clone_string b o (x :: r).length cap ((x :: r).map wB) w (by simp) (by omega) (fun j hj => by
      refine hc j _ ?_
      rw [List.length_map] at hj
      rw [List.getElem?_map, List.getElem?_eq_getElem hj, List.getD_eq_getElem?_getD, List.getElem?_map, List.getElem?_eq_getElem hj]
      rfl)
    refine hcl.mono ?_
    rintro e w' ⟨v', rfl, hr, _, hb⟩
    have ht : ((x :: r).map wB).take (x :: r).length = (x :: r).map wB := List.take_of_length_le (by simp)
    rw [ht] at hr
    refine ⟨_, rfl, ?_, hb⟩
    have := MRow.of_own hr
    unfold TRow
    rw [List.length_map]
    exact this
theorem wpList_append_str2 (w : World) {ops : Array Oper} {rest : List Oper} {o : Oper} {a : Act} {Q : Exit → Act → World → Prop} (hgd : o.guard = none) (s x : Operand)
    (ho : o.op = .call { callee := .builtin .append, args := #[s, x], argTypes := #[70, 70] })
    (base : Nat) (v : Value) (l : List ByteArray) (hs : a.eval s = v) (hown : TRow w base v l)
    (ad : Addr) (p : ByteArray) (c : Nat) (hx : a.eval x = .slice (some ad) 1 c) (h0 : w.cell? (ad.add 0) = some (.string p))
    (hlen : (l.length + 1) * 16 ≤ 140737488355328) (hbase : base ≤ w.heap.size) {w0 : World} (hbel : Below base w0 w)
    (h : ∀ v' w', TRow w' base v' (l ++ [p]) → Below base w0 w' → w.grownBy w' v.ownBlock → wpList Tryz.prog ops Q rest (a.put o.dst v') w') : wpList Tryz.prog ops Q (o :: rest) a w := by
  obtain ⟨i0, hi, hz0, hz1, hz2⟩ := info_parts infoStr
  refine wpList_plain hgd fun _ hK => wp_append_m w s x _ ho base 9 i0 _ 1 16 Tryz.underlying70 hi hz0 hz1 hz2 rfl (by decide) v l.length _ hs hown ad 1 c [.string p] hx (by simp) ?_ ?_ (by unfold maxLen; omega) (by omega) hbase ?_
  · intro j u hu
    match j with
    | 0 => cases hu; exact h0
    | j + 1 => simp at hu
  · intro u hu
    simp at hu
    subst hu
    rfl
  · intro v' w' r1 r2 r3
    refine hK _ _ (h v' w' ?_ (hbel.grown r2 hbase fun k hk => (hown.lt k hk).1) r2)
    unfold TRow
    rw [List.length_append, List.map_append]
    exact r1
set_option maxRecDepth 20000 in
set_option maxHeartbeats 8000000 in
theorem targetHas_law (c : Cfg) (tv pv uv ov : Value) (X Z : ByteArray) (w : World) (hv : CfgAt w tv pv uv ov c) (hc : c.Small) (hlen : c.tg.length * 16 ≤ 140737488351232 ∧ c.po.length * 24 ≤ 140737488351232 ∧ c.us.length * 32 ≤ 140737488351232 ∧ c.own.length * 32 ≤ 140737488351232)
    (hX : X.size ≤ 140737488351232) (hZ : Z.size ≤ 140737488351232) (V : Env w) :
    Calls Tryz.prog 9 #[cfgV tv pv uv ov c, .string X, .string Z] w fun e w' => e = .returned (.bool true) ∧ Below w.heap.size w w' := by
  obtain ⟨A1, cap1, rfl, hm1⟩ := hv.1.form
  obtain ⟨A2, cap2, rfl⟩ : ∃ A cap, pv = .slice A c.po.length cap := by obtain ⟨_, A, cap, h, _⟩ := hv.2.1; exact ⟨A, cap, h⟩
  obtain ⟨A3, cap3, rfl⟩ : ∃ A cap, uv = .slice A c.us.length cap := by obtain ⟨_, A, cap, h, _⟩ := hv.2.2.1; exact ⟨A, cap, h⟩
  obtain ⟨A4, cap4, rfl⟩ : ∃ A cap, ov = .slice A c.own.length cap := by obtain ⟨_, A, cap, h, _⟩ := hv.2.2.2; exact ⟨A, cap, h⟩
  obtain ⟨g, hg⟩ : ∃ g, w.heap.size = g := ⟨_, rfl⟩
  have hcrow := fun w' (h : Below w.heap.size w w') => crowded_any c _ _ _ _ w' (hv.on h) hc
  have hhas := fun w' (h : Below w.heap.size w w') => has_any c _ _ _ _ Z w' (hv.on h)
  have HV := Lib.hid hv
  have HLEN := Lib.hid hlen.1
  have HC := Lib.hid hcrow
  have HH := Lib.hid hhas
  clear hcrow hhas hv hlen
  unfold cfgV at HH HC ⊢
  have hb0 : Below w.heap.size w (w.alloc (.cells #[.slice A1 c.tg.length cap1, .slice A2 c.po.length cap2, .slice A3 c.us.length cap3, .string c.sn, .string c.ss, .int .i64 c.lim, .slice A4 c.own.length cap4] 77)) := (Below.refl _ _).alloc (Nat.le_refl _) _
  have hB0 : Blk (w.alloc (.cells #[.slice A1 c.tg.length cap1, .slice A2 c.po.length cap2, .slice A3 c.us.length cap3, .string c.sn, .string c.ss, .int .i64 c.lim, .slice A4 c.own.length cap4] 77)) w.heap.size 77 #[.slice A1 c.tg.length cap1, .slice A2 c.po.length cap2, .slice A3 c.us.length cap3, .string c.sn, .string c.ss, .int .i64 c.lim, .slice A4 c.own.length cap4] := Blk.new w _ _
  go_enter Tryz.func9, Tryz.ntmps9
  go_wp2_with fail
  refine (listed_any _ (V.on hb0)).mono ?_
  rintro e w1 ⟨rfl, hb1⟩
  have hbw1 := below_step hb0 hb1
  have hB1 := hB0.below hb1 hB0.lt
  rw [hg] at hB1
  clear hb0 hb1 hB0
  obtain ⟨c0, c1, c2, c3, c4, c5, c6⟩ := box7h hB1
  go_wp2_with fail
  refine (HC.out _ hbw1).mono ?_
  rintro e w2 ⟨⟨b, rfl⟩, hb2⟩
  have hbw2 := below_step hbw1 hb2
  have hB2 := hB1.below hb2 hB1.lt
  clear hB1 c0 c1 c2 c3 c4 c5 c6 hb2 hbw1
  rcases b with _ | _
  rotate_left
  · go_wp2_with fail
    go_ret
    exact ⟨rfl, hbw2⟩
  by_cases h300 : (X.size : Int) + (Z.size : Int) > 300
  · go_wp2_with fail
    go_ret
    exact ⟨rfl, hbw2⟩
  obtain ⟨d0, d1, d2, d3, d4, d5, d6⟩ := box7h hB2
  have hB2' := hB2.alloc (.cells #[.slice A1 c.tg.length cap1, .slice A2 c.po.length cap2, .slice A3 c.us.length cap3, .string c.sn, .string c.ss, .int .i64 c.lim, .slice A4 c.own.length cap4] 77)
  obtain ⟨c0, c1, c2, c3, c4, c5, c6⟩ := box7h hB2'
  have hbd : Below w.heap.size w (w2.alloc (.cells #[.slice A1 c.tg.length cap1, .slice A2 c.po.length cap2, .slice A3 c.us.length cap3, .string c.sn, .string c.ss, .int .i64 c.lim, .slice A4 c.own.length cap4] 77)) := hbw2.alloc hbw2.size _
  have hBd := Blk.new w2 77 #[.slice A1 c.tg.length cap1, .slice A2 c.po.length cap2, .slice A3 c.us.length cap3, .string c.sn, .string c.ss, .int .i64 c.lim, .slice A4 c.own.length cap4]
  obtain ⟨g2, hg2⟩ : ∃ g2, w2.heap.size = g2 := ⟨_, rfl⟩
  rw [hg2] at hBd
  go_wp2_with fail
  refine (clone_str c.tg _ _ (HV.out.1.on hbd) HLEN.out).mono ?_
  rintro e w3 ⟨u, rfl, hu, hb3⟩
  obtain ⟨wd, hwd⟩ : ∃ W : World, w2.alloc (.cells #[.slice A1 c.tg.length cap1, .slice A2 c.po.length cap2, .slice A3 c.us.length cap3, .string c.sn, .string c.ss, .int .i64 c.lim, .slice A4 c.own.length cap4] 77) = W := ⟨_, rfl⟩
  rw [hwd] at hu hb3 hB2' hbd hBd
  have HDZ : Hid (wd.heap.size = g2 + 1) := Lib.hid (by rw [← hwd, ← hg2]; simp)
  clear hwd
  have hb3' : Below wd.heap.size wd (w3.alloc (.cells #[.string X] 9)) := hb3.alloc hb3.size _
  have hlen1 : ((c.tg.map wB).length + 1) * 16 ≤ 140737488355328 := by have := HLEN.out; rw [List.length_map]; omega
  clear c0 c1 c2 c3 c4 c5 c6 d0 d1 d2 d3 d4 d5 d6
  go_wp2_with (at_builtin; refine wpList_append_str2 _ rfl _ _ rfl wd.heap.size _ (c.tg.map wB) rfl (hu.alloc _) ⟨w3.heap.size, 0, none⟩ X 1 rfl (tcell0 _ _ _) hlen1 hb3'.size (w0 := wd) hb3' ?_)
  intro v4 w4 hr4 hb4 hg4
  have hB4 := hB2'.below hb4 hB2'.lt
  have hBd4 := hBd.below hb4 hBd.lt
  have z0 := hBd4.cell 0
  have y0 := hBd4.frozen 0
  obtain ⟨A5, cap5, rfl, _⟩ := hr4.form
  obtain ⟨n5, hn5⟩ : ∃ n, (c.tg ++ [X.data.toList]).length = n := ⟨_, rfl⟩
  have hll : (c.tg.map wB ++ [X]).length = n5 := by rw [← hn5]; simp
  unfold TRow at hr4
  rw [hll] at hr4 ⊢
  have hbw4 := below_step hbd hb4
  have hgg : g ≠ g2 := by have := hB2.lt; omega
  have hB5 := hB4.far (p := ⟨g2, 0, none⟩) hgg (.slice A5 n5 cap5)
  have hBd5 := hBd4.put 0 (.slice A5 n5 cap5)
  have hbw5 : Below w.heap.size w (w4.setCell ⟨g2, 0, none⟩ (.slice A5 n5 cap5)) := hbw4.setCell (by rw [← hg2]; exact hbw2.size) _
  have hr5 : MRow (w4.setCell ⟨g2, 0, none⟩ (.slice A5 n5 cap5)) wd.heap.size 9 1 (.slice A5 n5 cap5) n5 ((c.tg.map wB ++ [X]).map Value.string) := by
    refine MRow.keep hr4 fun k hk => Below.heap_setCell _ _ _ _ ?_
    have := (MRow.lt hr4 k hk).1
    have hdz := HDZ.out
    show k ≠ g2
    omega
  have hmap : (c.tg.map wB ++ [X]).map Value.string = (c.tg ++ [X.data.toList]).map strV := by
    rw [List.map_append, List.map_append, map_strV, List.map_cons, List.map_nil, List.map_cons, List.map_nil]
    congr 2
  have hwr : WRd (w4.setCell ⟨g2, 0, none⟩ (.slice A5 n5 cap5)) (.slice A5 n5 cap5) (c.tg ++ [X.data.toList]) := by
    unfold WRd
    rw [hn5, ← hmap]
    exact SRd.of_m hr5
  have HWR := Lib.hid hwr
  have HN5 := Lib.hid hn5
  clear hwr hn5 hll hmap hr5 hr4
  go_wp2_with fail
  obtain ⟨W5, hW5⟩ : ∃ W : World, w4.setCell ⟨g2, 0, none⟩ (.slice A5 n5 cap5) = W := ⟨_, rfl⟩
  have hwr := HWR.out
  rw [hW5] at hwr hB5 hBd5 hbw5 ⊢
  clear HWR hW5 hB4 hBd4 hb4 hg4 hbw4 hB2' hBd hb3 hb3' hu hbd z0 y0
  have zc0 : ∀ i : BW W5, i.v.cell? ⟨g, 0, none⟩ = some (.slice A1 c.tg.length cap1) := fun i => (hB5.below i.h hB5.lt).cell 0
  have zc1 : ∀ i : BW W5, i.v.cell? ⟨g, 1, none⟩ = some (.slice A2 c.po.length cap2) := fun i => (hB5.below i.h hB5.lt).cell 1
  have zc2 : ∀ i : BW W5, i.v.cell? ⟨g, 2, none⟩ = some (.slice A3 c.us.length cap3) := fun i => (hB5.below i.h hB5.lt).cell 2
  have zc3 : ∀ i : BW W5, i.v.cell? ⟨g, 3, none⟩ = some (.string c.sn) := fun i => (hB5.below i.h hB5.lt).cell 3
  have zc4 : ∀ i : BW W5, i.v.cell? ⟨g, 4, none⟩ = some (.string c.ss) := fun i => (hB5.below i.h hB5.lt).cell 4
  have zc5 : ∀ i : BW W5, i.v.cell? ⟨g, 5, none⟩ = some (.int .i64 c.lim) := fun i => (hB5.below i.h hB5.lt).cell 5
  have zc6 : ∀ i : BW W5, i.v.cell? ⟨g, 6, none⟩ = some (.slice A4 c.own.length cap4) := fun i => (hB5.below i.h hB5.lt).cell 6
  have zd0 : ∀ i : BW W5, i.v.cell? ⟨g2, 0, none⟩ = some (.slice A5 n5 cap5) := fun i => (hBd5.below i.h hBd5.lt).cell 0
  have zd1 : ∀ i : BW W5, i.v.cell? ⟨g2, 1, none⟩ = some (.slice A2 c.po.length cap2) := fun i => (hBd5.below i.h hBd5.lt).cell 1
  have zd2 : ∀ i : BW W5, i.v.cell? ⟨g2, 2, none⟩ = some (.slice A3 c.us.length cap3) := fun i => (hBd5.below i.h hBd5.lt).cell 2
  have zd3 : ∀ i : BW W5, i.v.cell? ⟨g2, 3, none⟩ = some (.string c.sn) := fun i => (hBd5.below i.h hBd5.lt).cell 3
  have zd4 : ∀ i : BW W5, i.v.cell? ⟨g2, 4, none⟩ = some (.string c.ss) := fun i => (hBd5.below i.h hBd5.lt).cell 4
  have zd5 : ∀ i : BW W5, i.v.cell? ⟨g2, 5, none⟩ = some (.int .i64 c.lim) := fun i => (hBd5.below i.h hBd5.lt).cell 5
  have zd6 : ∀ i : BW W5, i.v.cell? ⟨g2, 6, none⟩ = some (.slice A4 c.own.length cap4) := fun i => (hBd5.below i.h hBd5.lt).cell 6
  have hcd : ∀ i : BW W5, CfgAt i.v (.slice A5 n5 cap5) (.slice A2 c.po.length cap2) (.slice A3 c.us.length cap3) (.slice A4 c.own.length cap4) { c with tg := c.tg ++ [X.data.toList] } := fun i => ⟨hwr.on i.h, (HV.out.on (below_step hbw5 i.h)).2⟩
  have s1 : ∀ i : BW W5, Calls Tryz.prog 38 #[.agg #[.slice A5 n5 cap5, .slice A2 c.po.length cap2, .slice A3 c.us.length cap3, .string c.sn, .string c.ss, .int .i64 c.lim, .slice A4 c.own.length cap4], .string X] i.v fun e w' => e = .returned (.bool true) ∧ Below i.v.heap.size i.v w' := fun i => by
    have := has_any { c with tg := c.tg ++ [X.data.toList] } _ _ _ _ X i.v (hcd i)
    rw [show decide (X.data.toList ∈ ({ c with tg := c.tg ++ [X.data.toList] } : Cfg).tg) = true by simp] at this
    exact this
  by_cases hZX : Z.data.toList = X.data.toList
  · have e0 : (Z.toList == X.toList) = true := by rw [toList_of, toList_of, hZX]; simp
    have hE : Z = X := by rw [str_of Z, str_of X, hZX]
    subst hE
    clear hZX
    refine wp_region_quietB (by kernel_rfl) (by kernel_rfl) ?_
    repeat (first | go_big_quiet_skip | (go_big_quiet_want; go_big_quiet_op; first | go_big_quiet_on | (apply Exists.intro; refine ⟨fun _ => ?_, ?_⟩; ((go_at_call 38; with_reducible exact calls_bw (s1 _))); go_big_quiet_on)))
    refine wpQuiet_nil ?_
    rintro _ ⟨iq, rfl⟩
    go_wp2_with fail
    go_ret
    exact ⟨rfl, below_step hbw5 iq.h⟩
  · obtain ⟨M, hM⟩ : ∃ M, decide (Z.data.toList ∈ c.tg) = M := ⟨_, rfl⟩
    have s2 : ∀ i : BW W5, Calls Tryz.prog 38 #[.agg #[.slice A5 n5 cap5, .slice A2 c.po.length cap2, .slice A3 c.us.length cap3, .string c.sn, .string c.ss, .int .i64 c.lim, .slice A4 c.own.length cap4], .string Z] i.v fun e w' => e = .returned (.bool M) ∧ Below i.v.heap.size i.v w' := fun i => by
      have := has_any { c with tg := c.tg ++ [X.data.toList] } _ _ _ _ Z i.v (hcd i)
      rw [show decide (Z.data.toList ∈ ({ c with tg := c.tg ++ [X.data.toList] } : Cfg).tg) = M by rw [← hM]; simp [hZX]] at this
      exact this
    have s3 : ∀ i : BW W5, Calls Tryz.prog 38 #[.agg #[.slice A1 c.tg.length cap1, .slice A2 c.po.length cap2, .slice A3 c.us.length cap3, .string c.sn, .string c.ss, .int .i64 c.lim, .slice A4 c.own.length cap4], .string Z] i.v fun e w' => e = .returned (.bool M) ∧ Below i.v.heap.size i.v w' := fun i => by
      have := HH.out i.v (below_step hbw5 i.h)
      rw [hM] at this
      exact this
    have e0 : (Z.toList == X.toList) = false := by rw [toList_of, toList_of]; simpa using hZX
    have hE : ¬ Z = X := fun h => hZX (by rw [h])
    clear hZX hM
    refine wp_region_quietB (by kernel_rfl) (by kernel_rfl) ?_
    repeat (first | go_big_quiet_skip | (go_big_quiet_want; go_big_quiet_op; first | go_big_quiet_on | (apply Exists.intro; refine ⟨fun _ => ?_, ?_⟩; ((first | (go_at_call 38; with_reducible exact calls_bw (s1 _)) | (go_at_call 38; with_reducible exact calls_bw (s2 _)) | (go_at_call 38; with_reducible exact calls_bw (s3 _)))); go_big_quiet_on)))
    refine wpQuiet_nil ?_
    rintro _ ⟨iq, rfl⟩
    go_wp2_with fail
    go_ret
    exact ⟨rfl, below_step hbw5 iq.h⟩
end Go.Proofs.YtifniblffjgfkaaGreatDoor
