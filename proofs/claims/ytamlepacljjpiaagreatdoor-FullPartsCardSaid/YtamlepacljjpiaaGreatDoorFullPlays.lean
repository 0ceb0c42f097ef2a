/- The contracts of keep.some and keep.plays. -/
import Derived.Test.YtamlepacljjpiaaGreatDoorGff
import Derived.Test.YtamlepacljjpiaaGreatDoorFullLarge
import Derived.Test.YtamlepacljjpiaaGreatDoorGfd
namespace Go.Proofs.YtamlepacljjpiaaGreatDoor
open Go.ChangeShapes Go.WideShapes Go.ChangeAt Go.RowKit Go.Shelf
set_option linter.unusedVariables false
set_option linter.unusedSimpArgs false
theorem pd_form2 {w : World} {x : PD × PdPart} (hp : PdOk w x) : ∃ A cap, x.2.a = .slice A x.1.al.length cap := by
  obtain ⟨_, A, cap, hv, _⟩ := hp.2.2.2.2.1
  exact ⟨A, cap, hv⟩
theorem some_any (L : List (PD × PdPart)) (v : Value) (w : World) (hv : PdsRd w v L) : Calls Tryz.prog 13 #[v] w fun e w' => SaysB e ∧ Below w.heap.size w w' := by
  obtain ⟨N, hN⟩ : ∃ N, L.length = N := ⟨_, rfl⟩
  obtain ⟨A, cap, rfl⟩ : ∃ A cap, v = .slice A N cap := by obtain ⟨_, A, cap, hv, _⟩ := hv.1; exact ⟨A, cap, by rw [hv, hN]⟩
  have hmax : N ≤ 9223372036854775807 := by
    obtain ⟨_, A2, cap2, hv, h1, h2, _⟩ := hv.1
    unfold maxLen at h2
    omega
  have HV := Lib.hid hv
  have HN := Lib.hid hN
  clear hv hN
  go_enter Tryz.func13, Tryz.ntmps13
  go_wp2_with fail
  go_loopw [3, 8] (fun s i wr => ∃ (k : Nat) (n : Int), k ≤ N ∧ i = .int .i64 k ∧ s = .int .i64 n ∧ Below w.heap.size w wr) (fun _ i _ => N - (intOf i).toNat)
  case atStart => exact ⟨0, _, Nat.zero_le _, rfl, rfl, Below.refl _ _⟩
  case round =>
    obtain ⟨k, n, hk, rfl, rfl, hbw⟩ := hrel
    by_cases hlt : k < N
    · obtain ⟨p, hp⟩ : ∃ p, L[k]? = some p := ⟨_, List.getElem?_eq_getElem (by rw [HN.out]; exact hlt)⟩
      obtain ⟨b, o, cp, hv, hbl, c0, c1, c2, c3, c4, c5⟩ := PdsRd.pdu (HV.out.on hbw).1 hp
      injection hv with e1 e2 e3
      subst e1
      subst e3
      have hP := (HV.out.2 p (List.mem_of_getElem? hp)).on hbw
      obtain ⟨A1, cap1, hu1⟩ := pd_form hP
      obtain ⟨A2, cap2, hu2⟩ := pd_form2 hP
      obtain ⟨⟨op, now, fl, vals, al, data⟩, ⟨u, a⟩⟩ := p
      obtain ⟨_, _, k3, _, k5, _, k7, k8⟩ := hP
      simp only at k3 k5 k7 k8 c0 c1 c2 c3 c4 c5 hu1 hu2
      subst hu1
      subst hu2
      have hb1 : Below wr.heap.size wr (wr.alloc (.cells #[.int .i64 op, .bool now, .int .i64 fl, .slice A1 vals.length cap1, .slice A2 al.length cap2, .string data] 41)) := (Below.refl _ _).alloc (Nat.le_refl _) _
      have hlg := large_any op now fl vals (.slice A1 vals.length cap1) al (.slice A2 al.length cap2) data _ (k3.on hb1) (k5.on hb1) k7 k8
      have HLG := Lib.hid hlg
      clear hp e2 hlg k3 k5 k7
      go_wp2_with fail
      refine HLG.out.mono ?_
      rintro e w1 ⟨⟨b, rfl, _⟩, hb2⟩
      rcases b with _ | _
      · go_wp2_with fail
        go_roundw
        case rel => exact ⟨k + 1, _, by omega, by go_num, rfl, below_step hbw (below_step hb1 hb2)⟩
        case measure => simp [intOf]; omega
      · go_wp2_with fail
        go_ret
        exact ⟨⟨_, rfl⟩, below_step hbw (below_step hb1 hb2)⟩
    · go_wp2_with fail
      go_ret
      exact ⟨⟨_, rfl⟩, hbw⟩
/- a row of answers of one's own -/
def apsC (M : List (AP × Value)) : List Value := M.flatMap fun y => (apC y.1 y.2).toList
def OutRow (w : World) (base : Nat) (v : Value) (M : List (AP × Value)) : Prop := w.ownsRow base 41 6 v M.length (apsC M)
theorem apsC_len (M : List (AP × Value)) : (apsC M).length = M.length * 6 := by
  induction M with
  | nil => rfl
  | cons x M ih =>
    show ((apC x.1 x.2).toList ++ apsC M).length = _
    rw [List.length_append, ih, List.length_cons]
    show 6 + M.length * 6 = _
    omega
theorem OutRow.lt {w : World} {base : Nat} {v : Value} {M : List (AP × Value)} (h : OutRow w base v M) : ∀ k, v.ownBlock = some k → base ≤ k ∧ k < w.heap.size := World.ownsRow.lt h
theorem OutRow.keep {w w' : World} {base : Nat} {v : Value} {M : List (AP × Value)} (h : OutRow w base v M) (hk : ∀ k, v.ownBlock = some k → w'.heap[k]? = w.heap[k]?) : OutRow w' base v M := by
  refine ⟨h.1, ?_⟩
  rcases h.2 with hn | ⟨g, cap, cur, rfl, h2, h3, h4⟩
  · exact .inl hn
  · exact .inr ⟨g, cap, cur, rfl, h2, (hk g rfl).trans h3, h4⟩
theorem OutRow.ty {w : World} {base : Nat} {v : Value} {M : List (AP × Value)} (h : OutRow w base v M) : ∀ k, v.ownBlock = some k → ∃ cs fz, w.heap[k]? = some (.cells cs 41 fz) := by
  intro k hk
  rcases h.2 with ⟨rfl, h0⟩ | ⟨g, cap, cur, rfl, h2, h3, h4⟩
  · cases hk
  · injection hk with hk
    subst hk
    exact ⟨cur, _, h3⟩
theorem OutRow.nil (w : World) (base : Nat) : OutRow w base (.slice none 0 0) [] := World.ownsRow_nil w base _ _
theorem infoPd : (Tryz.prog.info? 41).map (fun i => (i.zero, i.size, i.bytes)) = some (some (.agg zeroPd), 6, 88) := by kernel_rfl
theorem wpList_append_out (w : World) {ops : Array Oper} {rest : List Oper} {o : Oper} {a : Act} {Q : Exit → Act → World → Prop} (hgd : o.guard = none) (s x : Operand)
    (ho : o.op = .call { callee := .builtin .append, args := #[s, x], argTypes := #[30, 30] })
    (base : Nat) (v : Value) (M : List (AP × Value)) (hs : a.eval s = v) (hown : OutRow w base v M)
    (vx : Value) (l : List AP) (hx : a.eval x = vx) {b2 : Nat} {S : List Nat} (hm : OutAt w b2 S vx l) (hlen : (M.length + l.length) * 88 ≤ 140737488355328) (hbase : base ≤ w.heap.size)
    (h : ∀ v' w' K, K.map (·.1) = l → OutRow w' base v' (M ++ K) → w.grownBy w' v.ownBlock → (v'.ownBlock = v.ownBlock ∨ v'.ownBlock = some w.heap.size) → wpList Tryz.prog ops Q rest (a.put o.dst v') w') : wpList Tryz.prog ops Q (o :: rest) a w := by
  obtain ⟨i0, hi, hz0, hz1, hz2⟩ := info_parts infoPd
  rcases l with _ | ⟨q, _ | ⟨q2, l⟩⟩
  · obtain rfl : vx = .slice none 0 0 := hm
    have hrun : (Builtin.append_ #[30, 30] o.type #[v, .slice none 0 0]).run Tryz.prog w = .ok v w := by
      rcases hown.2 with ⟨rfl, h0⟩ | ⟨g, cap', cur, rfl, _, _, hnc, _⟩
      · simp [Builtin.append_, run_underlying Tryz.underlying30, sizeOf, typeInfo, hi, Builtin.lenOf, Builtin.firstCells]
      · simp [Builtin.append_, run_underlying Tryz.underlying30, sizeOf, typeInfo, hi, Builtin.lenOf, Builtin.firstCells, hnc, storeCells]
    exact Lib.wpList_append_run w hgd s x _ _ ho v _ hs hx v w hrun (h v w [] rfl (by rw [List.append_nil]; exact hown) ⟨rfl, rfl, rfl, Nat.le_refl _, fun _ _ _ => rfl⟩ (.inl rfl))
  · obtain ⟨b, hv, rfl, hB, _, _, ⟨_, A, cap, rfl, _⟩, _⟩ := hm
    refine wpList_append_own_at w hgd s x _ ho base 41 i0 _ 6 88 Tryz.underlying30 hi hz0 hz1 hz2 rfl (by decide) v M.length _ hs hown ⟨b, 0, none⟩ 1 1 (apC q (.slice A q.vals.length cap)).toList hx rfl ?_ ?_ (by unfold maxLen; omega) (by simpa using hlen) hbase ?_
    · intro j u hu
      rw [Addr.add_lit, Nat.zero_add]
      have hj : j < 6 := (List.getElem?_eq_some_iff.1 hu).1
      have hc := hB.cell j
      rw [hc]
      rw [← hu, Array.getElem?_toList]
    · intro u hu
      simp only [apC, List.mem_cons, List.not_mem_nil, or_false] at hu
      rcases hu with rfl | rfl | rfl | rfl | rfl | rfl <;> rfl
    · intro v' w' r1 r2 _ r4
      refine h v' w' [(q, .slice A q.vals.length cap)] rfl ?_ r2 r4
      unfold OutRow
      have e : apsC (M ++ [(q, .slice A q.vals.length cap)]) = apsC M ++ (apC q (.slice A q.vals.length cap)).toList := by simp [apsC]
      rw [List.length_append, e]
      exact r1
  · exact hm.elim
theorem out_len {w : World} {base : Nat} {S : List Nat} {v : Value} {l : List AP} (h : OutAt w base S v l) : l.length ≤ 1 := by
  rcases l with _ | ⟨q, _ | ⟨q2, l⟩⟩
  · exact Nat.zero_le _
  · exact Nat.le_refl _
  · exact h.elim
theorem nf_grown {w w' : World} {row : Option Nat} (hg : w.grownBy w' row) : NF row.toList w w' := NF.grown (NF.refl _ w) hg (fun x hx => .inl (by rw [hx]; simp))
theorem pdu_str : (41 : TypeId) ≠ 9 := by decide
/- a row of answers grows: the session is as it was -/
theorem FullI.grown {w0 w w' : World} {S : List Nat} {f : Nat} {X : FP} {row : Option Nat} (h : FullI w0 w S f X) (hg : w.grownBy w' row) (hr : ∀ k, row = some k → k ∉ S ∧ w0.heap.size ≤ k) (ht : ∀ k, row = some k → ∃ cs fz, w.heap[k]? = some (.cells cs 41 fz)) : FullI w0 w' S f X := by
  obtain ⟨gn, gt, Sn, tv, pv, uv, ov, pc, hX, rfl⟩ := h
  refine (hX.grown hg hr fun hn k hk he => ?_).i
  obtain ⟨cs, fz, h1⟩ := hX.pt hn k hk
  obtain ⟨cs', fz', h2⟩ := ht k he
  rw [h1] at h2
  injection h2 with h2
  injection h2 with _ h3 _
  exact pdu_str h3.symm
theorem PdsRd.nf {w w' : World} {S : List Nat} {v : Value} {L : List (PD × PdPart)} (h : PdsRd w v L) (hf : NF S w w') (hv : 0 < L.length → ∀ k, v.ownBlock = some k → k ∉ S) (hx : ∀ x ∈ L, PdFar S x) : PdsRd w' v L :=
  ⟨srd_nf h.1 hf hv, fun x hm => (h.2 x hm).nf hf (hx x hm)⟩
/- all that PDUs ask for, one by one -/
def playsP (X : FP) (l : List PD) : List AP × FP := l.foldl (fun s p => (s.1 ++ (takeP s.2 p).1, (takeP s.2 p).2)) ([], X)
theorem plays_snoc (X : FP) (l : List PD) (p : PD) : playsP X (l ++ [p]) = ((playsP X l).1 ++ (takeP (playsP X l).2 p).1, (takeP (playsP X l).2 p).2) := by
  unfold playsP
  rw [List.foldl_append]
  rfl
def PlaysAt (w0 w : World) (S : List Nat) (f : Nat) (X' : FP) (l : List AP) (v : Value) (w' : World) : Prop :=
  ∃ M S', M.map (·.1) = l ∧ OutRow w' w.heap.size v M ∧ (∀ j, v.ownBlock = some j → j ∉ S') ∧ FullI w0 w' S' f X' ∧ NF S w w' ∧ (∀ k ∈ S', k ∈ S ∨ w.heap.size ≤ k)
set_option maxRecDepth 20000 in
set_option maxHeartbeats 4000000 in
theorem plays_any {w0 w : World} {S : List Nat} {f : Nat} {X : FP} (hI : FullI w0 w S f X) (V : Env w0) (L : List (PD × PdPart)) (v : Value) (hv : PdsRd w v L) (hvf : 0 < L.length → ∀ k, v.ownBlock = some k → k ∉ S) (hpf : ∀ x ∈ L, PdFar S x) (hl : L.length * 88 ≤ 140737488351232) :
    Calls Tryz.prog 20 #[.pointer (some ⟨f, 0, none⟩), v] w fun e w' => ∃ v', e = .returned v' ∧ PlaysAt w0 w S f (playsP X (L.map (·.1))).2 (playsP X (L.map (·.1))).1 v' w' := by
  obtain ⟨N, hN⟩ : ∃ N, L.length = N := ⟨_, rfl⟩
  rw [hN] at hl
  obtain ⟨A, cap, rfl⟩ : ∃ A cap, v = .slice A N cap := by obtain ⟨_, A, cap, hv, _⟩ := hv.1; exact ⟨A, cap, by rw [hv, hN]⟩
  have HV := Lib.hid hv
  have HN := Lib.hid hN
  have HVF := Lib.hid hvf
  have HPF := Lib.hid hpf
  have hlt := hI.lt
  have hb0 := hI.b
  have HI := Lib.hid hI
  have V0 := Lib.hid V
  have HLT := Lib.hid hlt
  have HB0 := Lib.hid hb0
  clear hv hN hvf hpf hlt hb0 hI V
  go_enter Tryz.func20, Tryz.ntmps20
  go_wp2_with fail
  go_loopw [5, 12] (fun s i wr => ∃ (k : Nat) (M : List (AP × Value)) (S' : List Nat), k ≤ N ∧ i = .int .i64 k ∧ M.length ≤ k ∧ M.map (·.1) = (playsP X ((L.map (·.1)).take k)).1 ∧ OutRow wr w.heap.size s M ∧ (∀ j, s.ownBlock = some j → j ∉ S') ∧ FullI w0 wr S' f (playsP X ((L.map (·.1)).take k)).2 ∧ NF S w wr ∧ (∀ j ∈ S', j ∈ S ∨ w.heap.size ≤ j)) (fun _ i _ => N - (intOf i).toNat)
  case atStart => exact ⟨0, [], S, Nat.zero_le _, rfl, Nat.le_refl _, rfl, OutRow.nil _ _, (fun j hj => by cases hj), HI.out, NF.refl _ _, fun j hj => .inl hj⟩
  case round =>
    obtain ⟨k, M, S', hk, rfl, hMl, hMp, hrow, hro, hI, hnf, hS'⟩ := hrel
    by_cases hlt : k < N
    · obtain ⟨p, hp⟩ : ∃ p, L[k]? = some p := ⟨_, List.getElem?_eq_getElem (by rw [HN.out]; exact hlt)⟩
      have hPds := HV.out.nf hnf HVF.out HPF.out
      obtain ⟨b, o, cp, hv, hbl, c0, c1, c2, c3, c4, c5⟩ := PdsRd.pdu hPds.1 hp
      injection hv with e1 e2 e3
      subst e1
      subst e3
      have hmem := List.mem_of_getElem? hp
      have hP := hPds.2 p hmem
      have hfar : PdFar S' p := (HPF.out p hmem).grow (HV.out.2 p hmem) hS'
      have htk : (L.map (·.1)).take (k + 1) = (L.map (·.1)).take k ++ [p.1] := by
        rw [List.take_add_one, List.getElem?_map, hp]
        rfl
      have HTK := Lib.hid htk
      obtain ⟨Y, hY⟩ : ∃ Y, (playsP X ((L.map (·.1)).take k)).2 = Y := ⟨_, rfl⟩
      rw [hY] at hI
      have HMP := Lib.hid hMp
      have HY := Lib.hid hY
      obtain ⟨A', cap', hu⟩ := pd_form hP
      obtain ⟨B', bcap', hua⟩ := pd_form2 hP
      obtain ⟨⟨op, now, fl, vals, al, data⟩, ⟨u, a⟩⟩ := p
      simp only at hu hua c0 c1 c2 c3 c4 c5
      subst hu
      subst hua
      have hb1 : Below wr.heap.size wr (wr.alloc (.cells #[.int .i64 op, .bool now, .int .i64 fl, .slice A' vals.length cap', .slice B' al.length bcap', .string data] 41)) := (Below.refl _ _).alloc (Nat.le_refl _) _
      have htake := ftake_any (hI.on hb1) V0.out (⟨op, now, fl, vals, al, data⟩, ⟨.slice A' vals.length cap', .slice B' al.length bcap'⟩) (hP.on hb1) hfar
      have HT := Lib.hid htake
      have HROW := Lib.hid hrow
      have HNF := Lib.hid hnf
      have HS' := Lib.hid hS'
      have HRO := Lib.hid hro
      have HII := Lib.hid hI
      have HBB := Lib.hid hb1
      clear hp e2 htake hP hPds hI hfar htk hMp hY hrow hnf hS' hro hb1 hmem
      go_wp2_with fail
      refine HT.out.mono ?_
      rintro e w2 ⟨v2, rfl, S2, hI2, hN2, hS2, hO2⟩
      have hrl := HROW.out.lt
      have hz1 := HBB.out.size
      have hzz : wr.heap.size < (wr.alloc (.cells #[.int .i64 op, .bool now, .int .i64 fl, .slice A' vals.length cap', .slice B' al.length bcap', .string data] 41)).heap.size := by rw [szA]; omega
      have hnf2 : NF S' wr w2 := (NF.of_below HBB.out).trans hN2 (fun x hx => .inl hx)
      have hrow2 : OutRow w2 w.heap.size _ M := HROW.out.keep fun j hj => hnf2.block j (hrl j hj).2 (HRO.out j hj)
      have hro2 : ∀ j, Value.ownBlock _ = some j → j ∉ S2 := fun j hj hm => by
        rcases hS2 j hm with h1 | h1
        · exact HRO.out j hj h1
        · have := (hrl j hj).2; omega
      have hwz : w.heap.size ≤ w2.heap.size := Nat.le_trans HNF.out.size hnf2.size
      have hol := out_len hO2
      have HO := Lib.hid hO2
      have HR2 := Lib.hid hrow2
      have HQ2 := Lib.hid hro2
      have HI2 := Lib.hid hI2
      have HN2 := Lib.hid hnf2
      have HS2 := Lib.hid (show ∀ j ∈ S2, j ∈ S ∨ w.heap.size ≤ j from fun j hm => by
        rcases hS2 j hm with h1 | h1
        · exact HS'.out j h1
        · have := HNF.out.size; exact .inr (by omega))
      clear hO2 hrow2 hro2 hI2 hnf2 hS2 hN2
      go_wp2_with (at_builtin; refine wpList_append_out _ rfl _ _ rfl w.heap.size _ M rfl HR2.out v2 _ rfl HO.out (by omega) hwz ?_)
      intro v3 w3 K hK hrow3 hgr hv3
      have hr2 := HR2.out.lt
      have hI3 := HI2.out.grown hgr (fun j hj => ⟨HQ2.out j hj, by have := (hr2 j hj).1; have := HB0.out.size; omega⟩) HR2.out.ty
      have hN3 : NF S w w3 := (HNF.out.trans HN2.out (fun x hx => HS'.out x hx)).trans (nf_grown hgr) (fun x hx => .inr (hr2 x (by simpa using hx)).1)
      go_wp2_with fail
      go_roundw
      case rel =>
        refine ⟨k + 1, M ++ K, S2, by omega, by go_num, ?_, ?_, hrow3, ?_, ?_, hN3, HS2.out⟩
        · have hKl := congrArg List.length hK
          rw [List.length_map] at hKl
          rw [List.length_append]
          omega
        · rw [HTK.out, plays_snoc, List.map_append, HMP.out, hK, HY.out]
        · intro j hj hm
          rcases hv3 with h1 | h1
          · rw [h1] at hj
            exact HQ2.out j hj hm
          · rw [h1] at hj
            injection hj with hj
            have := (HI2.out.lt j hm).1
            omega
        · rw [HTK.out, plays_snoc, HY.out]
          exact hI3
      case measure => simp [intOf]; omega
    · have htk : (L.map (·.1)).take k = L.map (·.1) := List.take_of_length_le (by rw [List.length_map, HN.out]; omega)
      rw [htk] at hMp hI
      have HZ := Lib.hid hMp
      have HII := Lib.hid hI
      have HROW := Lib.hid hrow
      clear hMp hI hrow
      go_wp2_with fail
      go_ret
      exact ⟨_, rfl, M, S', HZ.out, HROW.out, hro, HII.out, hnf, hS'⟩
end Go.Proofs.YtamlepacljjpiaaGreatDoor
