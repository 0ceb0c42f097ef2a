/- FullRow FullS FullOps FullMake FullRefuse. -/
import Derived.Test.YtamlepacljjpiaaGreatDoorStrRow
import Derived.Test.YtamlepacljjpiaaGreatDoorGheadb
import Derived.Lib.SliceRun
import Derived.Lib.AppendZeros
import Derived.Test.YtamlepacljjpiaaGreatDoorGfa
import Derived.Test.YtamlepacljjpiaaGreatDoorNegoTwo
import Derived.Deep.RegionHeld3
/- Rows of numbers and of strings: several more. -/
namespace Go.Proofs.YtamlepacljjpiaaGreatDoor
open Go.ChangeShapes Go.WideShapes Go.ChangeAt Go.RowKit
set_option linter.unusedVariables false
theorem wpList_append_nums (w : World) {ops : Array Oper} {rest : List Oper} {o : Oper} {a : Act} {Q : Exit → Act → World → Prop} (hgd : o.guard = none) (s x : Operand)
    (ho : o.op = .call { callee := .builtin .append, args := #[s, x], argTypes := #[36, 36] })
    (base : Nat) (v : Value) (l : List Nat) (hs : a.eval s = v) (hown : VRow w base v l)
    (vx : Value) (m : List Nat) (hx : a.eval x = vx) (hm : SRd w vx 1 m.length (m.map u64V)) (hlen : (l.length + m.length) * 8 ≤ 140737488355328) (hbase : base ≤ w.heap.size) {w0 : World} (hbel : Below base w0 w)
    (h : ∀ v' w', VRow w' base v' (l ++ m) → Below base w0 w' → w.grownBy w' v.ownBlock → wpList Tryz.prog ops Q rest (a.put o.dst v') w') : wpList Tryz.prog ops Q (o :: rest) a w := by
  obtain ⟨i0, hi, hz0, hz1, hz2⟩ := info_parts infoU64
  obtain ⟨h1, A, cap, rfl, h2, h3, h4⟩ := hm
  rcases A with _ | ad
  · have hm0 : m = [] := by
      rcases m with _ | ⟨p, m⟩
      · rfl
      · obtain ⟨b, o, hA, _⟩ := h4 (by simp)
        cases hA
    subst hm0
    have hrun : (Builtin.append_ #[36, 36] o.type #[v, .slice none 0 cap]).run Tryz.prog w = .ok v w := by
      rcases hown.2 with ⟨rfl, h0⟩ | ⟨g, cap', cur, rfl, _, _, hnc, _⟩
      · simp [Builtin.append_, run_underlying Tryz.underlying36, sizeOf, typeInfo, hi, Builtin.lenOf, Builtin.firstCells]
      · simp [Builtin.append_, run_underlying Tryz.underlying36, sizeOf, typeInfo, hi, Builtin.lenOf, Builtin.firstCells, hnc, storeCells]
    refine Lib.wpList_append_run w hgd s x _ _ ho v _ hs hx v w hrun (h v w (by rw [List.append_nil]; exact hown) hbel ⟨rfl, rfl, rfl, Nat.le_refl _, fun _ _ _ => rfl⟩)
  · refine wpList_plain hgd fun _ hK => wp_append_m w s x _ ho base 49 i0 _ 1 8 Tryz.underlying36 hi hz0 hz1 hz2 rfl (by decide) v l.length _ hs hown ad m.length cap (m.map u64V) hx (by rw [List.length_map, Nat.mul_one]) ?_ ?_ (by unfold maxLen; omega) (by omega) hbase ?_
    · intro j u hu
      have hpos : 0 < m.length := by
        have := (List.getElem?_eq_some_iff.1 hu).1
        rw [List.length_map] at this
        omega
      obtain ⟨b, o, hA, _, hc⟩ := h4 hpos
      obtain rfl := Option.some.inj hA
      rw [Addr.add_lit]
      exact hc j u hu
    · intro u hu
      obtain ⟨q, _, rfl⟩ := List.mem_map.1 hu
      rfl
    · intro v' w' r1 r2 _
      refine hK _ _ (h v' w' ?_ (hbel.grown r2 hbase fun k hk => (hown.lt k hk).1) r2)
      unfold VRow
      rw [List.length_append, List.map_append]
      exact r1
theorem wpList_append_strs (w : World) {ops : Array Oper} {rest : List Oper} {o : Oper} {a : Act} {Q : Exit → Act → World → Prop} (hgd : o.guard = none) (s x : Operand)
    (ho : o.op = .call { callee := .builtin .append, args := #[s, x], argTypes := #[22, 22] })
    (base : Nat) (v : Value) (l : List ByteArray) (hs : a.eval s = v) (hown : TRow w base v l)
    (vx : Value) (m : List ByteArray) (hx : a.eval x = vx) (hm : SRd w vx 1 m.length (m.map Value.string)) (hlen : (l.length + m.length) * 16 ≤ 140737488355328) (hbase : base ≤ w.heap.size) {w0 : World} (hbel : Below base w0 w)
    (h : ∀ v' w', TRow w' base v' (l ++ m) → Below base w0 w' → w.grownBy w' v.ownBlock → wpList Tryz.prog ops Q rest (a.put o.dst v') w') : wpList Tryz.prog ops Q (o :: rest) a w := by
  obtain ⟨i0, hi, hz0, hz1, hz2⟩ := info_parts infoStr
  obtain ⟨h1, A, cap, rfl, h2, h3, h4⟩ := hm
  rcases A with _ | ad
  · have hm0 : m = [] := by
      rcases m with _ | ⟨p, m⟩
      · rfl
      · obtain ⟨b, o, hA, _⟩ := h4 (by simp)
        cases hA
    subst hm0
    have hrun : (Builtin.append_ #[22, 22] o.type #[v, .slice none 0 cap]).run Tryz.prog w = .ok v w := by
      rcases hown.2 with ⟨rfl, h0⟩ | ⟨g, cap', cur, rfl, _, _, hnc, _⟩
      · simp [Builtin.append_, run_underlying Tryz.underlying22, sizeOf, typeInfo, hi, Builtin.lenOf, Builtin.firstCells]
      · simp [Builtin.append_, run_underlying Tryz.underlying22, sizeOf, typeInfo, hi, Builtin.lenOf, Builtin.firstCells, hnc, storeCells]
    refine Lib.wpList_append_run w hgd s x _ _ ho v _ hs hx v w hrun (h v w (by rw [List.append_nil]; exact hown) hbel ⟨rfl, rfl, rfl, Nat.le_refl _, fun _ _ _ => rfl⟩)
  · refine wpList_plain hgd fun _ hK => wp_append_m w s x _ ho base 9 i0 _ 1 16 Tryz.underlying22 hi hz0 hz1 hz2 rfl (by decide) v l.length _ hs hown ad m.length cap (m.map Value.string) hx (by rw [List.length_map, Nat.mul_one]) ?_ ?_ (by unfold maxLen; omega) (by omega) hbase ?_
    · intro j u hu
      have hpos : 0 < m.length := by
        have := (List.getElem?_eq_some_iff.1 hu).1
        rw [List.length_map] at this
        omega
      obtain ⟨b, o, hA, _, hc⟩ := h4 hpos
      obtain rfl := Option.some.inj hA
      rw [Addr.add_lit]
      exact hc j u hu
    · intro u hu
      obtain ⟨q, _, rfl⟩ := List.mem_map.1 hu
      rfl
    · intro v' w' r1 r2 _
      refine hK _ _ (h v' w' ?_ (hbel.grown r2 hbase fun k hk => (hown.lt k hk).1) r2)
      unfold TRow
      rw [List.length_append, List.map_append]
      exact r1
theorem step_append_numsL (w : World) {ops : Array Oper} {o : Oper} {a : Act} {K : Act → World → Prop} {Q : Exit → Act → World → Prop} {E : Prop} (hgd : o.guard = none) (s x : Operand)
    (ho : o.op = .call { callee := .builtin .append, args := #[s, x], argTypes := #[36, 36] })
    (base : Nat) (v : Value) (l : List Nat) (hs : a.eval s = v) (hown : VRow w base v l)
    (vx : Value) (m : List Nat) (hx : a.eval x = vx) (hm : SRd w vx 1 m.length (m.map u64V)) (hmne : 0 < m.length) (hlen : (l.length + m.length) * 8 ≤ 140737488355328) (hbase : base ≤ w.heap.size) {w0 : World} (hbel : Below base w0 w)
    (h : ∀ v' w', VRow w' base v' (l ++ m) → Below base w0 w' → w.grownBy w' v.ownBlock → K (a.put o.dst v') w') : if Region.wanted o (yielded ops a.tmps) = true then Oper.wp Tryz.prog o a w K Q else E := by
  rw [if_pos (by simp [Region.wanted, hgd])]
  obtain ⟨i0, hi, hz0, hz1, hz2⟩ := info_parts infoU64
  obtain ⟨h1, A, cap, rfl, h2, h3, h4⟩ := hm
  rcases A with _ | ad
  · obtain ⟨b, o, hA, _⟩ := h4 hmne
    cases hA
  · refine wp_append_m w s x _ ho base 49 i0 _ 1 8 Tryz.underlying36 hi hz0 hz1 hz2 rfl (by decide) v l.length _ hs hown ad m.length cap (m.map u64V) hx (by rw [List.length_map, Nat.mul_one]) ?_ ?_ (by unfold maxLen; omega) (by omega) hbase ?_
    · intro j u hu
      have hpos : 0 < m.length := by
        have := (List.getElem?_eq_some_iff.1 hu).1
        rw [List.length_map] at this
        omega
      obtain ⟨b, o, hA, _, hc⟩ := h4 hpos
      obtain rfl := Option.some.inj hA
      rw [Addr.add_lit]
      exact hc j u hu
    · intro u hu
      obtain ⟨q, _, rfl⟩ := List.mem_map.1 hu
      rfl
    · intro v' w' r1 r2 _
      refine h v' w' ?_ (hbel.grown r2 hbase fun k hk => (hown.lt k hk).1) r2
      unfold VRow
      rw [List.length_append, List.map_append]
      exact r1
theorem step_append_strsL (w : World) {ops : Array Oper} {o : Oper} {a : Act} {K : Act → World → Prop} {Q : Exit → Act → World → Prop} {E : Prop} (hgd : o.guard = none) (s x : Operand)
    (ho : o.op = .call { callee := .builtin .append, args := #[s, x], argTypes := #[22, 22] })
    (base : Nat) (v : Value) (l : List ByteArray) (hs : a.eval s = v) (hown : TRow w base v l)
    (vx : Value) (m : List ByteArray) (hx : a.eval x = vx) (hm : SRd w vx 1 m.length (m.map Value.string)) (hmne : 0 < m.length) (hlen : (l.length + m.length) * 16 ≤ 140737488355328) (hbase : base ≤ w.heap.size) {w0 : World} (hbel : Below base w0 w)
    (h : ∀ v' w', TRow w' base v' (l ++ m) → Below base w0 w' → w.grownBy w' v.ownBlock → K (a.put o.dst v') w') : if Region.wanted o (yielded ops a.tmps) = true then Oper.wp Tryz.prog o a w K Q else E := by
  rw [if_pos (by simp [Region.wanted, hgd])]
  obtain ⟨i0, hi, hz0, hz1, hz2⟩ := info_parts infoStr
  obtain ⟨h1, A, cap, rfl, h2, h3, h4⟩ := hm
  rcases A with _ | ad
  · obtain ⟨b, o, hA, _⟩ := h4 hmne
    cases hA
  · refine wp_append_m w s x _ ho base 9 i0 _ 1 16 Tryz.underlying22 hi hz0 hz1 hz2 rfl (by decide) v l.length _ hs hown ad m.length cap (m.map Value.string) hx (by rw [List.length_map, Nat.mul_one]) ?_ ?_ (by unfold maxLen; omega) (by omega) hbase ?_
    · intro j u hu
      have hpos : 0 < m.length := by
        have := (List.getElem?_eq_some_iff.1 hu).1
        rw [List.length_map] at this
        omega
      obtain ⟨b, o, hA, _, hc⟩ := h4 hpos
      obtain rfl := Option.some.inj hA
      rw [Addr.add_lit]
      exact hc j u hu
    · intro u hu
      obtain ⟨q, _, rfl⟩ := List.mem_map.1 hu
      rfl
    · intro v' w' r1 r2 _
      refine h v' w' ?_ (hbel.grown r2 hbase fun k hk => (hown.lt k hk).1) r2
      unfold TRow
      rw [List.length_append, List.map_append]
      exact r1
end Go.Proofs.YtamlepacljjpiaaGreatDoor

/- A session in memory: its blocks, and what a call may change of them. -/
namespace Go.Proofs.YtamlepacljjpiaaGreatDoor
open Go.ChangeShapes Go.WideShapes Go.ChangeAt Go.RowKit Go.Shelf
set_option linter.unusedVariables false
def fullCs (gn gt : Nat) (tv pv uv ov pc : Value) (X : FP) : Array Value := #[.pointer (some ⟨gn, 0, none⟩), tv, pv, uv, .string X.conf.sn, .string X.conf.ss, .int .i64 X.conf.lim, ov, .string X.name, .bool X.disc, .int .u32 X.stat, .int .u32 X.cmd, .pointer (some ⟨gt, 0, none⟩), pc, .bool X.closed]
/- what is so of a session all along -/
structure FP.Ok (X : FP) : Prop where
  cs : X.conf.Small
  cr : cRight X.conf = none
  st : X.stat < 4294967296
  cm : X.cmd < 4294967296
  tx : X.txt.size ≤ 8192
  nw : nNewR X.own = none
  rc : RecOk X.rc
  nm : X.name.size ≤ 140737488351232
  pz : X.pcs.length ≤ 20000
/- the row of pieces is one of strings -/
def PcTy (w : World) (pc : Value) (n : Nat) : Prop := 0 < n → ∀ k, pc.ownBlock = some k → ∃ cs fz, w.heap[k]? = some (.cells cs 9 fz)
theorem PcTy.nf {w w' : World} {pc : Value} {n : Nat} {S : List Nat} (h : PcTy w pc n) (hf : NF S w w') (hk : 0 < n → ∀ k, pc.ownBlock = some k → k ∉ S) : PcTy w' pc n := by
  intro hn k hp
  obtain ⟨cs, fz, hc⟩ := h hn k hp
  have hlt : k < w.heap.size := by
    by_cases hlt : k < w.heap.size
    · exact hlt
    · rw [Array.getElem?_eq_none (by omega)] at hc
      cases hc
  exact ⟨cs, fz, (hf.block k hlt (hk hn k hp)).trans hc⟩
theorem PcTy.on {w w' : World} {pc : Value} {n : Nat} (h : PcTy w pc n) (hb : Below w.heap.size w w') : PcTy w' pc n := h.nf (S := []) (NF.of_below hb) (fun _ _ _ hm => by cases hm)
theorem PcTy.zero {w : World} {pc : Value} : PcTy w pc 0 := fun h => absurd h (Nat.lt_irrefl 0)
theorem PcTy.of_row {w : World} {base n : Nat} {v : Value} {xs : List Value} (h : MRow w base 9 1 v n xs) : PcTy w v n := by
  intro hn k hk
  rcases h.2 with ⟨rfl, h0⟩ | ⟨g, cap, cur, rfl, h2, h3, h4⟩
  · omega
  · injection hk with hk
    subst hk
    obtain ⟨lo, hi, h5, _⟩ := h3
    exact ⟨cur, _, h5⟩
structure FullX (w0 w : World) (f gn gt : Nat) (Sn : List Nat) (tv pv uv ov pc : Value) (X : FP) : Prop where
  b : Below w0.heap.size w0 w
  fb : Blk w f 82 (fullCs gn gt tv pv uv ov pc X)
  nh : NegoH w Sn gn X.own X.rc
  gb : GBlk w gt X.txt 8192
  cf : CfgAt w0 tv pv uv ov X.conf
  ps : SRd w pc 1 X.pcs.length (X.pcs.map .string)
  pt : PcTy w pc X.pcs.length
  pk : ∀ k, pc.ownBlock = some k → k ≠ f ∧ k ≠ gt ∧ k ∉ Sn
  ff : w0.heap.size ≤ f
  gg : w0.heap.size ≤ gt
  ss : ∀ k ∈ Sn, w0.heap.size ≤ k
  fg : f ≠ gt
  fs : f ∉ Sn
  gs : gt ∉ Sn
  ok : X.Ok
def fS (f gt : Nat) (Sn : List Nat) : List Nat := f :: gt :: Sn
def FullI (w0 w : World) (S : List Nat) (f : Nat) (X : FP) : Prop := ∃ gn gt Sn tv pv uv ov pc, FullX w0 w f gn gt Sn tv pv uv ov pc X ∧ S = fS f gt Sn
section
variable {w0 w w' : World} {f gn gt : Nat} {Sn : List Nat} {tv pv uv ov pc : Value} {X : FP}
theorem FullX.i (h : FullX w0 w f gn gt Sn tv pv uv ov pc X) : FullI w0 w (fS f gt Sn) f X := ⟨gn, gt, Sn, tv, pv, uv, ov, pc, h, rfl⟩
theorem FullX.lt (h : FullX w0 w f gn gt Sn tv pv uv ov pc X) : ∀ k ∈ fS f gt Sn, k < w.heap.size ∧ w0.heap.size ≤ k := by
  intro k hk
  simp only [fS, List.mem_cons] at hk
  rcases hk with rfl | rfl | hk
  · exact ⟨h.fb.lt, h.ff⟩
  · exact ⟨Blk.lt h.gb, h.gg⟩
  · exact ⟨h.nh.lt k hk, h.ss k hk⟩
theorem srd_nf {S : List Nat} {v : Value} {size n : Nat} {xs : List Value} (h : SRd w v size n xs) (hf : NF S w w') (hk : 0 < n → ∀ k, v.ownBlock = some k → k ∉ S) : SRd w' v size n xs := by
  obtain ⟨A, cap, rfl⟩ : ∃ A cap, v = .slice A n cap := by obtain ⟨_, A, cap, hv, _⟩ := h; exact ⟨A, cap, hv⟩
  exact h.blks hf.size fun hn a hA hlt => hf.block _ hlt (hk hn _ (by rw [hA]; rfl))
theorem FullX.on (h : FullX w0 w f gn gt Sn tv pv uv ov pc X) (hb : Below w.heap.size w w') : FullX w0 w' f gn gt Sn tv pv uv ov pc X :=
  ⟨below_step h.b hb, h.fb.below hb h.fb.lt, h.nh.on hb, Blk.below h.gb hb (Blk.lt h.gb), h.cf, h.ps.on hb, h.pt.on hb, h.pk, h.ff, h.gg, h.ss, h.fg, h.fs, h.gs, h.ok⟩
theorem FullX.conf (h : FullX w0 w f gn gt Sn tv pv uv ov pc X) : CfgAt w tv pv uv ov X.conf := h.cf.on h.b
theorem FullX.other {S : List Nat} (h : FullX w0 w f gn gt Sn tv pv uv ov pc X) (hf : NF S w w') (hb : Below w0.heap.size w0 w') (hd : ∀ k ∈ fS f gt Sn, k ∉ S) (hp : 0 < X.pcs.length → ∀ k, pc.ownBlock = some k → k ∉ S) : FullX w0 w' f gn gt Sn tv pv uv ov pc X :=
  ⟨hb, (hf.block f h.fb.lt (hd f (by simp [fS]))).trans h.fb, h.nh.other hf fun k hk => hd k (by simp [fS, hk]), (hf.block gt (Blk.lt h.gb) (hd gt (by simp [fS]))).trans h.gb, h.cf, srd_nf h.ps hf hp, h.pt.nf hf hp, h.pk, h.ff, h.gg, h.ss, h.fg, h.fs, h.gs, h.ok⟩
/- a cell of its own block is written -/
theorem FullX.put (h : FullX w0 w f gn gt Sn tv pv uv ov pc X) (i : Nat) (u : Value) {pc' : Value} {X' : FP} (hcs : (fullCs gn gt tv pv uv ov pc X).setIfInBounds i u = fullCs gn gt tv pv uv ov pc' X')
    (h1 : X'.own = X.own) (h2 : X'.rc = X.rc) (h3 : X'.txt = X.txt) (h4 : X'.conf = X.conf) (hps : SRd w pc' 1 X'.pcs.length (X'.pcs.map .string)) (hpk : ∀ k, pc'.ownBlock = some k → k ≠ f ∧ k ≠ gt ∧ k ∉ Sn) (hok : X'.Ok) (hpt : PcTy w pc' X'.pcs.length) :
    FullX w0 (w.setCell ⟨f, i, none⟩ u) f gn gt Sn tv pv uv ov pc' X' := by
  have hnf : NF [f] w (w.setCell ⟨f, i, none⟩ u) := (NF.refl [f] w).put (.inl (by simp)) i u
  refine ⟨h.b.setCell h.ff _, ?_, ?_, ?_, by rw [h4]; exact h.cf, srd_nf hps hnf fun _ k hk => by simpa using (hpk k hk).1, hpt.nf hnf fun _ k hk => by simpa using (hpk k hk).1, hpk, h.ff, h.gg, h.ss, h.fg, h.fs, h.gs, hok⟩
  · rw [← hcs]; exact h.fb.put i u
  · rw [h1, h2]; exact h.nh.other hnf fun k hk => by simp; rintro rfl; exact h.fs hk
  · rw [h3]; exact Blk.far h.gb (fun e => h.fg e.symm) u
end
/- an answer, and a list of at most one -/
def apC (a : AP) (hv : Value) : Array Value := #[.int .i64 a.op, .bool false, .int .i64 a.fl, hv, .slice none 0 0, .string a.data]
def ApAt (w : World) (base : Nat) (S : List Nat) (a : AP) (hv : Value) : Prop := SRd w hv 1 a.vals.length (a.vals.map u64V) ∧ ∀ k, hv.ownBlock = some k → base ≤ k ∧ k ∉ S
def OutAt (w : World) (base : Nat) (S : List Nat) (v : Value) : List AP → Prop
  | [] => v = .slice none 0 0
  | [a] => ∃ b hv, v = .slice (some ⟨b, 0, none⟩) 1 1 ∧ Blk w b 41 (apC a hv) ∧ base ≤ b ∧ b ∉ S ∧ ApAt w base S a hv
  | _ => False
theorem ApAt.nf {w w' : World} {base : Nat} {S S' : List Nat} {a : AP} {hv : Value} (h : ApAt w base S a hv) (hf : NF S w w') (hs : ∀ k ∈ S', k ∈ S ∨ w.heap.size ≤ k) (hz : ∀ k, hv.ownBlock = some k → k < w.heap.size) : ApAt w' base S' a hv :=
  ⟨srd_nf h.1 hf fun _ k hk => (h.2 k hk).2, fun k hk => ⟨(h.2 k hk).1, fun hm => by
    rcases hs k hm with h1 | h1
    · exact (h.2 k hk).2 h1
    · have := hz k hk; omega⟩⟩
/- what a take of a session leaves -/
def TookX (w0 w : World) (S : List Nat) (f : Nat) (X' : FP) (l : List AP) (v : Value) (w' : World) : Prop :=
  ∃ S', FullI w0 w' S' f X' ∧ NF S w w' ∧ (∀ k ∈ S', k ∈ S ∨ w.heap.size ≤ k) ∧ OutAt w' w.heap.size S' v l
theorem FullI.on {w0 w w' : World} {S : List Nat} {f : Nat} {X : FP} (h : FullI w0 w S f X) (hb : Below w.heap.size w w') : FullI w0 w' S f X := by
  obtain ⟨gn, gt, Sn, tv, pv, uv, ov, pc, hX, rfl⟩ := h
  exact (hX.on hb).i
theorem FullI.lt {w0 w : World} {S : List Nat} {f : Nat} {X : FP} (h : FullI w0 w S f X) : ∀ k ∈ S, k < w.heap.size ∧ w0.heap.size ≤ k := by
  obtain ⟨gn, gt, Sn, tv, pv, uv, ov, pc, hX, rfl⟩ := h
  exact hX.lt
theorem FullI.b {w0 w : World} {S : List Nat} {f : Nat} {X : FP} (h : FullI w0 w S f X) : Below w0.heap.size w0 w := by
  obtain ⟨gn, gt, Sn, tv, pv, uv, ov, pc, hX, rfl⟩ := h
  exact hX.b
theorem FullI.ok {w0 w : World} {S : List Nat} {f : Nat} {X : FP} (h : FullI w0 w S f X) : X.Ok := by
  obtain ⟨gn, gt, Sn, tv, pv, uv, ov, pc, hX, rfl⟩ := h
  exact hX.ok
/- a PDU that lies elsewhere -/
def PdFar (S : List Nat) (x : PD × PdPart) : Prop := (0 < x.1.vals.length → ∀ k, x.2.u.ownBlock = some k → k ∉ S) ∧ (0 < x.1.al.length → ∀ k, x.2.a.ownBlock = some k → k ∉ S)
theorem PdOk.nf {w w' : World} {S : List Nat} {x : PD × PdPart} (h : PdOk w x) (hf : NF S w w') (hk : PdFar S x) : PdOk w' x := ⟨h.1, h.2.1, srd_nf h.2.2.1 hf hk.1, h.2.2.2.1, srd_nf h.2.2.2.2.1 hf hk.2, h.2.2.2.2.2⟩
theorem srd_lt {w : World} {v : Value} {size n : Nat} {xs : List Value} (h : SRd w v size n xs) (hn : 0 < n) : ∀ k, v.ownBlock = some k → k < w.heap.size := by
  obtain ⟨_, A, cap, rfl, _, _, h4⟩ := h
  obtain ⟨b, o, rfl, hb, _⟩ := h4 hn
  intro k hk
  have : b = k := by injection hk
  omega
theorem PdFar.grow {w : World} {S S' : List Nat} {x : PD × PdPart} (h : PdFar S x) (hp : PdOk w x) (hs : ∀ k ∈ S', k ∈ S ∨ w.heap.size ≤ k) : PdFar S' x :=
  ⟨fun hn k hk hm => by
    rcases hs k hm with h1 | h1
    · exact h.1 hn k hk h1
    · have := srd_lt hp.2.2.1 hn k hk; omega, fun hn k hk hm => by
    rcases hs k hm with h1 | h1
    · exact h.2 hn k hk h1
    · have := srd_lt hp.2.2.2.2.1 hn k hk; omega⟩
theorem PdFar.above {w : World} {S : List Nat} {x : PD × PdPart} (hp : PdOk w x) (hs : ∀ k ∈ S, w.heap.size ≤ k) : PdFar S x :=
  ⟨fun hn k hk hm => by have := srd_lt hp.2.2.1 hn k hk; have := hs k hm; omega, fun hn k hk hm => by have := srd_lt hp.2.2.2.2.1 hn k hk; have := hs k hm; omega⟩
theorem PdFar.less {S S' : List Nat} {x : PD × PdPart} (h : PdFar S x) (hs : ∀ k ∈ S', k ∈ S) : PdFar S' x := ⟨fun hn k hk hm => h.1 hn k hk (hs k hm), fun hn k hk hm => h.2 hn k hk (hs k hm)⟩
end Go.Proofs.YtamlepacljjpiaaGreatDoor

/- The small contracts of package full: value, most, make, Refuse, refuse; keep.what. -/
namespace Go.Proofs.YtamlepacljjpiaaGreatDoor
open Go.ChangeShapes Go.WideShapes Go.ChangeAt Go.RowKit Go.Shelf
set_option linter.unusedVariables false
set_option linter.unusedSimpArgs false
def pdV (x : PD × PdPart) : Value := .agg #[.int .i64 x.1.op, .bool x.1.now, .int .i64 x.1.fl, x.2.u, x.2.a, .string x.1.data]
set_option maxRecDepth 20000 in
set_option maxHeartbeats 2000000 in
theorem fval_any (x : PD × PdPart) (r : HeadR) (n : ByteArray) (v : Nat) (hr : headRow x.1.op = some r) (hval : valGo r.2.2.2 x.1.vals n.data.toList = .inr v) (w : World) (hp : PdOk w x) (T : Tabs w) (hS : w.ShapedOpen Tryz.prog) :
    Calls Tryz.prog 54 #[pdV x, .string n] w fun e w' => e = .returned (.int .u64 v) ∧ Below w.heap.size w w' := by
  obtain ⟨⟨op, now, fl, vals, al, data⟩, ⟨u, a⟩⟩ := x
  obtain ⟨h0, _, hv, _, _, _, _, _⟩ := hp
  simp only at h0 hv hr hval
  unfold pdV
  simp only
  obtain ⟨A, cap, rfl⟩ : ∃ A cap, u = .slice A vals.length cap := by obtain ⟨_, A, cap, hv, _⟩ := hv; exact ⟨A, cap, hv⟩
  have hB0 := Blk.new w 41 #[.int .i64 op, .bool now, .int .i64 fl, .slice A vals.length cap, a, .string data]
  have hb0 : Below w.heap.size w (w.alloc (.cells #[.int .i64 op, .bool now, .int .i64 fl, .slice A vals.length cap, a, .string data] 41)) := (Below.refl _ _).alloc (Nat.le_refl _) _
  obtain ⟨W, hW⟩ : ∃ W : World, w.alloc (.cells #[.int .i64 op, .bool now, .int .i64 fl, .slice A vals.length cap, a, .string data] 41) = W := ⟨_, rfl⟩
  rw [hW] at hB0 hb0
  obtain ⟨g, hg⟩ : ∃ g, w.heap.size = g := ⟨_, rfl⟩
  rw [hg] at hB0
  have c0 := hB0.cell 0
  have c1 := hB0.cell 1
  have c2 := hB0.cell 2
  have c3 := hB0.cell 3
  have hv0 := hv.on hb0
  go_enter Tryz.func54, Tryz.ntmps54
  go_upto_region 1 with (fail)
  try refine wp_worldN hW ?_
  try rw [hg]
  go_wp2_with fail
  refine (value_at op now fl vals A cap r hr n v hval _ h0 hv0 (T.on hb0) (shaped_ons hS hb0)).mono ?_
  rintro e w1 ⟨rfl, hb1⟩
  go_wp2_with fail
  go_ret
  exact ⟨rfl, below_step hb0 hb1⟩
set_option maxRecDepth 20000 in
set_option maxHeartbeats 2000000 in
theorem fwhat_any (x : PD × PdPart) (r : HeadR) (n : ByteArray) (v : Nat) (hr : headRow x.1.op = some r) (hval : valGo r.2.2.2 x.1.vals n.data.toList = .inr v) (w : World) (hp : PdOk w x) (T : Tabs w) (hS : w.ShapedOpen Tryz.prog) :
    Calls Tryz.prog 17 #[pdV x, .string n] w fun e w' => e = .returned (.int .u64 v) ∧ Below w.heap.size w w' := by
  obtain ⟨⟨op, now, fl, vals, al, data⟩, ⟨u, a⟩⟩ := x
  obtain ⟨h0, _, hv, _, _, _, _, _⟩ := hp
  simp only at h0 hv hr hval
  unfold pdV
  simp only
  obtain ⟨A, cap, rfl⟩ : ∃ A cap, u = .slice A vals.length cap := by obtain ⟨_, A, cap, hv, _⟩ := hv; exact ⟨A, cap, hv⟩
  have hB0 := Blk.new w 41 #[.int .i64 op, .bool now, .int .i64 fl, .slice A vals.length cap, a, .string data]
  have hb0 : Below w.heap.size w (w.alloc (.cells #[.int .i64 op, .bool now, .int .i64 fl, .slice A vals.length cap, a, .string data] 41)) := (Below.refl _ _).alloc (Nat.le_refl _) _
  obtain ⟨W, hW⟩ : ∃ W : World, w.alloc (.cells #[.int .i64 op, .bool now, .int .i64 fl, .slice A vals.length cap, a, .string data] 41) = W := ⟨_, rfl⟩
  rw [hW] at hB0 hb0
  obtain ⟨g, hg⟩ : ∃ g, w.heap.size = g := ⟨_, rfl⟩
  rw [hg] at hB0
  have c0 := hB0.cell 0
  have c1 := hB0.cell 1
  have c2 := hB0.cell 2
  have c3 := hB0.cell 3
  have hv0 := hv.on hb0
  go_enter Tryz.func17, Tryz.ntmps17
  go_upto_region 1 with (fail)
  try refine wp_worldN hW ?_
  try rw [hg]
  go_wp2_with fail
  refine (value_at op now fl vals A cap r hr n v hval _ h0 hv0 (T.on hb0) (shaped_ons hS hb0)).mono ?_
  rintro e w1 ⟨rfl, hb1⟩
  go_wp2_with fail
  go_ret
  exact ⟨rfl, below_step hb0 hb1⟩
/- how many bytes may be sent at once -/
theorem mr_row : ∃ r, keyRow mrB.data.toList = some r := Option.isSome_iff_exists.1 (by decide +kernel)
theorem ownL_size {rc : PairL} (h : RecOk rc) (k : ByteArray) : (ba (ownL rc k)).size ≤ 300 := by
  unfold ownL
  rcases hf : findB rc k with _ | v
  · simp only
    unfold dflOf
    rcases hk : keyRow k.data.toList with _ | r
    · decide
    · have h1 := (keyT_len r (keyRow_mem hk)).2.2.2.2.2.2.2
      unfold dfl ba
      simp only
      split
      · decide
      · show (⟨r.dflt.toArray⟩ : ByteArray).size ≤ 300
        have : (⟨r.dflt.toArray⟩ : ByteArray).size = r.dflt.length := by simp [ByteArray.size]
        omega
  · simp only
    obtain ⟨q, hq, _, rfl⟩ := findB_some hf
    have := valB_len (h.2 q hq).2.2.2.2
    unfold vB at this
    rw [ba_of]
    rw [len_of] at this
    omega
set_option maxRecDepth 20000 in
set_option maxHeartbeats 2000000 in
theorem fmost_any {w0 w : World} {f gn gt : Nat} {Sn : List Nat} {tv pv uv ov pc : Value} {X : FP} (h : FullX w0 w f gn gt Sn tv pv uv ov pc X) (V : Env w0) : Calls Tryz.prog 80 #[.pointer (some ⟨f, 0, none⟩)] w fun e w' =>
    e = .returned (.int .i64 (mostN X.rc)) ∧ Below w.heap.size w w' := by
  have V1 := V.on h.b
  have c0 : w.cell? ⟨f, 0, none⟩ = some (.pointer (some ⟨gn, 0, none⟩)) := h.fb.cell 0
  obtain ⟨r, hr⟩ := mr_row
  have hz := ownL_size h.ok.rc mrB
  obtain ⟨D, hD⟩ : ∃ D, ba (ownL X.rc mrB) = D := ⟨_, rfl⟩
  have hDl : D.data.toList = ownL X.rc mrB := by rw [← hD]; rfl
  rw [hD] at hz
  have HD := Lib.hid hD
  have HR := Lib.hid hr
  have HX := Lib.hid h
  obtain ⟨M, hM⟩ : ∃ M, mostN X.rc = M := ⟨_, rfl⟩
  rw [hM]
  have HM := Lib.hid hM
  have HDL := Lib.hid hDl
  clear hD hr h hM hDl
  go_enter Tryz.func80, Tryz.ntmps80
  go_wp2_with fail
  refine (nval_some gn Sn X.own X.rc mrB D r _ HX.out.nh HR.out HD.out V1).mono ?_
  rintro e w1 ⟨rfl, hb1⟩
  have V2 := V1.on hb1
  go_wp2_with fail
  refine (numeral_any D 512 20000 (by omega) _ V2.E).mono ?_
  rintro e w2 ⟨rfl, hb2⟩
  have hb2w := below_step hb1 hb2
  have hm := HM.out
  unfold mostN at hm
  rw [← HDL.out] at hm
  unfold numeralV
  rcases hn : numP D.data.toList with _ | n
  · rw [hn] at hm
    simp only at hm ⊢
    obtain rfl := hm
    go_wp2_with fail
    go_ret
    exact ⟨rfl, hb2w⟩
  · rw [hn] at hm
    simp only at hm ⊢
    by_cases hlt : n < 512 ∨ 20000 < n
    · rw [if_pos hlt] at hm
      obtain rfl := hm
      rw [if_pos (by omega)]
      go_wp2_with fail
      go_ret
      exact ⟨rfl, hb2w⟩
    · rw [if_neg hlt] at hm
      obtain rfl := hm
      rw [if_neg (by omega)]
      have hn0 : n ≠ 0 := by omega
      go_wp2_with fail
      go_ret
      exact ⟨rfl, hb2w⟩
end Go.Proofs.YtamlepacljjpiaaGreatDoor

/- The contract of full.make: an answer is made, and counted. -/
namespace Go.Proofs.YtamlepacljjpiaaGreatDoor
open Go.ChangeShapes Go.WideShapes Go.ChangeAt Go.RowKit Go.Shelf
set_option linter.unusedVariables false
set_option linter.unusedSimpArgs false
theorem after_any (a : Nat) (w : World) : Calls Tryz.prog 16 #[.int .u32 a, .int .i64 31] w fun e w' => e = .returned (.int .u32 (aft a 31)) ∧ w = w' := by
  go_enter Tryz.func16, Tryz.ntmps16
  go_wp2_with fail
  go_ret
  refine ⟨?_, rfl⟩
  simp [aft]
theorem aft_lt (a k : Nat) : aft a k < 4294967296 := Nat.mod_lt _ (by decide)
theorem up_ok {X : FP} (h : X.Ok) : X.up.Ok := ⟨h.cs, h.cr, aft_lt _ _, h.cm, h.tx, h.nw, h.rc, h.nm, h.pz⟩
def MadeA (w0 wc : World) (f gn gt : Nat) (Sn : List Nat) (tv pv uv ov pc : Value) (X : FP) (a : AP) (e : Ending) (w' : World) : Prop :=
  ∃ hv, e = .returned (.agg (apC a hv)) ∧ ApAt w' wc.heap.size (fS f gt Sn) a hv ∧ FullX w0 w' f gn gt Sn tv pv uv ov pc X.up ∧ NF (fS f gt Sn) wc w'
def zeroPd : Array Value := #[.int .i64 0, .bool false, .int .i64 0, .slice none 0 0, .slice none 0 0, .string ⟨#[]⟩]
theorem rows_ne {w : World} {b b' : Nat} {e e' : TypeId} {z z' : Nat} {v v' : Value} {n n' : Nat} {xs xs' : List Value} (h : MRow w b e z v n xs) (h' : MRow w b' e' z' v' n' xs') (he : e ≠ e') : v.ownBlock = none ∨ v.ownBlock ≠ v'.ownBlock := by
  rcases h.2 with ⟨rfl, _⟩ | ⟨g, cap, cur, rfl, _, h3, _⟩
  · exact .inl rfl
  · refine .inr fun hq => ?_
    rcases h'.2 with ⟨rfl, _⟩ | ⟨g', cap', cur', rfl, _, h3', _⟩
    · cases hq
    · have hgg : g = g' := Option.some.inj hq
      subst hgg
      obtain ⟨lo, hi, h4, _⟩ := h3
      obtain ⟨lo', hi', h4', _⟩ := h3'
      rw [h4] at h4'
      injection h4' with h5
      injection h5 with h6 h7
      exact he h7
theorem str_u64 : (9 : TypeId) ≠ 49 := by decide
set_option maxRecDepth 20000 in
set_option maxHeartbeats 4000000 in
theorem fmake_any {w0 wc w : World} {f gn gt : Nat} {Sn : List Nat} {tv pv uv ov pc : Value} {X : FP} (h : FullX w0 wc f gn gt Sn tv pv uv ov pc X) (hb : Below wc.heap.size wc w) (V : Env w0) (op fl : Nat) (hop : op ≤ 63) (hfl : fl ≤ 255) (data : ByteArray) (ns : List ByteArray) (vs : List Nat) (nv vv : Value) (l : List Nat)
    (hn : TRow w wc.heap.size nv ns) (hv : VRow w wc.heap.size vv vs) (hnl : ns.length ≤ 10) (hvl : vs.length ≤ 10) (hvm : ∀ x ∈ vs, x < 18446744073709551616)
    (hm : makeR op fl ((ns ++ tail3).map (·.data.toList)) (vs ++ [X.stat, X.cmd, aft X.cmd 31]) = .inr l) :
    Calls Tryz.prog 81 #[.pointer (some ⟨f, 0, none⟩), .int .i64 op, .int .i64 fl, .string data, nv, vv] w fun e w' => MadeA w0 wc f gn gt Sn tv pv uv ov pc X ⟨op, fl, l, data⟩ e w' := by
  obtain ⟨r, hr⟩ : ∃ r, w.heap.size = r := ⟨_, rfl⟩
  have hlt := h.lt
  have HX := Lib.hid h
  have HM := Lib.hid hm
  have hst := h.ok.st
  have hcm := h.ok.cm
  have hfw : f < wc.heap.size := h.fb.lt
  have hcw := hb.size
  have hB0 : Blk (w.alloc (.cells zeroPd 41)) w.heap.size 41 zeroPd := Blk.new w _ _
  have hbc0 : Below wc.heap.size wc (w.alloc (.cells zeroPd 41)) := hb.alloc hcw _
  have hn0 := TRow.alloc hn (.cells zeroPd 41)
  have hv0 := MRow.alloc hv (.cells zeroPd 41)
  obtain ⟨W0, hW0⟩ : ∃ W : World, w.alloc (.cells zeroPd 41) = W := ⟨_, rfl⟩
  rw [hW0] at hB0 hbc0 hn0 hv0
  rw [hr] at hB0
  have hcw0 := hbc0.size
  have hrc : wc.heap.size ≤ r := by omega
  have hnr : ∀ k, nv.ownBlock = some k → k ≠ r := fun k hk => by have := (hn.lt k hk).2; omega
  have hvr : ∀ k, vv.ownBlock = some k → k ≠ r := fun k hk => by have := (hv.lt k hk).2; omega
  have hW0' : w.alloc (.cells #[.int .i64 0, .bool false, .int .i64 0, .slice none 0 0, .slice none 0 0, .string ⟨#[]⟩] 41) = W0 := hW0
  have HNR := Lib.hid hnr
  have HVR := Lib.hid hvr
  clear h hm hn hv hW0 hnr hvr
  go_enter Tryz.func81, Tryz.ntmps81
  go_upto_region 1 with (fail)
  try refine wp_worldN hW0' ?_
  try rw [hr]
  go_wp2_with (at_builtin; refine wpList_append_strs _ rfl _ _ rfl wc.heap.size nv ns rfl (MRow.alloc hn0 _) _ tail3 rfl (SRd.lit5 (n := 3) (Blk.new _ _ _)) (by simp [tail3]; omega) (by simp; omega) (w0 := wc) (hbc0.alloc hcw0 _) ?_)
  intro v1 w1 hr1 hb1 hg1
  have hB1 := (hB0.alloc (.cells #[.string nStat, .string nExp, .string nMax] 9)).grown hg1 (fun e => HNR.out r e.symm rfl)
  have hv1 := MRow.kept (MRow.alloc hv0 (.cells #[.string nStat, .string nExp, .string nMax] 9)) hg1 (by
    rcases rows_ne (MRow.alloc hv0 (.cells #[.string nStat, .string nExp, .string nMax] 9)) (MRow.alloc hn0 (.cells #[.string nStat, .string nExp, .string nMax] 9)) (Ne.symm str_u64) with h | h
    · exact .inl h
    · exact .inr h)
  have h1 := HX.out.on hb1
  have c4 : w1.cell? ⟨f, 10, none⟩ = some (.int .u32 X.stat) := h1.fb.cell 10
  have c5 : w1.cell? ⟨f, 11, none⟩ = some (.int .u32 X.cmd) := h1.fb.cell 11
  have hcw1 := hb1.size
  have hne1 := rows_ne hv1 hr1 (Ne.symm str_u64)
  have hst64 : X.stat < 18446744073709551616 := by omega
  have hcm64 : X.cmd < 18446744073709551616 := by omega
  have haf64 : aft X.cmd 31 < 4294967296 := aft_lt _ _
  obtain ⟨ST, hST⟩ : ∃ n, X.stat = n := ⟨_, rfl⟩
  obtain ⟨CM, hCM⟩ : ∃ n, X.cmd = n := ⟨_, rfl⟩
  obtain ⟨AF, hAF⟩ : ∃ n, aft X.cmd 31 = n := ⟨_, rfl⟩
  have hafc : aft CM 31 = AF := by rw [← hCM]; exact hAF
  have HAF := Lib.hid hafc
  rw [hST] at c4 hst hst64
  rw [hCM] at c5 hcm hcm64
  rw [hAF] at haf64
  have HST := Lib.hid hST
  have HCM := Lib.hid hCM
  have e1 : IntKind.u64.wrap (ST : Int) = ST := by rw [IntKind.wrap_u64]; omega
  have e2 : IntKind.u64.wrap (CM : Int) = CM := by rw [IntKind.wrap_u64]; omega
  have e3 : IntKind.u64.wrap (AF : Int) = AF := by rw [IntKind.wrap_u64]; omega
  have hc45 : ∀ W, Below wc.heap.size wc W → W.cell? ⟨f, 10, none⟩ = some (.int .u32 ST) ∧ W.cell? ⟨f, 11, none⟩ = some (.int .u32 CM) := fun W hW => ⟨by rw [← hST]; exact (HX.out.on hW).fb.cell 10, by rw [← hCM]; exact (HX.out.on hW).fb.cell 11⟩
  have HC45 := Lib.hid hc45
  have hlen2 : (vs.length + [ST, CM, AF].length) * 8 ≤ 140737488355328 := by simp; omega
  have hb1c := hb1
  clear hc45 hn0 hv0 hB0 hbc0 hg1 h1 hST hCM hAF hafc
  go_upto_region 2 with (fail)
  go_region_held3 (fun w' => w'.cell? ⟨f, 10, none⟩ = some (.int .u32 ST) ∧ w'.cell? ⟨f, 11, none⟩ = some (.int .u32 CM)) (first | go_keep | exact ⟨c4, c5⟩ | exact k45) ((first | (go_at_call 16; refine (after_any _ _).mono ?_; rw [HAF.out]; rintro e W2 ⟨rfl, rfl⟩) | (refine step_append_numsL _ (by rfl) _ _ (by rfl) wc.heap.size vv vs (by rfl) (by first | exact MRow.alloc hv1 _ | exact MRow.drew (MRow.alloc hv1 _) | exact MRow.alloc (MRow.drew hv1) _ | exact MRow.drewN (MRow.alloc hv1 _) _ | exact MRow.alloc (MRow.drewN hv1 _) _) _ [ST, CM, AF] (by rfl) (by first | exact SRd.lit5 (n := 3) (Blk.new _ _ _) | exact SRd.lit5 (n := 3) (Blk.drew (Blk.new _ _ _))) (Nat.zero_lt_succ _) hlen2 (by simp; omega) (w0 := wc) (by first | exact hb1.alloc hcw1 _ | exact (hb1.alloc hcw1 _).drew | exact hb1.drew.alloc hcw1 _) ?_; intro v2 w2 hr2 hb2 hg2; have k45 := HC45.out w2 hb2)))
  have hcw2 := hb2.size
  have hbad : v1.ownBlock = none ∨ v1.ownBlock ≠ vv.ownBlock := by
    rcases hne1 with h | h
    · rw [h]
      rcases hv : v1.ownBlock with _ | k
      · exact .inl rfl
      · exact .inr (by simp)
    · exact .inr (Ne.symm h)
  have hr1' := MRow.kept (MRow.drew (MRow.alloc hr1 (.cells #[.int .u64 ST, .int .u64 CM, .int .u64 AF] 49))) hg2 hbad
  have hB2 : Blk w2 r 41 zeroPd := Blk.grown (Blk.drew (hB1.alloc (.cells #[.int .u64 ST, .int .u64 CM, .int .u64 AF] 49))) hg2 (fun e => HVR.out r e.symm rfl)
  have hM' : makeR op fl ((ns ++ tail3).map (·.data.toList)) (vs ++ [ST, CM, AF]) = .inr l := by
    have := HM.out
    rw [HST.out, HCM.out, HAF.out] at this
    exact this
  have hv64 : ∀ v ∈ vs ++ [ST, CM, AF], v < 18446744073709551616 := by
    intro v hv
    simp only [List.mem_append, List.mem_cons, List.not_mem_nil, or_false] at hv
    rcases hv with hv | rfl | rfl | rfl
    · exact hvm v hv
    · exact hst64
    · exact hcm64
    · omega
  have V2 := V.on (HX.out.on hb2).b
  have hmk := make_fresh op fl (ns ++ tail3) (vs ++ [ST, CM, AF]) v1 v2 w2 ⟨by omega, by omega⟩ ⟨by omega, by omega⟩ (SRd.of_m hr1') (SRd.of_m hr2) hv64 V2.T V2.S
  rw [hM'] at hmk
  have HMK := Lib.hid hmk
  clear hr1 hr1' hv1 hB1 hg2 hr2 hne1 hbad hmk hM' hv64 k45 c4 c5
  go_upto_region 3 with (fail)
  go_wp2_with fail
  refine HMK.out.mono ?_
  rintro e w3 ⟨⟨hv, rfl, hsr, hk⟩, hb3⟩
  obtain ⟨A, cap, rfl⟩ : ∃ A cap, hv = .slice A l.length cap := by obtain ⟨_, A, cap, hv, _⟩ := hsr; exact ⟨A, cap, hv⟩
  obtain ⟨LL, hLL⟩ : ∃ LL, l.length = LL := ⟨_, rfl⟩
  have hbc3 := hb2.trans (hb3.mono hcw2)
  obtain ⟨q, hq⟩ : ∃ q, w3.heap.size = q := ⟨_, rfl⟩
  go_upto_region 4 with (fail)
  have hb4 : Below w3.heap.size w3 (w3.alloc (.cells #[.int .i64 op, .bool false, .int .i64 fl, Value.slice A LL cap] 38)) := (Below.refl _ _).alloc (Nat.le_refl _) _
  have hH4 := Blk.new w3 38 #[.int .i64 op, .bool false, .int .i64 fl, Value.slice A LL cap]
  obtain ⟨W4, hW4⟩ : ∃ W : World, w3.alloc (.cells #[.int .i64 op, .bool false, .int .i64 fl, Value.slice A LL cap] 38) = W := ⟨_, rfl⟩
  rw [hW4] at hb4 hH4
  rw [hq] at hH4
  have hbc4 := hbc3.trans (hb4.mono hbc3.size)
  have hB4 := (hB2.below hb3 hB2.lt).below hb4 (hB2.below hb3 hB2.lt).lt
  have hX4 := HX.out.on hbc4
  have hsr4 := hsr.on hb4
  rw [hLL] at hsr4
  have c4 : W4.cell? ⟨f, 10, none⟩ = some (.int .u32 ST) := by rw [← HST.out]; exact hX4.fb.cell 10
  have f4 : W4.frozen? ⟨f, 10, none⟩ = false := hX4.fb.frozen 10
  have e5 : IntKind.u32.wrap ((ST : Int) + 1) = ((aft ST 1 : Nat) : Int) := by unfold aft; rw [IntKind.wrap_u32]; omega
  have hrl := hB4.lt
  have hql := hH4.lt
  have hqf : f ≠ q := by have := hbc3.size; omega
  have hrf : f ≠ r := by omega
  have hrq : r ≠ q := by have := hB2.lt; have := hb3.size; omega
  have hX5 := hX4.put 10 (.int .u32 ((aft ST 1 : Nat) : Int)) (pc' := pc) (X' := X.up) (by rw [← HST.out]; rfl) rfl rfl rfl rfl hX4.ps hX4.pk (up_ok hX4.ok) hX4.pt
  have hH5 := hH4.far (p := ⟨f, 10, none⟩) (fun e => hqf e.symm) (.int .u32 ((aft ST 1 : Nat) : Int))
  have hB5 := hB4.far (p := ⟨f, 10, none⟩) (fun e => hrf e.symm) (.int .u32 ((aft ST 1 : Nat) : Int))
  have hnf5 : NF (fS f gt Sn) wc (W4.setCell ⟨f, 10, none⟩ (.int .u32 ((aft ST 1 : Nat) : Int))) := (NF.of_below hbc4).put (.inl (by simp [fS])) 10 _
  have hkS : ∀ k, (Value.slice A LL cap).ownBlock = some k → wc.heap.size ≤ k ∧ k ∉ fS f gt Sn ∧ k ≠ r := by
    intro k hk'
    rw [← hLL] at hk'
    have h1 := hk k hk'
    have h2 := hB2.lt
    exact ⟨by omega, fun hm => by have := (hlt k hm).1; omega, by omega⟩
  obtain ⟨W5, hW5⟩ : ∃ W : World, W4.setCell ⟨f, 10, none⟩ (.int .u32 ((aft ST 1 : Nat) : Int)) = W := ⟨_, rfl⟩
  rw [hW5] at hX5 hH5 hB5 hnf5
  try rw [hW4]
  have k0 := hH5.cell 0
  have k1 := hH5.cell 1
  have k2 := hH5.cell 2
  have k3 := hH5.cell 3
  have m0 : W5.cell? ⟨r, 0, none⟩ = some (.int .i64 0) := hB5.cell 0
  have z0 := hB5.frozen 0
  have m1 : W5.cell? ⟨r, 1, none⟩ = some (.bool false) := hB5.cell 1
  have z1 := hB5.frozen 1
  have m2 : W5.cell? ⟨r, 2, none⟩ = some (.int .i64 0) := hB5.cell 2
  have z2 := hB5.frozen 2
  have m3 : W5.cell? ⟨r, 3, none⟩ = some (.slice none 0 0) := hB5.cell 3
  have z3 := hB5.frozen 3
  have m4 : W5.cell? ⟨r, 4, none⟩ = some (.slice none 0 0) := hB5.cell 4
  have z4 := hB5.frozen 4
  have m5 : W5.cell? ⟨r, 5, none⟩ = some (.string ⟨#[]⟩) := hB5.cell 5
  have z5 := hB5.frozen 5
  have hB9 := ((((((hB5.put 0 (.int .i64 op)).put 1 (.bool false)).put 2 (.int .i64 fl)).put 3 (.slice A LL cap)).put 4 (.slice none 0 0)).put 5 (.string data))
  have hnfr : NF [r] W5 ((((((W5.setCell ⟨r, 0, none⟩ (.int .i64 op)).setCell ⟨r, 1, none⟩ (.bool false)).setCell ⟨r, 2, none⟩ (.int .i64 fl)).setCell ⟨r, 3, none⟩ (.slice A LL cap)).setCell ⟨r, 4, none⟩ (.slice none 0 0)).setCell ⟨r, 5, none⟩ (.string data)) := (((((((NF.refl [r] W5).put (.inl (by simp)) 0 (.int .i64 op)).put (.inl (by simp)) 1 (.bool false)).put (.inl (by simp)) 2 (.int .i64 fl)).put (.inl (by simp)) 3 (.slice A LL cap)).put (.inl (by simp)) 4 (.slice none 0 0)).put (.inl (by simp)) 5 (.string data))
  have hnf9 : NF (fS f gt Sn) wc ((((((W5.setCell ⟨r, 0, none⟩ (.int .i64 op)).setCell ⟨r, 1, none⟩ (.bool false)).setCell ⟨r, 2, none⟩ (.int .i64 fl)).setCell ⟨r, 3, none⟩ (.slice A LL cap)).setCell ⟨r, 4, none⟩ (.slice none 0 0)).setCell ⟨r, 5, none⟩ (.string data)) := ((((((hnf5.put (.inr hrc) 0 (.int .i64 op)).put (.inr hrc) 1 (.bool false)).put (.inr hrc) 2 (.int .i64 fl)).put (.inr hrc) 3 (.slice A LL cap)).put (.inr hrc) 4 (.slice none 0 0)).put (.inr hrc) 5 (.string data))
  have hX9 := hX5.other hnfr (below_nf HX.out.b hnf9 fun k hk => (hlt k hk).2) (fun k hk => by have := (hlt k hk).1; simp; omega) (fun hn k hk => by
    have h1 := srd_lt HX.out.ps hn k hk
    simp; omega)
  have hs5 := srd_nf hsr4 (NF.put (g := f) (NF.refl [f] W4) (.inl (by simp)) 10 (.int .u32 ((aft ST 1 : Nat) : Int))) (fun _ k hk => by
    have := (hkS k hk).1
    simp; omega)
  rw [hW5] at hs5
  have hs9 := srd_nf hs5 hnfr (fun _ k hk => by simpa using (hkS k hk).2.2)
  have HX9 := Lib.hid hX9
  have HS9 := Lib.hid hs9
  have HN9 := Lib.hid hnf9
  have HK9 := Lib.hid hkS
  clear hX9 hs9 hnf9 hs5 hnfr hX4 hX5 hsr4
  go_upto_region 5 with (fail)
  go_wp2_with fail
  refine bodyPost_ret (results_s1 rfl _ _ r _ _ _ rfl hB9 Tryz.underlying41 rfl (by kernel_rfl)) rfl ?_
  refine ⟨.slice A LL cap, rfl, ⟨by simp only; rw [hLL]; exact HS9.out, fun k hk => ⟨(HK9.out k hk).1, (HK9.out k hk).2.1⟩⟩, HX9.out, HN9.out⟩
end Go.Proofs.YtamlepacljjpiaaGreatDoor

/- What is refused. -/
namespace Go.Proofs.YtamlepacljjpiaaGreatDoor
open Go.ChangeShapes Go.WideShapes Go.ChangeAt Go.RowKit Go.Shelf
set_option linter.unusedVariables false
set_option linter.unusedSimpArgs false
theorem MRow.lit {w : World} {g base n size : Nat} {e : TypeId} {cs : Array Value} {xs : List Value} (h : Blk w g e cs) (hb : base ≤ g) (hx : cs.toList = xs := by rfl) (hn : xs.length = n * size := by rfl) (hm : n ≤ maxLen := by decide) : MRow w base e size (.slice (some ⟨g, 0, none⟩) n n) n xs :=
  ⟨hn, .inr ⟨g, n, cs, rfl, hb, BlkM.of_blk h, Nat.le_refl _, hm, by rw [← Array.length_toList, hx, hn], by rw [hx, ← hn, List.take_length]⟩⟩
/- what a call of the session does -/
def DidX (w0 w : World) (S : List Nat) (f : Nat) (y : List AP × FP) (e : Ending) (w' : World) : Prop :=
  ∃ v, e = .returned v ∧ TookX w0 w S f y.2 y.1 v w'
theorem OutAt.more {w : World} {base base' : Nat} {S : List Nat} {v : Value} {l : List AP} (h : OutAt w base S v l) (hb : base' ≤ base) : OutAt w base' S v l := by
  match l, h with
  | [], h => exact h
  | [a], h =>
    obtain ⟨b, hv, h1, h2, h3, h4, h5, h6⟩ := h
    exact ⟨b, hv, h1, h2, Nat.le_trans hb h3, h4, h5, fun k hk => ⟨Nat.le_trans hb (h6 k hk).1, (h6 k hk).2⟩⟩
theorem TookX.back {w0 w W w' : World} {S : List Nat} {f : Nat} {X : FP} {l : List AP} {v : Value} (h : TookX w0 W S f X l v w') (hnf : NF S w W) : TookX w0 w S f X l v w' := by
  obtain ⟨S', h1, h2, h3, h4⟩ := h
  exact ⟨S', h1, hnf.trans h2 (fun x hx => .inl hx), fun k hk => (h3 k hk).imp id fun h => Nat.le_trans hnf.size h, h4.more hnf.size⟩
theorem DidX.back {w0 w W w' : World} {S : List Nat} {f : Nat} {y : List AP × FP} {e : Ending} (h : DidX w0 W S f y e w') (hnf : NF S w W) : DidX w0 w S f y e w' := by
  obtain ⟨v, rfl, h⟩ := h
  exact ⟨v, rfl, h.back hnf⟩
/- one answer, in a row of its own -/
theorem took_one {w0 w w1 : World} {f gn gt : Nat} {Sn : List Nat} {tv pv uv ov pc : Value} {X : FP} {a : AP} {hv : Value} (hX : FullX w0 w1 f gn gt Sn tv pv uv ov pc X) (hA : ApAt w1 w.heap.size (fS f gt Sn) a hv) (hN : NF (fS f gt Sn) w w1) :
    TookX w0 w (fS f gt Sn) f X [a] (.slice (some ⟨w1.heap.size, 0, none⟩) 1 1) (w1.alloc (.cells (apC a hv) 41)) := by
  have hb : Below w1.heap.size w1 (w1.alloc (.cells (apC a hv) 41)) := (Below.refl _ _).alloc (Nat.le_refl _) _
  refine ⟨_, (hX.on hb).i, hN.then_below hb, fun k hk => .inl hk, w1.heap.size, hv, rfl, Blk.new _ _ _, hN.size, fun hm => ?_, hA.1.on hb, hA.2⟩
  have := (hX.lt _ hm).1
  omega
abbrev six (W : World) (R : Nat) (a b c d e s : Value) : World := (((((W.setCell ⟨R, 0, none⟩ a).setCell ⟨R, 1, none⟩ b).setCell ⟨R, 2, none⟩ c).setCell ⟨R, 3, none⟩ d).setCell ⟨R, 4, none⟩ e).setCell ⟨R, 5, none⟩ s
theorem six_nf {S : List Nat} {wc W : World} {R : Nat} (h : NF S wc W) (hR : R ∈ S ∨ wc.heap.size ≤ R) (a b c d e s : Value) : NF S wc (six W R a b c d e s) := (((((h.put hR 0 a).put hR 1 b).put hR 2 c).put hR 3 d).put hR 4 e).put hR 5 s
theorem six_blk {W : World} {R : Nat} (h : Blk W R 41 zeroPd) (a b c d e s : Value) : Blk (six W R a b c d e s) R 41 #[a, b, c, d, e, s] := (((((h.put 0 a).put 1 b).put 2 c).put 3 d).put 4 e).put 5 s
/- an answer is stored in a cell of the call's own -/
theorem six_made {w0 wc W : World} {f gn gt R : Nat} {Sn : List Nat} {tv pv uv ov pc hv : Value} {X : FP} {a : AP} (hX : FullX w0 W f gn gt Sn tv pv uv ov pc X) (hA : ApAt W wc.heap.size (fS f gt Sn) a hv) (hN : NF (fS f gt Sn) wc W) (hR : wc.heap.size ≤ R) (hRl : R < W.heap.size) (hRS : R ∉ fS f gt Sn) (hw0 : Below w0.heap.size w0 wc) (hS0 : ∀ k ∈ fS f gt Sn, w0.heap.size ≤ k)
    (hRv : 0 < a.vals.length → ∀ k, hv.ownBlock = some k → k ≠ R) (hRp : 0 < X.pcs.length → ∀ k, pc.ownBlock = some k → k ≠ R) (a0 b0 c0 d0 e0 s0 : Value) :
    FullX w0 (six W R a0 b0 c0 d0 e0 s0) f gn gt Sn tv pv uv ov pc X ∧ ApAt (six W R a0 b0 c0 d0 e0 s0) wc.heap.size (fS f gt Sn) a hv ∧ NF (fS f gt Sn) wc (six W R a0 b0 c0 d0 e0 s0) := by
  have h1 := six_nf hN (.inr hR) a0 b0 c0 d0 e0 s0
  have h2 : NF [R] W (six W R a0 b0 c0 d0 e0 s0) := six_nf (NF.refl [R] W) (.inl (by simp)) a0 b0 c0 d0 e0 s0
  exact ⟨hX.other h2 (below_nf hw0 h1 hS0) (fun k hk hm => hRS (by simp only [List.mem_singleton] at hm; rw [← hm]; exact hk)) (fun hn k hk hm => hRp hn k hk (by simpa using hm)), ⟨srd_nf hA.1 h2 (fun hn k hk hm => hRv hn k hk (by simpa using hm)), hA.2⟩, h1⟩
set_option maxRecDepth 20000 in
set_option maxHeartbeats 4000000 in
theorem frefuse1_any {w0 w : World} {f gn gt : Nat} {Sn : List Nat} {tv pv uv ov pc : Value} {X : FP} (h : FullX w0 w f gn gt Sn tv pv uv ov pc X) (V : Env w0) (hd : ByteArray) (r : Nat) (hz : hd.size = 48) (hr : r < 256) :
    Calls Tryz.prog 86 #[.pointer (some ⟨f, 0, none⟩), .string hd, .int .i64 r] w fun e w' => ∃ hv, e = .returned (.tuple #[.agg (apC (rejA X r hd) hv), .nilIface]) ∧ ApAt w' w.heap.size (fS f gt Sn) (rejA X r hd) hv ∧ FullX w0 w' f gn gt Sn tv pv uv ov pc X.up ∧ NF (fS f gt Sn) w w' := by
  have hmk := make63 (a := r) (s := X.stat) (k := X.cmd) (m := aft X.cmd 31) hr h.ok.st h.ok.cm (aft_lt _ _)
  have hlt := h.lt
  obtain ⟨R, hRR⟩ : ∃ R, w.heap.size = R := ⟨_, rfl⟩
  have hbw : Below w.heap.size w (w.alloc (.cells zeroPd 41)) := (Below.refl _ _).alloc (Nat.le_refl _) _
  have hBR := Blk.new w 41 zeroPd
  have hz0 : (w.alloc (.cells zeroPd 41)).heap.size = w.heap.size + 1 := by simp
  obtain ⟨W0, hW0⟩ : ∃ W : World, w.alloc (.cells zeroPd 41) = W := ⟨_, rfl⟩
  rw [hW0] at hbw hBR hz0
  have hW0' : w.alloc (.cells #[.int .i64 0, .bool false, .int .i64 0, .slice none 0 0, .slice none 0 0, .string ⟨#[]⟩] 41) = W0 := hW0
  have hX0 := h.on hbw
  have hb : Below W0.heap.size W0 ((W0.alloc (.cells #[.string ⟨#[82, 101, 97, 115, 111, 110]⟩, .string ⟨#[73, 84, 84]⟩] 9)).alloc (.cells #[.int .u64 (r : Int), .int .u64 4294967295] 49)) := ((Below.refl _ _).alloc (Nat.le_refl _) _).alloc (by simp) _
  have hn : TRow ((W0.alloc (.cells #[.string ⟨#[82, 101, 97, 115, 111, 110]⟩, .string ⟨#[73, 84, 84]⟩] 9)).alloc (.cells #[.int .u64 (r : Int), .int .u64 4294967295] 49)) W0.heap.size (.slice (some ⟨W0.heap.size, 0, none⟩) 2 2) [nRea, nITT] := MRow.alloc (MRow.lit (Blk.new W0 _ _) (Nat.le_refl _)) _
  have hz1 : (W0.alloc (.cells #[.string ⟨#[82, 101, 97, 115, 111, 110]⟩, .string ⟨#[73, 84, 84]⟩] 9)).heap.size = W0.heap.size + 1 := by simp
  have hv : VRow ((W0.alloc (.cells #[.string ⟨#[82, 101, 97, 115, 111, 110]⟩, .string ⟨#[73, 84, 84]⟩] 9)).alloc (.cells #[.int .u64 (r : Int), .int .u64 4294967295] 49)) W0.heap.size (.slice (some ⟨W0.heap.size + 1, 0, none⟩) 2 2) [r, noneN] := by
    rw [← hz1]
    exact MRow.lit (Blk.new _ _ _) (by rw [hz1]; omega)
  have hmake := fmake_any hX0 hb V 63 128 (by decide) (by decide) hd [nRea, nITT] [r, noneN] _ _ _ hn hv (by simp) (by simp) (fun x hx => by
    simp only [List.mem_cons, List.not_mem_nil, or_false] at hx
    rcases hx with rfl | rfl
    · omega
    · decide) hmk
  have e1 : IntKind.u64.wrap (r : Int) = r := by rw [IntKind.wrap_u64]; omega
  rw [hz0, hRR] at hmake
  have HM := Lib.hid hmake
  have HX := Lib.hid h
  have hcl := h.b.size
  clear h hmk hn hv hmake hb hz1 hX0 hW0
  go_enter Tryz.func86, Tryz.ntmps86
  go_upto_region 1 with (fail)
  try rw [hRR]
  go_wp2_with fail
  refine HM.out.mono ?_
  rintro e w1 ⟨hv, he, hA, hX, hN⟩
  obtain ⟨A, cap, rfl⟩ : ∃ A cap, hv = .slice A 6 cap := by obtain ⟨_, A, cap, hv, _⟩ := hA.1; exact ⟨A, cap, hv⟩
  have he' : e = .returned (.agg #[.int .i64 63, .bool false, .int .i64 128, .slice A 6 cap, .slice none 0 0, .string hd]) := he
  subst he'
  clear he
  have hRS : R ∉ fS f gt Sn := fun hm => by have := (hlt _ hm).1; omega
  have hB1 : Blk w1 R 41 zeroPd := (hN.block R (by omega) hRS).trans (by rw [← hRR]; exact hBR)
  have m0 : w1.cell? ⟨R, 0, none⟩ = some (.int .i64 0) := hB1.cell 0
  have m1 : w1.cell? ⟨R, 1, none⟩ = some (.bool false) := hB1.cell 1
  have m2 : w1.cell? ⟨R, 2, none⟩ = some (.int .i64 0) := hB1.cell 2
  have m3 : w1.cell? ⟨R, 3, none⟩ = some (.slice none 0 0) := hB1.cell 3
  have m4 : w1.cell? ⟨R, 4, none⟩ = some (.slice none 0 0) := hB1.cell 4
  have m5 : w1.cell? ⟨R, 5, none⟩ = some (.string ⟨#[]⟩) := hB1.cell 5
  have z0 := hB1.frozen 0
  have z1 := hB1.frozen 1
  have z2 := hB1.frozen 2
  have z3 := hB1.frozen 3
  have z4 := hB1.frozen 4
  have z5 := hB1.frozen 5
  have hNw := (NF.of_below hbw).trans hN (fun x hx => .inl hx)
  have hAw : ApAt w1 w.heap.size (fS f gt Sn) (rejA X r hd) (.slice A 6 cap) := ⟨hA.1, fun k hk => ⟨Nat.le_trans hbw.size (hA.2 k hk).1, (hA.2 k hk).2⟩⟩
  have hfin := six_made (a := rejA X r hd) hX hAw hNw (by omega : w.heap.size ≤ R) hB1.lt hRS HX.out.b (fun k hk => (hlt k hk).2) (fun _ k hk => by have := (hA.2 k hk).1; omega) (fun hn k hk => by have := srd_lt HX.out.ps hn k hk; omega) (.int .i64 63) (.bool false) (.int .i64 128) (.slice A 6 cap) (.slice none 0 0) (.string hd)
  have hB9 := six_blk hB1 (.int .i64 63) (.bool false) (.int .i64 128) (.slice A 6 cap) (.slice none 0 0) (.string hd)
  have HF := Lib.hid hfin
  clear hfin hX hA hN hNw hAw hB1
  go_wp2_with fail
  refine bodyPost_ret (results_s2 rfl _ _ R _ _ _ _ rfl rfl hB9 Tryz.underlying41 rfl (by kernel_rfl)) rfl ?_
  exact ⟨_, rfl, HF.out.2.1, HF.out.1, HF.out.2.2⟩
set_option maxRecDepth 20000 in
set_option maxHeartbeats 4000000 in
theorem frefuse_any {w0 w : World} {f gn gt : Nat} {Sn : List Nat} {tv pv uv ov pc : Value} {X : FP} (h : FullX w0 w f gn gt Sn tv pv uv ov pc X) (V : Env w0) (x : PD × PdPart) (hp : PdOk w x) (hright : rightR x.1.op x.1.now x.1.fl x.1.vals = none) (hsz : x.1.data.size ≤ 100000) (r : Nat) (hr : r < 256) :
    Calls Tryz.prog 53 #[.pointer (some ⟨f, 0, none⟩), pdV x, .int .i64 r] w fun e w' => DidX w0 w (fS f gt Sn) f ([rejA X r (headS x.1)], X.up) e w' := by
  obtain ⟨rw_, n, hrow, hfl, hn, hS, hS48⟩ := headS_ok hright hp.2.1.2
  obtain ⟨⟨op, now, fl, vals, al, data⟩, ⟨u, a⟩⟩ := x
  obtain ⟨h0, _, hv, hvl, _, _, _, _⟩ := hp
  simp only at h0 hv hvl hright hsz hrow hfl hS hS48
  subst hfl
  unfold pdV
  simp only
  obtain ⟨A, cap, rfl⟩ : ∃ A cap, u = .slice A vals.length cap := by obtain ⟨_, A, cap, hv, _⟩ := hv; exact ⟨A, cap, hv⟩
  have hB0 := Blk.new w 41 #[.int .i64 op, .bool now, .int .i64 n, .slice A vals.length cap, a, .string data]
  have hb0 : Below w.heap.size w (w.alloc (.cells #[.int .i64 op, .bool now, .int .i64 n, .slice A vals.length cap, a, .string data] 41)) := (Below.refl _ _).alloc (Nat.le_refl _) _
  obtain ⟨W, hW⟩ : ∃ W : World, w.alloc (.cells #[.int .i64 op, .bool now, .int .i64 n, .slice A vals.length cap, a, .string data] 41) = W := ⟨_, rfl⟩
  rw [hW] at hB0 hb0
  obtain ⟨g, hg⟩ : ∃ g, w.heap.size = g := ⟨_, rfl⟩
  rw [hg] at hB0
  have c0 := hB0.cell 0
  have c1 := hB0.cell 1
  have c2 := hB0.cell 2
  have c3 := hB0.cell 3
  have c5 := hB0.cell 5
  have hv0 := hv.on hb0
  have V1 := (V.on h.b).on hb0
  have h1 := h.on hb0
  obtain ⟨H, hH⟩ : ∃ H, headS ⟨op, now, (n : Nat), vals, al, data⟩ = H := ⟨_, rfl⟩
  rw [hH] at hS hS48 ⊢
  have hwr := write_ok op now n vals (.slice A vals.length cap) 0 data.size rw_ W h0 hn hv0 hvl V1.T V1.S hrow hright (by omega) (by omega)
  have hwr2 : (⟨(layAll (headB rw_.1 now n 0 data.size) rw_.2.2.2 vals).toArray⟩ : ByteArray) = H := hS.symm
  rw [hwr2] at hwr
  have HWR := Lib.hid hwr
  have HX := Lib.hid h1
  clear h1 h hS hrow hright hwr hwr2 hH hv hv0
  go_enter Tryz.func53, Tryz.ntmps53
  go_upto_region 1 with (fail)
  try refine wp_worldN hW ?_
  try rw [hg]
  go_wp2_with fail
  refine HWR.out.mono ?_
  rintro e w1 ⟨rfl, hb1⟩
  have h2 := HX.out.on hb1
  go_wp2_with fail
  refine (frefuse1_any h2 V H r hS48 hr).mono ?_
  rintro e w2 ⟨hv2, he, hA, hX, hN⟩
  obtain ⟨A2, cap2, rfl⟩ : ∃ A cap, hv2 = .slice A 6 cap := by obtain ⟨_, A, cap, hv, _⟩ := hA.1; exact ⟨A, cap, hv⟩
  have he' : e = .returned (.tuple #[.agg #[.int .i64 63, .bool false, .int .i64 128, .slice A2 6 cap2, .slice none 0 0, .string H], .nilIface]) := he
  subst he'
  clear he
  go_wp2_with fail
  go_ret
  have hb0w := below_step hb0 hb1
  have hNw : NF (fS f gt Sn) w w2 := (NF.of_below hb0w).trans hN (fun x hx => .inl hx)
  have hbo : Below w2.heap.size w2 (w2.alloc (.cells (apC (rejA X r H) (.slice A2 6 cap2)) 41)) := (Below.refl _ _).alloc (Nat.le_refl _) _
  have hA' : ApAt (w2.alloc (.cells (apC (rejA X r H) (.slice A2 6 cap2)) 41)) w.heap.size (fS f gt Sn) (rejA X r H) (.slice A2 6 cap2) := ⟨hA.1.on hbo, fun k hk => ⟨Nat.le_trans hb0w.size (hA.2 k hk).1, (hA.2 k hk).2⟩⟩
  have hfin := took_one (hX.on hbo) hA' (hNw.then_below hbo)
  have hz : (w2.alloc (.cells (apC (rejA X r H) (.slice A2 6 cap2)) 41)).heap.size = w2.heap.size + 1 := by simp
  rw [hz] at hfin
  exact ⟨_, rfl, hfin⟩
end Go.Proofs.YtamlepacljjpiaaGreatDoor
