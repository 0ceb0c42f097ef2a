/- The contract of head.Make. -/
import Derived.Test.YtifniblffjgfkaaDoorHeadSame
namespace Go.Proofs.YtifniblffjgfkaaDoor
open Go.ChangeShapes Go.WideShapes Go.ChangeAt Go.RowKit Go.Shelf
set_option linter.unusedVariables false
def lastI (fs : FieldL) (n : List UInt8) : Nat → Int
  | 0 => -1
  | k + 1 => if (fs[k]?).map (·.1) = some n then (k : Int) else lastI fs n k
def mkStep (fs : FieldL) (n : List UInt8) (v : Option Nat) (cur : List Nat) : Nat ⊕ List Nat :=
  if lastI fs n fs.length < 0 then .inl 5 else match v with
  | none => .inl 7
  | some v => .inr (cur.set (lastI fs n fs.length).toNat v)
theorem mkStep_neg {fs : FieldL} {n : List UInt8} {v : Option Nat} {cur : List Nat} (h : lastI fs n fs.length < 0) : mkStep fs n v cur = .inl 5 := by unfold mkStep; rw [if_pos h]
theorem mkStep_none {fs : FieldL} {n : List UInt8} {cur : List Nat} (h : ¬ lastI fs n fs.length < 0) : mkStep fs n none cur = .inl 7 := by unfold mkStep; rw [if_neg h]
theorem mkStep_some {fs : FieldL} {n : List UInt8} {v : Nat} {cur : List Nat} (h : ¬ lastI fs n fs.length < 0) : mkStep fs n (some v) cur = .inr (cur.set (lastI fs n fs.length).toNat v) := by unfold mkStep; rw [if_neg h]
def mkGo (fs : FieldL) : List (List UInt8) → List Nat → List Nat → Nat ⊕ List Nat
  | [], _, cur => .inr cur
  | n :: ns, vs, cur => match mkStep fs n vs.head? cur with
    | .inl c => .inl c
    | .inr cur' => mkGo fs ns vs.tail cur'
def makeR (op : Int) (fl : Int) (ns : List (List UInt8)) (vs : List Nat) : (Nat × Option Nat) ⊕ List Nat :=
  match headRow op with
  | none => .inl (1, none)
  | some r => match mkGo r.2.2.2 ns vs (List.replicate r.2.2.2.length 0) with
    | .inl c => .inl (c, none)
    | .inr cur => match rightR op false fl cur with
      | some E => .inl E
      | none => .inr cur
def makeIs (w : World) (base : Nat) (op fl : Int) (e : Ending) : (Nat × Option Nat) ⊕ List Nat → Prop
  | .inl E => ∃ er, e = .returned (.tuple #[zeroH, er]) ∧ HErr w base er (some E)
  | .inr l => ∃ v, e = .returned (.tuple #[.agg #[.int .i64 op, .bool false, .int .i64 fl, v], .nilIface]) ∧ SRd w v 1 l.length (l.map u64V)
theorem results_s2 {P : Program} {fn : Func} {p a : Tmp} {ty : TypeId} (h : fn.results = #[.cell p ty, .tmp a]) (tmps : Array Value) (w : World) (g : Nat) (t : TypeId) (cs : Array Value) (d : TypeDesc) (va : Value)
    (hp : tmps.getD p undef = .pointer (some ⟨g, 0, none⟩)) (ha : tmps.getD a undef = va) (hg : Blk w g t cs)
    (hu : P.underlying ty = some d) (hd : (match d with | .struct _ | .array _ _ => true | _ => false) = true) (hi : (P.info? ty).map (·.size) = some cs.size) :
    (results fn tmps).run P w = .ok (.tuple #[.agg cs, va]) w := by
  have e : (results fn tmps).run P w = ((asAddr (tmps.getD p undef)).run P w).andThen fun x w₁ => ((loadVar ty x).run P w₁).andThen fun v w₂ => .ok (.tuple #[v, tmps.getD a undef]) w₂ := by
    simp only [results, h]
    simp [Sem.run_bind, Result.andThen]
  rw [e, hp, ha]
  have := run_loadVar_row (P := P) w g t ty cs (0, 0) d hg hu hd hi
  simp [asAddr, this]
def zeroU (n : Nat) : Array Value := madeCells #[.int .u64 0] (n * 1)
theorem zeroU_list (n : Nat) : zeroU n = ((List.replicate n 0).map u64V).toArray := by
  apply Array.ext'
  apply List.ext_getElem
  · simp [zeroU, size_madeCells]
  · intro i h1 h2
    simp [zeroU, madeCells, u64V]
    rw [Nat.mod_one]
    rfl
theorem make_u64 (n : Nat) (w : World) (h : n ≤ 1000000) : (Instr.makeSlice 37 (.int .i64 n) (.int .i64 n)).run Tryd.prog w =
    .ok (.slice (some ⟨w.heap.size, 0, none⟩) n n) (w.alloc (.cells (zeroU n) 35)) := by
  obtain ⟨i0, hi, hz0, hz1, hz2⟩ := info_parts infoU64
  have := run_make (P := Tryd.prog) w 37 35 i0 (.int .u64 0) Tryd.underlying37 hi hz0 .i64 .i64 n n (by omega) (by omega) (by rw [hz2]; omega) (by omega)
  rw [this, hz1]
  simp [zeroU, Value.cells]
theorem lastI_lt (fs : FieldL) (n : List UInt8) : ∀ k, -1 ≤ lastI fs n k ∧ lastI fs n k < k
  | 0 => by simp [lastI]
  | k + 1 => by
    have := lastI_lt fs n k
    rw [lastI]
    split <;> omega
set_option maxRecDepth 20000 in
set_option maxHeartbeats 2000000 in
theorem make_any (op fl : Int) (ns : List ByteArray) (vs : List Nat) (x y : Value) (w : World) (h0 : -9223372036854775808 ≤ op ∧ op ≤ 9223372036854775807) (hf : -9223372036854775808 ≤ fl ∧ fl ≤ 9223372036854775807)
    (hx : SRd w x 1 ns.length (ns.map .string)) (hy : SRd w y 1 vs.length (vs.map u64V)) (hvl : ∀ v ∈ vs, v < 18446744073709551616) (T : Tabs w) (hS : w.ShapedOpen Tryd.prog) :
    Calls Tryd.prog 9 #[.int .i64 op, .int .i64 fl, x, y] w fun e w' => makeIs w' w.heap.size op fl e (makeR op fl (ns.map (·.data.toList)) vs) ∧ Below w.heap.size w w' := by
  obtain ⟨R, hR⟩ : ∃ R, makeR op fl (ns.map (·.data.toList)) vs = R := ⟨_, rfl⟩
  rw [hR]
  have HR := Lib.hid hR
  clear hR
  obtain ⟨_, A, cap, rfl, hcap, hmax, hcell⟩ := hx
  obtain ⟨_, A2, cap2, rfl, hcap2, hmax2, hcell2⟩ := hy
  obtain ⟨g, hg⟩ : ∃ g, w.heap.size = g := ⟨_, rfl⟩
  have hb0 : Below w.heap.size w (w.alloc (.cells #[.int .i64 0, .bool false, .int .i64 0, .slice none 0 0] 39)) := (Below.refl _ _).alloc (Nat.le_refl _) _
  have hB0 := Blk.new w 39 #[.int .i64 0, .bool false, .int .i64 0, .slice none 0 0]
  rw [hg] at hB0
  go_enter Tryd.func9, Tryd.ntmps9
  go_wp2_with fail
  obtain ⟨w0, hw0⟩ : ∃ w0 : World, w.alloc (.cells #[.int .i64 0, .bool false, .int .i64 0, .slice none 0 0] 39) = w0 := ⟨_, rfl⟩
  rw [hw0] at hb0 hB0 ⊢
  clear hw0
  try rw [hg]
  refine (fields_any op _ h0 (T.on hb0) (shaped_ons hS hb0)).mono ?_
  rintro e w1 ⟨hfi, hb1'⟩
  have hb1 := below_step hb0 hb1'
  have hB1 := hB0.below hb1' hB0.lt
  have hgl := hB0.lt
  have hbg1 : Below g w w1 := by rw [← hg]; exact hb1
  rcases hr : headRow op with _ | r
  · rw [hr] at hfi
    obtain rfl : e = _ := hfi
    rw [show errv 1 = .iface 55 (.int .i64 1) from rfl]
    have hz : R = .inl (1, none) := by rw [← HR.out, makeR, hr]
    subst hz
    clear hr HR
    have c0 := hB1.cell 0
    have c1 := hB1.cell 1
    have c2 := hB1.cell 2
    have c3 := hB1.cell 3
    have k0 := hB1.frozen 0
    have k1 := hB1.frozen 1
    have k2 := hB1.frozen 2
    have k3 := hB1.frozen 3
    go_wp2_with fail
    try rw [hg]
    have hB9 := (((hB1.put 0 (.int .i64 0)).put 1 (.bool false)).put 2 (.int .i64 0)).put 3 (.slice none 0 0)
    refine bodyPost_ret (results_s2 rfl _ _ g _ _ _ _ rfl rfl hB9 Tryd.underlying39 rfl (by kernel_rfl)) rfl ⟨?_, (((hbg1.setCell (Nat.le_refl _) _).setCell (Nat.le_refl _) _).setCell (Nat.le_refl _) _).setCell (Nat.le_refl _) _⟩
    exact ⟨_, rfl, rfl⟩
  · have hrm := headRow_mem hr
    have hpos := headT_pos r hrm
    rw [hr] at hfi
    obtain ⟨lv, rfl, hrow⟩ := hfi
    obtain ⟨N, hN⟩ : ∃ N, r.2.2.2.length = N := ⟨_, rfl⟩
    rw [hN] at hpos
    obtain ⟨lb, lcap, rfl, hlbg, hlc, hlm⟩ : ∃ lb lcap, lv = .slice (some ⟨lb, 0, none⟩) N lcap ∧ w0.heap.size ≤ lb ∧ N ≤ lcap ∧ lcap ≤ maxLen := by
      rcases hrow.2 with ⟨_, h⟩ | ⟨lb, lcap, cur, h1, h2, h3, h4, h5, _⟩
      · omega
      · exact ⟨lb, lcap, by rw [h1, hN], h2, by omega, h5⟩
    unfold maxLen at hlm hmax hmax2
    have hlcell : ∀ j u, (fCells r.2.2.2)[j]? = some u → w1.cell? ⟨lb, j, none⟩ = some u := by
      have hrow' := hrow
      unfold FRow at hrow'
      rw [hN] at hrow'
      exact fun j u hu => hrow'.cellAt j u hu
    have HLC := Lib.hid hlcell
    have HC := Lib.hid hcell
    have HC2 := Lib.hid hcell2
    have hlb1 : lb < w1.heap.size := MRow.lt hrow lb rfl |>.2
    have hmk : ∀ w : World, (Instr.makeSlice 37 (.int .i64 N) (.int .i64 N)).run Tryd.prog w = _ := fun w => make_u64 N w (by omega)
    clear hlcell hcell hcell2 hrow
    go_wp2_with fail
    have hBV : Blk ((w1.alloc (.cells (zeroU N) 35)).alloc (.cells #[.int .i64 op, .bool false, .int .i64 fl, .slice (some ⟨w1.heap.size, 0, none⟩) N N] 39)) w1.heap.size 35 (zeroU N) := (Blk.new w1 _ _).alloc _
    have hBH : Blk ((w1.alloc (.cells (zeroU N) 35)).alloc (.cells #[.int .i64 op, .bool false, .int .i64 fl, .slice (some ⟨w1.heap.size, 0, none⟩) N N] 39)) (w1.heap.size + 1) 39 #[.int .i64 op, .bool false, .int .i64 fl, .slice (some ⟨w1.heap.size, 0, none⟩) N N] := by
      have := Blk.new (w1.alloc (.cells (zeroU N) 35)) 39 #[.int .i64 op, .bool false, .int .i64 fl, .slice (some ⟨w1.heap.size, 0, none⟩) N N]
      simpa using this
    have hb12 : Below w1.heap.size w1 ((w1.alloc (.cells (zeroU N) 35)).alloc (.cells #[.int .i64 op, .bool false, .int .i64 fl, .slice (some ⟨w1.heap.size, 0, none⟩) N N] 39)) := ((Below.refl _ _).alloc (Nat.le_refl _) _).alloc (by simp) _
    obtain ⟨w3, hw3⟩ : ∃ w3 : World, ((w1.alloc (.cells (zeroU N) 35)).alloc (.cells #[.int .i64 op, .bool false, .int .i64 fl, .slice (some ⟨w1.heap.size, 0, none⟩) N N] 39)) = w3 := ⟨_, rfl⟩
    rw [hw3] at hBV hBH hb12 ⊢
    have hB3 := hB1.below hb12 hB1.lt
    have hbg3 : Below g w w3 := hbg1.trans (hb12.mono (Nat.le_of_lt hB1.lt))
    have hg1 : g < w1.heap.size := hB1.lt
    have hlne : lb ≠ g := by omega
    have LC3 : ∀ j u, (fCells r.2.2.2)[j]? = some u → w3.cell? ⟨lb, j, none⟩ = some u := fun j u hu => (hb12.cell (p := ⟨lb, j, none⟩) hlb1).trans (HLC.out j u hu)
    have hxb : ∀ b o, A = some ⟨b, o, none⟩ → 0 < ns.length → b < g := by
      intro b o hA hp
      obtain ⟨b2, o2, h1, h2, _⟩ := HC.out hp
      rw [hA] at h1
      injection h1 with h1
      injection h1 with h1
      omega
    have CX : ∀ b o, A = some ⟨b, o, none⟩ → ∀ j n, ns[j]? = some n → w3.cell? ⟨b, o + j, none⟩ = some (.string n) := by
      intro b o hA j n hn
      have hp : 0 < ns.length := by have := (List.getElem?_eq_some_iff.1 hn).1; omega
      obtain ⟨b2, o2, h1, h2, h3⟩ := HC.out hp
      rw [hA] at h1
      injection h1 with h1
      injection h1 with h4 h5
      subst h4 h5
      exact (hbg3.cell (p := ⟨b, o + j, none⟩) (by simp only; omega)).trans (h3 j _ (by rw [List.getElem?_map, hn]; rfl))
    have CY : ∀ b o, A2 = some ⟨b, o, none⟩ → ∀ (j n : Nat), vs[j]? = some n → w3.cell? ⟨b, o + j, none⟩ = some (.int .u64 n) ∧ b < g := by
      intro b o hA j n hn
      have hp : 0 < vs.length := by have := (List.getElem?_eq_some_iff.1 hn).1; omega
      obtain ⟨b2, o2, h1, h2, h3⟩ := HC2.out hp
      rw [hA] at h1
      injection h1 with h1
      injection h1 with h4 h5
      subst h4 h5
      exact ⟨(hbg3.cell (p := ⟨b, o + j, none⟩) (by simp only; omega)).trans (h3 j _ (by rw [List.getElem?_map, hn]; rfl)), by omega⟩
    have HLC3 := Lib.hid LC3
    have HCX := Lib.hid CX
    have HCY := Lib.hid CY
    have HXB := Lib.hid hxb
    have HPX : Hid (0 < ns.length → ∃ b o, A = some ⟨b, o, none⟩) := Lib.hid fun h => by obtain ⟨b, o, h1, _⟩ := HC.out h; exact ⟨b, o, h1⟩
    have HPY : Hid (0 < vs.length → ∃ b o, A2 = some ⟨b, o, none⟩) := Lib.hid fun h => by obtain ⟨b, o, h1, _⟩ := HC2.out h; exact ⟨b, o, h1⟩
    obtain ⟨gv, hgv⟩ : ∃ gv, w1.heap.size = gv := ⟨_, rfl⟩
    obtain ⟨gh, hgh⟩ : ∃ gh, gv + 1 = gh := ⟨_, rfl⟩
    rw [hgv] at hBV hBH hg1 hlb1 hb12
    rw [hgh] at hBH
    try rw [hgv]
    try rw [hgh]
    have hzl : (List.replicate N 0).length = N := List.length_replicate
    rw [zeroU_list] at hBV
    obtain ⟨NL, hNL⟩ : ∃ NL, ns.map (·.data.toList) = NL := ⟨_, rfl⟩
    have hR0 := HR.out
    rw [hNL, makeR, hr] at hR0
    simp only at hR0
    rw [hN] at hR0
    have HR0 := Lib.hid hR0
    have HNL := Lib.hid hNL
    have HOP := Lib.hid hr
    clear LC3 CX CY hxb HC HC2 HLC HR hR0 hNL hr hb12 hB1 hb1' hw3 hB0
    go_loopw [36] (fun i wr => ∃ (k : Nat) (cur : List Nat), k ≤ ns.length ∧ i = .int .i64 k ∧ Step gv w3 wr ∧ Blk wr gv 35 (cur.map u64V).toArray ∧ cur.length = N ∧ (∀ x ∈ cur, x < 18446744073709551616) ∧ mkGo r.2.2.2 (NL.drop k) (vs.drop k) cur = mkGo r.2.2.2 NL vs (List.replicate N 0)) (fun i _ => ns.length - (intOf i).toNat)
    case atStart => exact ⟨0, _, Nat.zero_le _, rfl, Step.refl _ _, hBV, hzl, fun x hx => by rw [(List.mem_replicate.1 hx).2]; decide, rfl⟩
    case round =>
      obtain ⟨k, cur, hk, rfl, hst, hBk, hcl, hcm, heq⟩ := hrel
      have HEQ := Lib.hid heq
      have HCM := Lib.hid hcm
      clear heq hcm
      by_cases hlt : k < ns.length
      · obtain ⟨n, hn⟩ : ∃ n, ns[k]? = some n := ⟨_, List.getElem?_eq_getElem hlt⟩
        obtain ⟨b, o, rfl⟩ := HPX.out (by omega)
        have hbg := HXB.out b o rfl (by omega)
        have e0 : wr.cell? ⟨b, o + k, none⟩ = some (.string n) := hst.cell (by simp only; omega) (HCX.out b o rfl k n hn)
        have HN := Lib.hid hn
        clear hn
        obtain ⟨X, hX⟩ : ∃ X, n.data.toList = X := ⟨_, rfl⟩
        have HX := Lib.hid hX
        clear hX
        go_wp2_with fail
        obtain ⟨wo, rfl⟩ : ∃ wo : World, wo = wr := ⟨_, rfl⟩
        go_loopw [43, 15] (fun i at_ wr => ∃ j : Nat, j ≤ N ∧ i = .int .i64 j ∧ at_ = .int .i64 (lastI r.2.2.2 X j) ∧ Below wo.heap.size wo wr) (fun i _ _ => N - (intOf i).toNat)
        case atStart => exact ⟨0, Nat.zero_le _, rfl, rfl, Below.refl _ _⟩
        case round =>
          obtain ⟨j, hj, rfl, rfl, hbm⟩ := hrel
          have hs3 : w3.heap.size ≤ wo.heap.size := hst.size
          have hv3 : gv < w3.heap.size := hBV.lt
          by_cases hjt : j < N
          · obtain ⟨f, hf⟩ : ∃ f, r.2.2.2[j]? = some f := ⟨_, List.getElem?_eq_getElem (by omega)⟩
            have hc := fCells_at _ _ _ hf
            have e0 : wr.cell? ⟨lb, 3 * j, none⟩ = some (.string ⟨f.1.toArray⟩) := (hbm.cell (p := ⟨lb, 3 * j, none⟩) (by simp only; omega)).trans (hst.cell (by simp only; omega) (HLC3.out _ _ hc.1))
            have e1 : wr.cell? ⟨lb, 3 * j + 1, none⟩ = some (.int .i64 f.2.1) := (hbm.cell (p := ⟨lb, 3 * j + 1, none⟩) (by simp only; omega)).trans (hst.cell (by simp only; omega) (HLC3.out _ _ hc.2.1))
            have e2 : wr.cell? ⟨lb, 3 * j + 2, none⟩ = some (.int .i64 f.2.2) := (hbm.cell (p := ⟨lb, 3 * j + 2, none⟩) (by simp only; omega)).trans (hst.cell (by simp only; omega) (HLC3.out _ _ hc.2.2))
            rw [Nat.mul_comm] at e0 e1 e2
            have hla : lastI r.2.2.2 X (j + 1) = if f.1 = X then (j : Int) else lastI r.2.2.2 X j := by
              rw [lastI, hf]
              simp
            obtain ⟨F1, hF1⟩ : ∃ S : ByteArray, S = ⟨f.1.toArray⟩ := ⟨_, rfl⟩
            rw [← hF1] at e0
            have hb4 : Below wo.heap.size wo (wr.alloc (.cells #[.string F1, .int .i64 f.2.1, .int .i64 f.2.2] 33)) := hbm.alloc hbm.size _
            have hlj := lastI_lt r.2.2.2 X j
            have HF1 := Lib.hid hF1
            by_cases hq : f.1 = X
            · have hqq : (F1.toList == n.toList) = true := by rw [toList_of, toList_of, hF1, HX.out]; simp [hq]
              rw [if_pos hq] at hla
              have HLA := Lib.hid hla
              clear hc hf hla hq hF1
              go_wp2_with fail
              go_roundw
              case rel => exact ⟨j + 1, by omega, by go_num, by rw [HLA.out], hb4⟩
              case measure => simp [intOf]; omega
            · have hqq : (F1.toList == n.toList) = false := by rw [toList_of, toList_of, hF1, HX.out]; simpa using hq
              rw [if_neg hq] at hla
              have HLA := Lib.hid hla
              clear hc hf hla hq hF1
              go_wp2_with fail
              go_roundw
              case rel => exact ⟨j + 1, by omega, by go_num, by rw [HLA.out], hb4⟩
              case measure => simp [intOf]; omega
          · have hjN : j = N := by omega
            subst hjN
            have hBgm := (hst.blk (by omega) hB3).below hbm (Nat.lt_of_lt_of_le hB3.lt hs3)
            have hBhm := (hst.blk (by omega) hBH).below hbm (Nat.lt_of_lt_of_le hBH.lt hs3)
            have hBkm := hBk.below hbm hBk.lt
            have hstm : Step gv w3 wr := hst.then_below hbm hs3
            have hbgm : Below g w wr := hbg3.trans (hstm.below (by omega) (Nat.le_of_lt hB3.lt))
            have hdn : NL.drop k = X :: NL.drop (k + 1) := by
              have : NL[k]? = some X := by rw [← HNL.out, List.getElem?_map, HN.out, ← HX.out]; rfl
              exact List.drop_eq_getElem?_toList_append.trans (by rw [this]; rfl)
            have hmg : mkGo r.2.2.2 NL vs (List.replicate j 0) = match mkStep r.2.2.2 X (vs.drop k).head? cur with
                | .inl c => .inl c
                | .inr cur' => mkGo r.2.2.2 (NL.drop (k + 1)) (vs.drop (k + 1)) cur' := by
              rw [← HEQ.out, hdn, mkGo]
              rw [List.tail_drop]
            have hlj := lastI_lt r.2.2.2 X j
            have c0 := hBgm.cell 0
            have c1 := hBgm.cell 1
            have c2 := hBgm.cell 2
            have c3 := hBgm.cell 3
            have k0 := hBgm.frozen 0
            have k1 := hBgm.frozen 1
            have k2 := hBgm.frozen 2
            have k3 := hBgm.frozen 3
            have hB9 := (((hBgm.put 0 (.int .i64 0)).put 1 (.bool false)).put 2 (.int .i64 0)).put 3 (.slice none 0 0)
            by_cases hneg : lastI r.2.2.2 X j < 0
            · rw [mkStep_neg (by rw [hN]; exact hneg)] at hmg
              have HMG := Lib.hid hmg
              clear hmg hdn
              go_wp2_with fail
              try rw [hg]
              refine bodyPost_ret (results_s2 rfl _ _ g _ _ _ _ rfl rfl hB9 Tryd.underlying39 rfl (by kernel_rfl)) rfl ⟨?_, (((hbgm.setCell (Nat.le_refl _) _).setCell (Nat.le_refl _) _).setCell (Nat.le_refl _) _).setCell (Nat.le_refl _) _⟩
              rw [← HR0.out, HMG.out]
              exact ⟨_, rfl, rfl⟩
            · obtain ⟨t, ht⟩ := Int.eq_ofNat_of_zero_le (show 0 ≤ lastI r.2.2.2 X j by omega)
              have hneg2 : ¬ lastI r.2.2.2 X r.2.2.2.length < 0 := by rw [hN]; exact hneg
              rw [ht] at hlj hneg ⊢
              by_cases hkv : k < vs.length
              · obtain ⟨u, hu⟩ : ∃ u, vs[k]? = some u := ⟨_, List.getElem?_eq_getElem hkv⟩
                have hdv : (vs.drop k).head? = some u := by rw [List.head?_drop]; exact hu
                rw [hdv, mkStep_some hneg2, hN, ht] at hmg
                simp only at hmg
                rw [Int.toNat_natCast] at hmg
                obtain ⟨b2, o2, rfl⟩ := HPY.out (by omega)
                obtain ⟨ey, hyb⟩ := HCY.out b2 o2 rfl k u hu
                have ey2 : wr.cell? ⟨b2, o2 + k, none⟩ = some (.int .u64 u) := hstm.cell (by simp only; omega) ey
                obtain ⟨u0, hu0⟩ : ∃ u0, cur[t]? = some u0 := ⟨_, List.getElem?_eq_getElem (by omega)⟩
                have hvm := hvl u (List.mem_of_getElem? hu)
                have h3 := hBhm.cell 3
                have hct : wr.cell? ⟨gv, t, none⟩ = some (.int .u64 u0) := by
                  rw [hBkm.cell t]
                  simp [hu0, u64V]
                have kt := hBkm.frozen t
                have hput := hBkm.put t (.int .u64 u)
                have hsl : (cur.map u64V).toArray.setIfInBounds t (.int .u64 u) = ((cur.set t u).map u64V).toArray := by
                  simp [List.map_set, u64V]
                rw [hsl] at hput
                have HMG := Lib.hid hmg
                clear hmg hdn hu hdv hu0 hsl ey
                go_wp2_with fail
                go_region
                go_wp2_with fail
                go_roundw
                case rel =>
                  refine ⟨k + 1, cur.set t u, by omega, by go_num, (hstm.trans (.of_below ((Below.refl _ _).drew))).trans (Step.setCell _ _ _ _), hput, by rw [List.length_set]; exact hcl, ?_, HMG.out.symm⟩
                  intro x hx
                  rcases List.mem_or_eq_of_mem_set hx with h | h
                  · exact HCM.out x h
                  · rw [h]; exact hvm
                case measure => simp [intOf]; omega
              · have hdv : (vs.drop k).head? = none := by rw [List.head?_drop, List.getElem?_eq_none (by omega)]
                rw [hdv, mkStep_none hneg2] at hmg
                have HMG := Lib.hid hmg
                clear hmg hdn hdv
                go_wp2_with fail
                try rw [hg]
                refine bodyPost_ret (results_s2 rfl _ _ g _ _ _ _ rfl rfl hB9 Tryd.underlying39 rfl (by kernel_rfl)) rfl ⟨?_, (((hbgm.setCell (Nat.le_refl _) _).setCell (Nat.le_refl _) _).setCell (Nat.le_refl _) _).setCell (Nat.le_refl _) _⟩
                rw [← HR0.out, HMG.out]
                exact ⟨_, rfl, rfl⟩
      · have hkz : k = ns.length := by omega
        subst hkz
        have hmg : mkGo r.2.2.2 NL vs (List.replicate N 0) = .inr cur := by
          rw [← HEQ.out, List.drop_eq_nil_of_le (by rw [← HNL.out]; simp), mkGo]
        have hR0 := HR0.out
        rw [hmg] at hR0
        simp only at hR0
        have hs3 : w3.heap.size ≤ wr.heap.size := hst.size
        have hBgr := hst.blk (by omega) hB3
        have hBhr := hst.blk (by omega) hBH
        have hbgr : Below g w wr := hbg3.trans (hst.below (by omega) (Nat.le_of_lt hB3.lt))
        have hbgr' : Below w.heap.size w wr := by rw [hg]; exact hbgr
        have d0 := hBhr.cell 0
        have d1 := hBhr.cell 1
        have d2 := hBhr.cell 2
        have d3 := hBhr.cell 3
        have hsr : SRd wr (.slice (some ⟨gv, 0, none⟩) N N) 1 cur.length (cur.map u64V) := by
          have := SRd.lit5 (n := N) hBk rfl (by simp [hcl]) (by unfold maxLen; omega)
          rw [hcl]; exact this
        have HRR := Lib.hid hR0
        have hlg := hBgr.lt
        have hlh := hBhr.lt
        clear hmg hR0
        go_wp2_with fail
        refine (right_any op false fl cur _ _ h0 hf hsr HCM.out (T.on hbgr') (shaped_ons hS hbgr')).mono ?_
        rintro e w5 ⟨er, rfl, her, hb5⟩
        have hBg5 := hBgr.below hb5 hlg
        have hBh5 := hBhr.below hb5 hlh
        have hbg5 : Below g w w5 := hbgr.trans (hb5.mono (Nat.le_of_lt hlg))
        have hbg5' : Below w.heap.size w w5 := by rw [hg]; exact hbg5
        have c0 := hBg5.cell 0
        have c1 := hBg5.cell 1
        have c2 := hBg5.cell 2
        have c3 := hBg5.cell 3
        have k0 := hBg5.frozen 0
        have k1 := hBg5.frozen 1
        have k2 := hBg5.frozen 2
        have k3 := hBg5.frozen 3
        have q0 := hBh5.cell 0
        have q1 := hBh5.cell 1
        have q2 := hBh5.cell 2
        have q3 := hBh5.cell 3
        rcases hrr : rightR op false fl cur with _ | E
        · rw [hrr] at her
          obtain rfl : er = .nilIface := her
          have hR1 := HRR.out
          rw [hrr] at hR1
          simp only at hR1
          have hB9 := (((hBg5.put 0 (.int .i64 op)).put 1 (.bool false)).put 2 (.int .i64 fl)).put 3 (.slice (some ⟨gv, 0, none⟩) N N)
          have hfin := (((hbg5.setCell (Nat.le_refl g) (p := ⟨g, 0, none⟩) (.int .i64 op)).setCell (Nat.le_refl g) (p := ⟨g, 1, none⟩) (.bool false)).setCell (Nat.le_refl g) (p := ⟨g, 2, none⟩) (.int .i64 fl)).setCell (Nat.le_refl g) (p := ⟨g, 3, none⟩) (.slice (some ⟨gv, 0, none⟩) N N)
          have hs5 := (hsr.on hb5)
          have hs9 := (((hs5.off g (fun a ha => by injection ha with ha; rw [← ha]; show gv ≠ g; omega) 0 (.int .i64 op)).off g (fun a ha => by injection ha with ha; rw [← ha]; show gv ≠ g; omega) 1 (.bool false)).off g (fun a ha => by injection ha with ha; rw [← ha]; show gv ≠ g; omega) 2 (.int .i64 fl)).off g (fun a ha => by injection ha with ha; rw [← ha]; show gv ≠ g; omega) 3 (.slice (some ⟨gv, 0, none⟩) N N)
          have HR1 := Lib.hid hR1
          clear hR1 hrr
          go_wp2_with fail
          try rw [hg]
          refine bodyPost_ret (results_s2 rfl _ _ g _ _ _ _ rfl rfl hB9 Tryd.underlying39 rfl (by kernel_rfl)) rfl ⟨?_, hfin⟩
          rw [← HR1.out]
          exact ⟨_, rfl, hs9⟩
        · rw [hrr] at her
          obtain ⟨et, ex, rfl⟩ := her.value
          have hR1 := HRR.out
          rw [hrr] at hR1
          simp only at hR1
          have hB9 := (((hBg5.put 0 (.int .i64 0)).put 1 (.bool false)).put 2 (.int .i64 0)).put 3 (.slice none 0 0)
          have her9 := (((her.store (i := 0) (u := .int .i64 0) hlg).store (i := 1) (u := .bool false) hlg).store (i := 2) (u := .int .i64 0) hlg).store (i := 3) (u := .slice none 0 0) hlg
          have hfin := (((hbg5.setCell (Nat.le_refl g) (p := ⟨g, 0, none⟩) (.int .i64 0)).setCell (Nat.le_refl g) (p := ⟨g, 1, none⟩) (.bool false)).setCell (Nat.le_refl g) (p := ⟨g, 2, none⟩) (.int .i64 0)).setCell (Nat.le_refl g) (p := ⟨g, 3, none⟩) (.slice none 0 0)
          have HR1 := Lib.hid hR1
          clear hR1 hrr her
          go_wp2_with fail
          try rw [hg]
          refine bodyPost_ret (results_s2 rfl _ _ g _ _ _ _ rfl rfl hB9 Tryd.underlying39 rfl (by kernel_rfl)) rfl ⟨?_, hfin⟩
          rw [← HR1.out]
          exact ⟨_, rfl, her9.more (Nat.le_of_lt hlg)⟩
end Go.Proofs.YtifniblffjgfkaaDoor
