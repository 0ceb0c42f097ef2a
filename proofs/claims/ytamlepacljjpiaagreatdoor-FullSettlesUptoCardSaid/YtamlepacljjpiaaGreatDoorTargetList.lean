/- The contract of target.List. -/
import Derived.Test.YtamlepacljjpiaaGreatDoorTargetRight
import Derived.Test.YtamlepacljjpiaaGreatDoorGhead
import Derived.Lib.ItoaLen
import Derived.Deep.RegionHeld3
namespace Go.Proofs.YtamlepacljjpiaaGreatDoor
open Go.ChangeShapes Go.WideShapes Go.ChangeAt Go.RowKit Go.Shelf
set_option linter.unusedVariables false
set_option linter.unusedSimpArgs false
theorem wpList_append_pair2 (w : World) {ops : Array Oper} {rest : List Oper} {o : Oper} {a : Act} {Q : Exit → Act → World → Prop} (hgd : o.guard = none) (s x : Operand)
    (ho : o.op = .call { callee := .builtin .append, args := #[s, x], argTypes := #[27, 27] })
    (base : Nat) (v : Value) (l : PairL) (hs : a.eval s = v) (hown : PRow w base v l)
    (ad : Addr) (p : ByteArray × ByteArray) (c : Nat) (hx : a.eval x = .slice (some ad) 1 c) (h0 : w.cell? (ad.add 0) = some (.string p.1)) (h1 : w.cell? (ad.add 1) = some (.string p.2))
    (hlen : (l.length + 1) * 32 ≤ 140737488355328) (hbase : base ≤ w.heap.size) {w0 : World} (hbel : Below base w0 w)
    (h : ∀ v' w', PRow w' base v' (l ++ [p]) → Below base w0 w' → wpList Tryz.prog ops Q rest (a.put o.dst v') w') : wpList Tryz.prog ops Q (o :: rest) a w := by
  obtain ⟨i0, hi, hz0, hz1, hz2⟩ := info_parts infoPair
  refine wpList_plain hgd fun _ hK => wp_append_m w s x _ ho base 62 i0 _ 2 32 Tryz.underlying27 hi hz0 hz1 hz2 rfl (by decide) v l.length _ hs hown ad 1 c [.string p.1, .string p.2] hx (by simp) ?_ ?_ (by unfold maxLen; omega) (by omega) hbase ?_
  · intro j u hu
    match j with
    | 0 => cases hu; exact h0
    | 1 => cases hu; exact h1
    | j + 2 => simp at hu
  · intro u hu
    simp at hu
    rcases hu with rfl | rfl <;> rfl
  · intro v' w' r1 r2 r3
    refine hK _ _ (h v' w' ?_ (hbel.grown r2 hbase fun k hk => (hown.lt k hk).1))
    unfold PRow
    rw [List.length_append, pairCells_snoc]
    exact r1
theorem below_two_le {B : Nat} {w : World} (h : B ≤ w.heap.size) (o : Obj) : B ≤ (w.alloc o).heap.size := by simp; omega
def tnB : ByteArray := ⟨#[84, 97, 114, 103, 101, 116, 78, 97, 109, 101]⟩
def taB : ByteArray := ⟨#[84, 97, 114, 103, 101, 116, 65, 100, 100, 114, 101, 115, 115]⟩
def adr (p : ByteArray × Int) : ByteArray × ByteArray := (taB, p.1 ++ ⟨#[44]⟩ ++ ⟨(Lib.itoa p.2).toArray⟩)
def oneT (po : PoL) (t : List UInt8) : PairL := (tnB, ⟨t.toArray⟩) :: po.map adr
def listG (po : PoL) (x : List UInt8) (all : Bool) (tg : List (List UInt8)) : PairL := tg.flatMap fun t => if all = true ∨ t = x then oneT po t else []
def tlistP (c : Cfg) (x : List UInt8) (all : Bool) : Option PairL := if all = false ∧ x ∉ c.tg then none else some (listG c.po x all c.tg)
theorem listG_snoc (po : PoL) (x : List UInt8) (all : Bool) (tg : List (List UInt8)) (t : List UInt8) : listG po x all (tg ++ [t]) = listG po x all tg ++ if all = true ∨ t = x then oneT po t else [] := by
  simp [listG]
theorem oneT_len (po : PoL) (t : List UInt8) : (oneT po t).length = po.length + 1 := by simp [oneT]
theorem listG_len (po : PoL) (x : List UInt8) (all : Bool) (tg : List (List UInt8)) : (listG po x all tg).length ≤ tg.length * (po.length + 1) := by
  induction tg with
  | nil => simp [listG]
  | cons t r ih =>
    have e : listG po x all (t :: r) = (if all = true ∨ t = x then oneT po t else []) ++ listG po x all r := rfl
    rw [e, List.length_append, List.length_cons, Nat.add_mul]
    split
    · rw [oneT_len]; omega
    · simp; omega
def tlistIs (w : World) (base : Nat) (e : Ending) : Option PairL → Prop
  | none => e = .returned (.tuple #[.slice none 0 0, .iface 56 (.int .i64 8)])
  | some l => ∃ v, e = .returned (.tuple #[v, .nilIface]) ∧ PRow w base v l
set_option maxRecDepth 20000 in
set_option maxHeartbeats 8000000 in
theorem tlist_any (c : Cfg) (tv pv uv ov : Value) (X : ByteArray) (all : Bool) (w : World) (hv : CfgAt w tv pv uv ov c) (hc : c.Small) (T : Tabs w) (hlim : (c.tg.length * (c.po.length + 1) + 1) * 32 ≤ 140737488355328) :
    Calls Tryz.prog 31 #[cfgV tv pv uv ov c, .string X, .bool all] w fun e w' => tlistIs w' w.heap.size e (tlistP c X.data.toList all) ∧ Below w.heap.size w w' := by
  have hhas := fun w' (h : Below w.heap.size w w') => has_any c tv pv uv ov X w' (hv.on h)
  obtain ⟨x, hx⟩ : ∃ x, X.data.toList = x := ⟨_, rfl⟩
  rw [hx] at hhas ⊢
  obtain ⟨R, hR⟩ : ∃ R, tlistP c x all = R := ⟨_, rfl⟩
  rw [hR]
  obtain ⟨tg, po, uu, sn, ss, lim, own⟩ := c
  obtain ⟨hv1, hv2, hv3, hv4⟩ := hv
  have HS := Lib.hid hc
  clear hc
  unfold cfgV at hhas ⊢
  unfold tlistP at hR
  simp only at hv1 hv2 hR hhas hlim ⊢
  obtain ⟨A1, cap1, rfl, hm1⟩ := hv1.form
  obtain ⟨A2, cap2, rfl⟩ : ∃ A cap, pv = .slice A po.length cap := by obtain ⟨_, A, cap, h, _⟩ := hv2; exact ⟨A, cap, h⟩
  obtain ⟨M, hM⟩ : ∃ M, decide (x ∈ tg) = M := ⟨_, rfl⟩
  rw [hM] at hhas
  have HH := Lib.hid hhas
  have HM := Lib.hid hM
  have HV1 := Lib.hid hv1
  have HV2 := Lib.hid hv2
  have HX := Lib.hid hx
  clear hv1 hv2 hv3 hv4 hhas hM hx
  obtain ⟨n1, hn1⟩ : ∃ n, tg.length = n := ⟨_, rfl⟩
  obtain ⟨n2, hn2⟩ : ∃ n, po.length = n := ⟨_, rfl⟩
  rw [hn1, hn2] at hlim
  have hn1I : (n1 : Int) ≤ 4398046511104 := by
    have : n1 ≤ n1 * (n2 + 1) := Nat.le_mul_of_pos_right _ (by omega)
    omega
  have hlimX := fun (a b : Nat) (h1 : a ≤ n1 * (n2 + 1)) => (show (a + 1) * 32 ≤ 140737488355328 by omega)
  have HLIM := Lib.hid hlimX
  clear hlim hlimX
  have HN1 := Lib.hid hn1
  have HN2 := Lib.hid hn2
  have HR := Lib.hid hR
  clear hR
  rw [hn1, hn2] at HH ⊢
  obtain ⟨CV, hCV⟩ : ∃ CV : Array Value, #[.slice A1 n1 cap1, .slice A2 n2 cap2, uv, .string sn, .string ss, .int .i64 lim, ov] = CV := ⟨_, rfl⟩
  have q0 : CV[0]? = some (.slice A1 n1 cap1) := by rw [← hCV]; rfl
  have q1 : CV[1]? = some (.slice A2 n2 cap2) := by rw [← hCV]; rfl
  have hb0 : Below w.heap.size w (w.alloc (.cells CV 29)) := (Below.refl _ _).alloc (Nat.le_refl _) _
  have hB0 : Blk (w.alloc (.cells CV 29)) w.heap.size 29 CV := Blk.new w _ _
  have BODY : ∀ (W0 : World) (g : Nat), Below w.heap.size w W0 → g < W0.heap.size → w.heap.size ≤ W0.heap.size → Blk W0 g 29 CV → (all = true ∨ M = true) → True := fun _ _ _ _ _ _ _ => trivial
  clear BODY
  have hbox : (w.alloc (.cells #[.slice A1 n1 cap1, .slice A2 n2 cap2, uv, .string sn, .string ss, .int .i64 lim, ov] 29)) = w.alloc (.cells CV 29) := by rw [hCV]
  have HHa := HH.out _ (hbox ▸ hb0)
  have ENDN : all = false → M = false → ∀ w', Below w.heap.size w w' → tlistIs w' w.heap.size (.returned (.tuple #[.slice none 0 0, .iface 56 (.int .i64 8)])) R ∧ Below w.heap.size w w' := by
    intro h1 h2 w' hb
    refine ⟨?_, hb⟩
    have hR := HR.out
    rw [if_pos ⟨h1, by have := HM.out; rw [h2] at this; simpa using this⟩] at hR
    rw [← hR]
    rfl
  have HOK : all = true ∨ M = true → some (listG po x all tg) = R := by
    intro h
    have hR := HR.out
    rw [if_neg] at hR
    · exact hR
    · rintro ⟨h1, h2⟩
      rcases h with h | h
      · rw [h1] at h; cases h
      · have := HM.out; rw [h] at this; exact h2 (by simpa using this)
  have HE := Lib.hid ENDN
  have HO := Lib.hid HOK
  have HHA := Lib.hid HHa
  have HCV := Lib.hid hCV
  have HBOX := Lib.hid hbox
  have HBOX := Lib.hid hbox
  have HBOX := Lib.hid hbox
  have HBOX := Lib.hid hbox
  have HBOX := Lib.hid hbox
  have HBOX := Lib.hid hbox
  have HBOX := Lib.hid hbox
  have HBOX := Lib.hid hbox
  have HBOX := Lib.hid hbox
  have HBOX := Lib.hid hbox
  have HBOX := Lib.hid hbox
  have HBOX := Lib.hid hbox
  have HBOX := Lib.hid hbox
  have HBOX := Lib.hid hbox
  have HBOX := Lib.hid hbox
  have HBOX := Lib.hid hbox
  clear ENDN HOK HHa hbox hCV
  go_enter Tryz.func31, Tryz.ntmps31
  rcases all with _ | _
  · rcases M with _ | _
    · go_wp2_with fail
      refine HHA.out.mono ?_
      rintro e w1 ⟨rfl, hb1⟩
      go_wp2_with fail
      go_ret2
      rw [HBOX.out] at hb1
      exact HE.out (by trivial) (by trivial) _ (below_step hb0 hb1)
    · go_wp2_with fail
      refine HHA.out.mono ?_
      rintro e W0 ⟨rfl, hb1⟩
      rw [HBOX.out] at hb1
      have hBW : Blk W0 w.heap.size 29 CV := hB0.below hb1 hB0.lt
      have hbW : Below w.heap.size w W0 := below_step hb0 hb1
      obtain ⟨g, hg⟩ : ∃ g, w.heap.size = g := ⟨_, rfl⟩
      rw [hg] at hBW ⊢
      have HG := Lib.hid hg
      clear hb0 hb1 hB0 hg
      have hgl : g < W0.heap.size := hBW.lt
      have c0 := (hBW.cell 0).trans q0
      have c1 := (hBW.cell 1).trans q1
      clear hBW
      go_wp2_with fail
      go_loopw [8, 25] (fun v i wr => ∃ (k : Nat) (l : PairL), k ≤ n1 ∧ i = .int .i64 k ∧ Hid (listG po x false (tg.take k) = l) ∧ PRow wr W0.heap.size v l ∧ Below W0.heap.size W0 wr) (fun _ i _ => n1 - (intOf i).toNat)
      case atStart => exact ⟨0, [], Nat.zero_le _, rfl, Lib.hid (by simp [listG]), MRow.nil _ _ _ _, Below.refl _ _⟩
      case round =>
        obtain ⟨k, l, hk, rfl, hl, hrow, hbr⟩ := hrel
        have hbw := below_step hbW hbr
        by_cases hlt : k < n1
        · obtain ⟨t, ht⟩ : ∃ t, tg[k]? = some t := ⟨_, List.getElem?_eq_getElem (by rw [HN1.out]; exact hlt)⟩
          obtain ⟨b, o, rfl, hb, hc⟩ := (HV1.out.on hbw).at ht
          obtain ⟨Y, hY⟩ : ∃ Y : ByteArray, (⟨t.toArray⟩ : ByteArray) = Y := ⟨_, rfl⟩
          have hYl : Y.data.toList = t := by rw [← hY]
          rw [hY] at hc
          have htk : tg.take (k + 1) = tg.take k ++ [t] := by rw [List.take_add_one, ht]; rfl
          have hlen := listG_len po x false (tg.take k)
          rw [hl.out, List.length_take, HN1.out, HN2.out, Nat.min_eq_left hk] at hlen
          have hmul : (k + 1) * (n2 + 1) ≤ n1 * (n2 + 1) := Nat.mul_le_mul_right _ hlt
          rw [Nat.add_mul] at hmul
          obtain ⟨N, hN⟩ : ∃ N, n1 * (n2 + 1) = N := ⟨_, rfl⟩
          have hNl : (N + 1) * 32 ≤ 140737488355328 := HLIM.out N 0 (by rw [hN]; exact Nat.le_refl _)
          rw [hN] at hmul
          have hL : l.length + (n2 + 1) ≤ N := by omega
          have hL1 : (l.length + 1) * 32 ≤ 140737488355328 := by omega
          clear hlen hmul hN
          have HTK := Lib.hid htk
          have HY := Lib.hid hY
          clear htk ht hY
          by_cases hxt : t = x
          · have e0 : (Y.toList == X.toList) = true := by rw [toList_of, toList_of, HX.out, hYl, hxt]; simp
            have hXY : Y = X := by rw [str_of X, str_of Y, hYl, HX.out, hxt]
            subst hXY
            have hsz : Below W0.heap.size W0 (wr.alloc (.cells #[.string ⟨#[84, 97, 114, 103, 101, 116, 78, 97, 109, 101]⟩, .string Y] 62)) := hbr.alloc hbr.size _
            have e1 : listG po x false (tg.take (k + 1)) = l ++ oneT po t := by rw [HTK.out, listG_snoc, hl.out, if_pos (Or.inr hxt)]
            have HE1 := Lib.hid e1
            clear e1
            go_wp2_with (at_builtin; refine wpList_append_pair2 _ rfl _ _ rfl W0.heap.size _ l rfl (MRow.alloc hrow _) ⟨wr.heap.size, 0, none⟩ (tnB, Y) 1 rfl (pcell0 _ _ _ _) (pcell1 _ _ _ _) hL1 hsz.size (w0 := W0) hsz ?_)
            intro v2 w2 hrow2 hb2
            have d1 := (hb2.cell (p := ⟨g, 1, none⟩) hgl).trans c1
            go_wp2_with fail
            go_loopw [8, 44] (fun v i wr => ∃ j : Nat, j ≤ n2 ∧ i = .int .i64 j ∧ PRow wr W0.heap.size v (l ++ [(tnB, Y)] ++ (po.take j).map adr) ∧ Below W0.heap.size W0 wr) (fun _ i _ => n2 - (intOf i).toNat)
            case atStart => exact ⟨0, Nat.zero_le _, rfl, by simpa using hrow2, hb2⟩
            case round =>
              clear hrow2 hb2 d1 hrow hbr hbw hsz
              obtain ⟨j, hj, rfl, hrow, hbr⟩ := hrel
              have hbw := below_step hbW hbr
              by_cases hlj : j < n2
              · obtain ⟨p, hpj⟩ : ∃ p, po[j]? = some p := ⟨_, List.getElem?_eq_getElem (by rw [HN2.out]; exact hlj)⟩
                obtain ⟨b2, o2, cp, u0, u1, hvv, hbl, p0, p1, d0, d1⟩ := (HV2.out.on hbw).two (k := j) (by rw [HN2.out]; exact hlj)
                have hcell := poCells_at po j p hpj
                rw [hcell.1] at p0
                rw [hcell.2] at p1
                obtain rfl := Option.some.inj p0
                obtain rfl := Option.some.inj p1
                injection hvv with g1 g2 g3
                subst g1
                subst g3
                obtain ⟨hs1, hs2, hs3⟩ := HS.out.po p (List.mem_of_getElem? hpj)
                unfold bsmall at hs1
                have htj : (po.take (j + 1)).map adr = (po.take j).map adr ++ [adr p] := by rw [List.take_add_one, hpj]; simp
                obtain ⟨pa, pg⟩ := p
                simp only at d0 d1 hs1 hs2 hs3
                obtain ⟨IT, hIT⟩ : ∃ X : ByteArray, X = ⟨(Lib.itoa pg).toArray⟩ := ⟨_, rfl⟩
                have hadr : adr (pa, pg) = (taB, pa ++ ⟨#[44]⟩ ++ IT) := by rw [hIT]; rfl
                rw [hadr] at htj
                have hITs : IT.size ≤ 21 := by rw [hIT, size_mkl]; exact Lib.itoa_length_le pg hs2 hs3
                have hlac : (l ++ [(tnB, Y)] ++ (po.take j).map adr).length = l.length + 1 + j := by
                  simp only [List.length_append, List.length_map, List.length_take, HN2.out, List.length_cons, List.length_nil]
                  omega
                obtain ⟨AC, hAC⟩ : ∃ L : PairL, l ++ [(tnB, Y)] ++ (po.take j).map adr = L := ⟨_, rfl⟩
                rw [hAC] at hrow hlac
                have hacl : (AC.length + 1) * 32 ≤ 140737488355328 := by omega
                have hnext : l ++ [(tnB, Y)] ++ (po.take (j + 1)).map adr = AC ++ [(taB, pa ++ ⟨#[44]⟩ ++ IT)] := by rw [htj, ← hAC]; simp
                have HNX := Lib.hid hnext
                have HIT := Lib.hid hIT
                have hpg := And.intro hs2 hs3
                have hk1 : ¬ 9223372036854775806 < pa.size := by omega
                have hk2 : ¬ 9223372036854775807 < pa.size + 1 + IT.size := by omega
                have hk3 : ¬ 9223372036854775807 < pa.size + 1 := by omega
                have hk4 : ¬ 9223372036854775807 < (pa ++ (⟨#[44]⟩ : ByteArray)).size + IT.size := by rw [ByteArray.size_append]; exact hk2
                have hk5 : ¬ 9223372036854775807 < pa.size + (⟨#[44]⟩ : ByteArray).size := hk3
                have hadd1 : ∀ (P : Program) (W : World), (Op.stringOp .add pa ⟨#[44]⟩).run P W = .ok (.string (pa ++ ⟨#[44]⟩)) W := fun P W => run_string_add_sum W _ _ (by show pa.size + 1 ≤ _; omega)
                have hadd2 : ∀ (P : Program) (W : World), (Op.stringOp .add (pa ++ ⟨#[44]⟩) IT).run P W = .ok (.string (pa ++ ⟨#[44]⟩ ++ IT)) W := fun P W => run_string_add_sum W _ _ (by rw [ByteArray.size_append]; show pa.size + 1 + _ ≤ _; omega)
                obtain ⟨wp, hwp⟩ : ∃ W : World, wr.alloc (.cells #[.string pa, .int .i64 pg] 114) = W := ⟨_, rfl⟩
                have hBP : Blk wp wr.heap.size 114 #[.string pa, .int .i64 pg] := by rw [← hwp]; exact Blk.new wr _ _
                have hbp : Below W0.heap.size W0 wp := by rw [← hwp]; exact hbr.alloc hbr.size _
                have hrowp := MRow.alloc hrow (.cells #[.string pa, .int .i64 pg] 114)
                rw [hwp] at hrowp
                have HWP := Lib.hid hwp
                have hne := fun j hj => (MRow.lt hrow j hj).2
                obtain ⟨pb, hpb⟩ : ∃ pb, wr.heap.size = pb := ⟨_, rfl⟩
                rw [hpb] at hBP hne
                have hneq := fun (j : Nat) hj => Nat.ne_of_lt (hne j hj)
                have hpl := hBP.lt
                have z0 := hBP.cell 0
                have z1 := hBP.cell 1
                have hdp : Below wp.heap.size wp wp.drew := (Below.refl _ _).drew
                have Tp : Tabs wp := T.on (below_step hbW hbp)
                have hit : Calls Tryz.prog 66 #[.int .i64 pg] wp.drew fun e w' => e = .returned (.string IT) ∧ Below wp.drew.heap.size wp.drew w' := itoa_to pg IT HIT.out _ hpg (Tp.on hdp)
                clear hcell hpj g2 hIT hadr htj hAC hnext hwp hlac hne
                go_upto_region 12 with (fail)
                refine wp_worldN HWP.out ?_
                try rw [hpb]
                clear d0 d1
                go_region_held3 (fun w' => w'.cell? ⟨pb, 0, none⟩ = some (.string pa) ∧ w'.cell? ⟨pb, 1, none⟩ = some (.int .i64 pg)) (first | go_keep | (with_reducible exact ⟨z0, z1⟩) | (with_reducible exact k01) | (with_reducible exact k02)) (first | (go_at_call 66; refine hit.mono ?_; rintro e w3 ⟨rfl, hb3⟩; have k01 := And.intro ((hb3.cell (p := ⟨pb, 0, none⟩) hpl).trans z0) ((hb3.cell (p := ⟨pb, 1, none⟩) hpl).trans z1); have hb3p := hdp.trans hb3; have hbp3 := below_step hbp hb3p) | (refine step_append_pair _ (by rfl) _ _ (by rfl) W0.heap.size _ AC (by rfl) (MRow.alloc (MRow.below hrowp hb3p (Nat.le_refl _)) _) ⟨w3.heap.size, 0, none⟩ 1 (taB, pa ++ ⟨#[44]⟩ ++ IT) (by rfl) (pcell0 _ _ _ _) (pcell1 _ _ _ _) hacl (below_two_le hbp3.size _) (w0 := W0) (hbp3.alloc hbp3.size _) ?_; intro v4 w4 hr4 hb4 hg4; have hP4 := Blk.grown (Blk.alloc (hBP.below hb3p hpl) _) hg4 (fun h => hneq pb h.symm rfl); have k02 := And.intro (hP4.cell 0) (hP4.cell 1)))
                all_goals
                  go_wp2_with fail
                  go_roundw
                  case rel => exact ⟨j + 1, by omega, by go_num, by rw [HNX.out]; exact hr4, hb4⟩
                  case measure => simp [intOf]; omega
              · obtain rfl : j = n2 := by omega
                have hfin : l ++ [(tnB, Y)] ++ (po.take j).map adr = l ++ oneT po t := by rw [List.take_of_length_le (by rw [HN2.out]; exact Nat.le_refl _), ← HY.out]; simp [oneT]
                rw [hfin] at hrow
                clear hfin
                go_wp2_with fail
                go_roundw
                case rel => exact ⟨k + 1, _, by omega, by go_num, Lib.hid HE1.out, hrow, hbr⟩
                case measure => simp [intOf]; omega

          · have e0 : (Y.toList == X.toList) = false := by rw [toList_of, toList_of, HX.out, hYl]; simpa using hxt
            have e1 : ¬ Y = X := fun h => hxt (by rw [← HX.out, ← h, hYl])
            have hl1 : Hid (listG po x false (tg.take (k + 1)) = l) := Lib.hid (by rw [HTK.out, listG_snoc, hl.out, if_neg (by simp [hxt])]; simp)
            clear hYl hxt
            go_wp2_with fail
            go_roundw
            case rel => exact ⟨k + 1, l, by omega, by go_num, hl1, hrow, hbr⟩
            case measure => simp [intOf]; omega
        · obtain rfl : k = n1 := by omega
          have hR : some l = R := by rw [← HO.out (by first | trivial | exact Or.inl trivial | exact Or.inr trivial), ← hl.out, List.take_of_length_le (by rw [HN1.out]; exact Nat.le_refl _)]
          subst hR
          clear HR HE HO
          go_wp2_with fail
          go_ret2
          exact ⟨⟨_, rfl, MRow.more hrow hbW.size⟩, hbw⟩
  · go_upto_region 3 with (fail)
    refine wp_worldN HBOX.out ?_
    obtain ⟨W0, hW0⟩ : ∃ W : World, w.alloc (.cells CV 29) = W := ⟨_, rfl⟩
    rw [hW0] at hb0 hB0 ⊢
    have hBW : Blk W0 w.heap.size 29 CV := hB0
    have hbW : Below w.heap.size w W0 := hb0
    obtain ⟨g, hg⟩ : ∃ g, w.heap.size = g := ⟨_, rfl⟩
    rw [hg] at hBW ⊢
    have HG := Lib.hid hg
    clear hb0 hB0 hg hW0
    have hgl : g < W0.heap.size := hBW.lt
    have c0 := (hBW.cell 0).trans q0
    have c1 := (hBW.cell 1).trans q1
    clear hBW
    go_wp2_with fail
    go_loopw [8, 25] (fun v i wr => ∃ (k : Nat) (l : PairL), k ≤ n1 ∧ i = .int .i64 k ∧ Hid (listG po x true (tg.take k) = l) ∧ PRow wr W0.heap.size v l ∧ Below W0.heap.size W0 wr) (fun _ i _ => n1 - (intOf i).toNat)
    case atStart => exact ⟨0, [], Nat.zero_le _, rfl, Lib.hid (by simp [listG]), MRow.nil _ _ _ _, Below.refl _ _⟩
    case round =>
      obtain ⟨k, l, hk, rfl, hl, hrow, hbr⟩ := hrel
      have hbw := below_step hbW hbr
      by_cases hlt : k < n1
      · obtain ⟨t, ht⟩ : ∃ t, tg[k]? = some t := ⟨_, List.getElem?_eq_getElem (by rw [HN1.out]; exact hlt)⟩
        obtain ⟨b, o, rfl, hb, hc⟩ := (HV1.out.on hbw).at ht
        obtain ⟨Y, hY⟩ : ∃ Y : ByteArray, (⟨t.toArray⟩ : ByteArray) = Y := ⟨_, rfl⟩
        have hYl : Y.data.toList = t := by rw [← hY]
        rw [hY] at hc
        have htk : tg.take (k + 1) = tg.take k ++ [t] := by rw [List.take_add_one, ht]; rfl
        have hlen := listG_len po x true (tg.take k)
        rw [hl.out, List.length_take, HN1.out, HN2.out, Nat.min_eq_left hk] at hlen
        have hmul : (k + 1) * (n2 + 1) ≤ n1 * (n2 + 1) := Nat.mul_le_mul_right _ hlt
        rw [Nat.add_mul] at hmul
        obtain ⟨N, hN⟩ : ∃ N, n1 * (n2 + 1) = N := ⟨_, rfl⟩
        have hNl : (N + 1) * 32 ≤ 140737488355328 := HLIM.out N 0 (by rw [hN]; exact Nat.le_refl _)
        rw [hN] at hmul
        have hL : l.length + (n2 + 1) ≤ N := by omega
        have hL1 : (l.length + 1) * 32 ≤ 140737488355328 := by omega
        clear hlen hmul hN
        have HTK := Lib.hid htk
        have HY := Lib.hid hY
        clear htk ht hY
        have hsz : Below W0.heap.size W0 (wr.alloc (.cells #[.string ⟨#[84, 97, 114, 103, 101, 116, 78, 97, 109, 101]⟩, .string Y] 62)) := hbr.alloc hbr.size _
        have e1 : listG po x true (tg.take (k + 1)) = l ++ oneT po t := by rw [HTK.out, listG_snoc, hl.out, if_pos (Or.inl rfl)]
        have HE1 := Lib.hid e1
        clear e1
        go_wp2_with (at_builtin; refine wpList_append_pair2 _ rfl _ _ rfl W0.heap.size _ l rfl (MRow.alloc hrow _) ⟨wr.heap.size, 0, none⟩ (tnB, Y) 1 rfl (pcell0 _ _ _ _) (pcell1 _ _ _ _) hL1 hsz.size (w0 := W0) hsz ?_)
        intro v2 w2 hrow2 hb2
        have d1 := (hb2.cell (p := ⟨g, 1, none⟩) hgl).trans c1
        go_wp2_with fail
        go_loopw [8, 44] (fun v i wr => ∃ j : Nat, j ≤ n2 ∧ i = .int .i64 j ∧ PRow wr W0.heap.size v (l ++ [(tnB, Y)] ++ (po.take j).map adr) ∧ Below W0.heap.size W0 wr) (fun _ i _ => n2 - (intOf i).toNat)
        case atStart => exact ⟨0, Nat.zero_le _, rfl, by simpa using hrow2, hb2⟩
        case round =>
          clear hrow2 hb2 d1 hrow hbr hbw hsz
          obtain ⟨j, hj, rfl, hrow, hbr⟩ := hrel
          have hbw := below_step hbW hbr
          by_cases hlj : j < n2
          · obtain ⟨p, hpj⟩ : ∃ p, po[j]? = some p := ⟨_, List.getElem?_eq_getElem (by rw [HN2.out]; exact hlj)⟩
            obtain ⟨b2, o2, cp, u0, u1, hvv, hbl, p0, p1, d0, d1⟩ := (HV2.out.on hbw).two (k := j) (by rw [HN2.out]; exact hlj)
            have hcell := poCells_at po j p hpj
            rw [hcell.1] at p0
            rw [hcell.2] at p1
            obtain rfl := Option.some.inj p0
            obtain rfl := Option.some.inj p1
            injection hvv with g1 g2 g3
            subst g1
            subst g3
            obtain ⟨hs1, hs2, hs3⟩ := HS.out.po p (List.mem_of_getElem? hpj)
            unfold bsmall at hs1
            have htj : (po.take (j + 1)).map adr = (po.take j).map adr ++ [adr p] := by rw [List.take_add_one, hpj]; simp
            obtain ⟨pa, pg⟩ := p
            simp only at d0 d1 hs1 hs2 hs3
            obtain ⟨IT, hIT⟩ : ∃ X : ByteArray, X = ⟨(Lib.itoa pg).toArray⟩ := ⟨_, rfl⟩
            have hadr : adr (pa, pg) = (taB, pa ++ ⟨#[44]⟩ ++ IT) := by rw [hIT]; rfl
            rw [hadr] at htj
            have hITs : IT.size ≤ 21 := by rw [hIT, size_mkl]; exact Lib.itoa_length_le pg hs2 hs3
            have hlac : (l ++ [(tnB, Y)] ++ (po.take j).map adr).length = l.length + 1 + j := by
              simp only [List.length_append, List.length_map, List.length_take, HN2.out, List.length_cons, List.length_nil]
              omega
            obtain ⟨AC, hAC⟩ : ∃ L : PairL, l ++ [(tnB, Y)] ++ (po.take j).map adr = L := ⟨_, rfl⟩
            rw [hAC] at hrow hlac
            have hacl : (AC.length + 1) * 32 ≤ 140737488355328 := by omega
            have hnext : l ++ [(tnB, Y)] ++ (po.take (j + 1)).map adr = AC ++ [(taB, pa ++ ⟨#[44]⟩ ++ IT)] := by rw [htj, ← hAC]; simp
            have HNX := Lib.hid hnext
            have HIT := Lib.hid hIT
            have hpg := And.intro hs2 hs3
            have hk1 : ¬ 9223372036854775806 < pa.size := by omega
            have hk2 : ¬ 9223372036854775807 < pa.size + 1 + IT.size := by omega
            have hk3 : ¬ 9223372036854775807 < pa.size + 1 := by omega
            have hk4 : ¬ 9223372036854775807 < (pa ++ (⟨#[44]⟩ : ByteArray)).size + IT.size := by rw [ByteArray.size_append]; exact hk2
            have hk5 : ¬ 9223372036854775807 < pa.size + (⟨#[44]⟩ : ByteArray).size := hk3
            have hadd1 : ∀ (P : Program) (W : World), (Op.stringOp .add pa ⟨#[44]⟩).run P W = .ok (.string (pa ++ ⟨#[44]⟩)) W := fun P W => run_string_add_sum W _ _ (by show pa.size + 1 ≤ _; omega)
            have hadd2 : ∀ (P : Program) (W : World), (Op.stringOp .add (pa ++ ⟨#[44]⟩) IT).run P W = .ok (.string (pa ++ ⟨#[44]⟩ ++ IT)) W := fun P W => run_string_add_sum W _ _ (by rw [ByteArray.size_append]; show pa.size + 1 + _ ≤ _; omega)
            obtain ⟨wp, hwp⟩ : ∃ W : World, wr.alloc (.cells #[.string pa, .int .i64 pg] 114) = W := ⟨_, rfl⟩
            have hBP : Blk wp wr.heap.size 114 #[.string pa, .int .i64 pg] := by rw [← hwp]; exact Blk.new wr _ _
            have hbp : Below W0.heap.size W0 wp := by rw [← hwp]; exact hbr.alloc hbr.size _
            have hrowp := MRow.alloc hrow (.cells #[.string pa, .int .i64 pg] 114)
            rw [hwp] at hrowp
            have HWP := Lib.hid hwp
            have hne := fun j hj => (MRow.lt hrow j hj).2
            obtain ⟨pb, hpb⟩ : ∃ pb, wr.heap.size = pb := ⟨_, rfl⟩
            rw [hpb] at hBP hne
            have hneq := fun (j : Nat) hj => Nat.ne_of_lt (hne j hj)
            have hpl := hBP.lt
            have z0 := hBP.cell 0
            have z1 := hBP.cell 1
            have hdp : Below wp.heap.size wp wp.drew := (Below.refl _ _).drew
            have Tp : Tabs wp := T.on (below_step hbW hbp)
            have hit : Calls Tryz.prog 66 #[.int .i64 pg] wp.drew fun e w' => e = .returned (.string IT) ∧ Below wp.drew.heap.size wp.drew w' := itoa_to pg IT HIT.out _ hpg (Tp.on hdp)
            clear hcell hpj g2 hIT hadr htj hAC hnext hwp hlac hne
            go_upto_region 12 with (fail)
            refine wp_worldN HWP.out ?_
            try rw [hpb]
            clear d0 d1
            go_region_held3 (fun w' => w'.cell? ⟨pb, 0, none⟩ = some (.string pa) ∧ w'.cell? ⟨pb, 1, none⟩ = some (.int .i64 pg)) (first | go_keep | (with_reducible exact ⟨z0, z1⟩) | (with_reducible exact k01) | (with_reducible exact k02)) (first | (go_at_call 66; refine hit.mono ?_; rintro e w3 ⟨rfl, hb3⟩; have k01 := And.intro ((hb3.cell (p := ⟨pb, 0, none⟩) hpl).trans z0) ((hb3.cell (p := ⟨pb, 1, none⟩) hpl).trans z1); have hb3p := hdp.trans hb3; have hbp3 := below_step hbp hb3p) | (refine step_append_pair _ (by rfl) _ _ (by rfl) W0.heap.size _ AC (by rfl) (MRow.alloc (MRow.below hrowp hb3p (Nat.le_refl _)) _) ⟨w3.heap.size, 0, none⟩ 1 (taB, pa ++ ⟨#[44]⟩ ++ IT) (by rfl) (pcell0 _ _ _ _) (pcell1 _ _ _ _) hacl (below_two_le hbp3.size _) (w0 := W0) (hbp3.alloc hbp3.size _) ?_; intro v4 w4 hr4 hb4 hg4; have hP4 := Blk.grown (Blk.alloc (hBP.below hb3p hpl) _) hg4 (fun h => hneq pb h.symm rfl); have k02 := And.intro (hP4.cell 0) (hP4.cell 1)))
            all_goals
              go_wp2_with fail
              go_roundw
              case rel => exact ⟨j + 1, by omega, by go_num, by rw [HNX.out]; exact hr4, hb4⟩
              case measure => simp [intOf]; omega
          · obtain rfl : j = n2 := by omega
            have hfin : l ++ [(tnB, Y)] ++ (po.take j).map adr = l ++ oneT po t := by rw [List.take_of_length_le (by rw [HN2.out]; exact Nat.le_refl _), ← HY.out]; simp [oneT]
            rw [hfin] at hrow
            clear hfin
            go_wp2_with fail
            go_roundw
            case rel => exact ⟨k + 1, _, by omega, by go_num, Lib.hid HE1.out, hrow, hbr⟩
            case measure => simp [intOf]; omega
      · obtain rfl : k = n1 := by omega
        have hR : some l = R := by rw [← HO.out (by first | trivial | exact Or.inl trivial | exact Or.inr trivial), ← hl.out, List.take_of_length_le (by rw [HN1.out]; exact Nat.le_refl _)]
        subst hR
        clear HR HE HO
        go_wp2_with fail
        go_ret2
        exact ⟨⟨_, rfl, MRow.more hrow hbW.size⟩, hbw⟩
end Go.Proofs.YtamlepacljjpiaaGreatDoor
