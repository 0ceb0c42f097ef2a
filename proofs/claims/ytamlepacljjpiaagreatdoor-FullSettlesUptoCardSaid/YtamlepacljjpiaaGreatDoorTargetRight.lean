/- The contract of target.Right. -/
import Derived.Test.YtamlepacljjpiaaGreatDoorTargetP
namespace Go.Proofs.YtamlepacljjpiaaGreatDoor
open Go.ChangeShapes Go.WideShapes Go.ChangeAt Go.RowKit Go.Shelf
set_option linter.unusedVariables false
set_option linter.unusedSimpArgs false
def tgGo (pre : List (List UInt8)) : List (List UInt8) → Option (Nat × Option Nat)
  | [] => none
  | t :: r => if txtB t = true ∧ t ∉ pre then tgGo (pre ++ [t]) r else some (5, some pre.length)
def poGo (k : Nat) : PoL → Option (Nat × Option Nat)
  | [] => none
  | p :: r => if txtB p.1.data.toList = false then some (5, some k) else if p.2 < 0 ∨ p.2 > 65535 then some (2, some k) else poGo (k + 1) r
def usGo (pre : List (List UInt8)) : PairL → Option (Nat × Option Nat)
  | [] => none
  | u :: r => if (txtB u.1.data.toList = true ∧ txtB u.2.data.toList = true) ∧ u.1.data.toList ∉ pre then usGo (pre ++ [u.1.data.toList]) r else some (5, some pre.length)
def selfR (c : Cfg) : Option (Nat × Option Nat) :=
  if (c.sn.data.toList ≠ [] ∨ c.ss.data.toList ≠ []) ∧ (txtB c.sn.data.toList = false ∨ txtB c.ss.data.toList = false) then some (3, none)
  else if c.lim < 512 ∨ c.lim > 100000 then some (2, none) else nNewR c.own
def cRight (c : Cfg) : Option (Nat × Option Nat) :=
  if c.tg.length > 8 ∨ c.po.length > 4 ∨ c.us.length > 8 then some (4, none)
  else match tgGo [] c.tg with
    | some e => some e
    | none => match poGo 0 c.po with
      | some e => some e
      | none => match usGo [] c.us with
        | some e => some e
        | none => selfR c
def RightE (base : Nat) (R : Option (Nat × Option Nat)) (e : Ending) (w' : World) : Prop := ∃ r, e = .returned r ∧ PErr w' base r R
theorem RightE.at {base : Nat} {w : World} {c p : Nat} {R : Option (Nat × Option Nat)} (hR : R = some (c, some p)) (hb : base ≤ w.heap.size) : RightE base R (.returned (.iface 121 (.pointer (some ⟨w.heap.size, 0, none⟩)))) (w.alloc (.cells #[.int .i64 c, .int .i64 p] 123)) := by
  subst hR
  exact ⟨_, rfl, w.heap.size, hb, rfl, Blk.new w _ _⟩
theorem RightE.at1 {base : Nat} {w : World} {o : Obj} {c p : Nat} {R : Option (Nat × Option Nat)} (hR : R = some (c, some p)) (hb : base ≤ w.heap.size) : RightE base R (.returned (.iface 121 (.pointer (some ⟨w.heap.size + 1, 0, none⟩)))) ((w.alloc o).alloc (.cells #[.int .i64 c, .int .i64 p] 123)) := by
  have hz : (w.alloc o).heap.size = w.heap.size + 1 := by simp
  have := RightE.at (base := base) (w := w.alloc o) hR (by omega)
  rw [hz] at this
  exact this
theorem below_two {base : Nat} {a w : World} (h : Below base a w) (hb : base ≤ w.heap.size) (o o' : Obj) : Below base a ((w.alloc o).alloc o') := (h.alloc hb o).alloc (by simp; omega) o'
theorem PErr.more {w : World} {b b' : Nat} {v : Value} {R : Option (Nat × Option Nat)} (h : PErr w b v R) (hb : b' ≤ b) : PErr w b' v R := by
  rcases R with _ | ⟨c, _ | p⟩
  · exact h
  · exact h
  · obtain ⟨g, h1, h2⟩ := h
    exact ⟨g, by omega, h2⟩
set_option maxRecDepth 20000 in
set_option maxHeartbeats 8000000 in
theorem tright_any (c : Cfg) (tv pv uv ov : Value) (w : World) (hv : CfgAt w tv pv uv ov c) (hc : c.Small) (V : Env w) :
    Calls Tryz.prog 60 #[cfgV tv pv uv ov c] w fun e w' => RightE w.heap.size (cRight c) e w' ∧ Below w.heap.size w w' := by
  have hmm := @run_makeMap Tryz.prog
  have ub : (Tryz.prog).underlying 4 = some .bool := by kernel_rfl
  have us : (Tryz.prog).underlying 9 = some .string := by kernel_rfl
  have um : (Tryz.prog).underlying 171 = some (.map 9 4) := by kernel_rfl
  obtain ⟨R, hR⟩ : ∃ R, cRight c = R := ⟨_, rfl⟩
  rw [hR]
  obtain ⟨tg, po, uu, sn, ss, lim, own⟩ := c
  obtain ⟨hv1, hv2, hv3, hv4⟩ := hv
  have HS := Lib.hid hc
  clear hc
  unfold cfgV
  unfold cRight at hR
  simp only at hv1 hv2 hv3 hv4 hR ⊢
  obtain ⟨A1, cap1, rfl, hm1⟩ := hv1.form
  obtain ⟨A2, cap2, rfl⟩ : ∃ A cap, pv = .slice A po.length cap := by obtain ⟨_, A, cap, h, _⟩ := hv2; exact ⟨A, cap, h⟩
  obtain ⟨A3, cap3, rfl⟩ : ∃ A cap, uv = .slice A uu.length cap := by obtain ⟨_, A, cap, h, _⟩ := hv3; exact ⟨A, cap, h⟩
  obtain ⟨A4, cap4, rfl⟩ : ∃ A cap, ov = .slice A own.length cap := by obtain ⟨_, A, cap, h, _⟩ := hv4; exact ⟨A, cap, h⟩
  have HV1 := Lib.hid hv1
  have HV2 := Lib.hid hv2
  have HV3 := Lib.hid hv3
  have HV4 := Lib.hid hv4
  obtain ⟨n1, hn1⟩ : ∃ n, tg.length = n := ⟨_, rfl⟩
  obtain ⟨n2, hn2⟩ : ∃ n, po.length = n := ⟨_, rfl⟩
  obtain ⟨n3, hn3⟩ : ∃ n, uu.length = n := ⟨_, rfl⟩
  rw [hn1, hn2, hn3] at hR ⊢
  have HN1 := Lib.hid hn1
  have HN2 := Lib.hid hn2
  have HN3 := Lib.hid hn3
  have HR := Lib.hid hR
  clear hv1 hv2 hv3 hv4 hn1 hn2 hn3 hR
  obtain ⟨g, hg⟩ : ∃ g, w.heap.size = g := ⟨_, rfl⟩
  have lim0 : ∀ w0 : World, Below g w w0 → RightE g (some (4, none)) (.returned (.iface 56 (.int .i64 4))) w0 ∧ Below g w w0 := fun w0 h => ⟨⟨_, rfl, rfl⟩, h⟩
  have hb0 : Below w.heap.size w (w.alloc (.cells #[.slice A1 n1 cap1, .slice A2 n2 cap2, .slice A3 n3 cap3, .string sn, .string ss, .int .i64 lim, .slice A4 own.length cap4] 29)) := (Below.refl _ _).alloc (Nat.le_refl _) _
  have hB0 : Blk (w.alloc (.cells #[.slice A1 n1 cap1, .slice A2 n2 cap2, .slice A3 n3 cap3, .string sn, .string ss, .int .i64 lim, .slice A4 own.length cap4] 29)) w.heap.size 29 #[.slice A1 n1 cap1, .slice A2 n2 cap2, .slice A3 n3 cap3, .string sn, .string ss, .int .i64 lim, .slice A4 own.length cap4] := Blk.new w _ _
  go_enter Tryz.func60, Tryz.ntmps60
  by_cases h1 : (n1 : Int) > 8
  · have hR := HR.out
    rw [if_pos (Or.inl (by omega))] at hR
    subst hR
    rw [hg] at hb0 ⊢
    go_wp2_with fail
    go_ret
    exact lim0 _ hb0
  by_cases h2 : (n2 : Int) > 4
  · have hR := HR.out
    rw [if_pos (Or.inr (Or.inl (by omega)))] at hR
    subst hR
    rw [hg] at hb0 ⊢
    go_wp2_with fail
    go_ret
    exact lim0 _ hb0
  by_cases h3 : (n3 : Int) > 8
  · have hR := HR.out
    rw [if_pos (Or.inr (Or.inr (by omega)))] at hR
    subst hR
    rw [hg] at hb0 ⊢
    go_wp2_with fail
    go_ret
    exact lim0 _ hb0
  have hR := HR.out
  rw [if_neg (by omega)] at hR
  have HR := Lib.hid hR
  clear lim0 hR
  go_wp2_with fail
  obtain ⟨BX, hBX⟩ : ∃ BX : Array Value, #[.slice A1 n1 cap1, .slice A2 n2 cap2, .slice A3 n3 cap3, .string sn, .string ss, .int .i64 lim, .slice A4 own.length cap4] = BX := ⟨_, rfl⟩
  have q1 : BX[1]? = some (.slice A2 n2 cap2) := by rw [← hBX]; rfl
  have q2 : BX[2]? = some (.slice A3 n3 cap3) := by rw [← hBX]; rfl
  have q3 : BX[3]? = some (.string sn) := by rw [← hBX]; rfl
  have q4 : BX[4]? = some (.string ss) := by rw [← hBX]; rfl
  have q5 : BX[5]? = some (.int .i64 lim) := by rw [← hBX]; rfl
  have q6 : BX[6]? = some (.slice A4 own.length cap4) := by rw [← hBX]; rfl
  rw [hBX] at hb0 hB0 ⊢
  clear hBX
  obtain ⟨W0, hW0⟩ : ∃ W0 : World, w.alloc (.cells BX 29) = W0 := ⟨_, rfl⟩
  have hz0 : W0.heap.size = g + 1 := by rw [← hW0, ← hg]; simp
  rw [hW0] at hb0 hB0 ⊢
  rw [hg] at hB0
  clear hW0
  have o0 := World.ownsMap_made (H := Unit) W0 Tryz.prog 9 (plainElem Tryz.prog 4)
  have hbm : Below w.heap.size w (W0.alloc (.map #[] 0)) := hb0.alloc (by rw [hg]; omega) _
  have hBm : Blk (W0.alloc (.map #[] 0)) g 29 BX := hB0.alloc _
  obtain ⟨W1, hW1⟩ : ∃ W1 : World, W0.alloc (.map #[] 0) = W1 := ⟨_, rfl⟩
  rw [hW1] at o0 hbm hBm ⊢
  rw [hz0] at o0
  try rw [hz0]
  try rw [hg]
  have hR0 := HR.out
  obtain ⟨T, hT⟩ : ∃ T, tgGo [] tg = T := ⟨_, rfl⟩
  rw [hT] at hR0
  have HR := Lib.hid hR0
  have HT := Lib.hid hT
  clear hW1 hR0 hT hb0 hB0 hz0
  go_loopw [34] (fun i wr => ∃ (k : Nat) (D : DataW Unit), k ≤ n1 ∧ i = .int .i64 k ∧ wr.ownsMap Tryz.prog 9 (plainElem Tryz.prog 4) (g + 1) k D ∧ Seen D (tg.take k) ∧ tgGo (tg.take k) (tg.drop k) = T ∧ Blk wr g 29 BX ∧ Below w.heap.size w wr) (fun i _ => n1 - (intOf i).toNat)
  case atStart => exact ⟨0, _, Nat.zero_le _, rfl, o0, Seen.nil, HT.out, hBm, hbm⟩
  case round =>
    obtain ⟨k, D, hk, rfl, ho, hsn, hgo, hB, hbr⟩ := hrel
    by_cases hlt : k < n1
    · obtain ⟨x, hx⟩ : ∃ x, tg[k]? = some x := ⟨_, List.getElem?_eq_getElem (by rw [HN1.out]; exact hlt)⟩
      obtain ⟨b, o, rfl, hb, hc⟩ := (HV1.out.on hbr).at hx
      obtain ⟨X, hX⟩ : ∃ X : ByteArray, (⟨x.toArray⟩ : ByteArray) = X := ⟨_, rfl⟩
      have hXl : X.data.toList = x := by rw [← hX]
      rw [hX] at hc
      have hXs : bsmall X := by
        have := HS.out.tg x (List.mem_of_getElem? hx)
        unfold bsmall
        rw [← len_of, hXl]
        exact this
      have htx := text_any X wr hXs
      rw [hXl] at htx
      have htk : tg.take (k + 1) = tg.take k ++ [x] := by rw [List.take_add_one, hx]; rfl
      have hdr : tg.drop k = x :: tg.drop (k + 1) := by
        obtain ⟨h1, h2⟩ := List.getElem?_eq_some_iff.1 hx
        rw [List.drop_eq_getElem_cons h1, h2]
      have hlk : (tg.take k).length = k := by rw [List.length_take, HN1.out]; omega
      rw [hdr, tgGo, hlk, ← htk] at hgo
      obtain ⟨B, hB1⟩ : ∃ B, txtB x = B := ⟨_, rfl⟩
      rw [hB1] at htx hgo
      have HX := Lib.hid hx
      have HTK := Lib.hid htk
      have HXL := Lib.hid hXl
      have HSN := Lib.hid hsn
      have HTX := Lib.hid htx
      have HGO := Lib.hid hgo
      clear hx hX htk hdr hlk hB1 hXl hsn htx hgo
      rcases B with _ | _
      · go_wp2_with fail
        refine HTX.out.mono ?_
        rintro e w' ⟨rfl, rfl⟩
        go_wp2_with fail
        go_ret
        have hG := HGO.out
        rw [if_neg (by simp)] at hG
        have hR := HR.out
        rw [← hG] at hR
        exact ⟨RightE.at hR.symm hbr.size, hbr.alloc (by exact hbr.size) _⟩
      · have hkey : keyOf Tryz.prog 9 (.string X) = some (.string X.data.toList) := WideMaps.keyOf_string_mk us (by unfold bsmall at hXs; unfold maxLen; omega)
        obtain ⟨c, hrun, hat⟩ := lookup_bool ho (Maps.string_keyed us) um ub (by go_simp) hkey
        rw [HXL.out, HSN.out] at hat
        have hcx : c = decide (x ∈ tg.take k) := by injection hat with h; injection h with h; exact h.symm
        by_cases hin : x ∈ tg.take k
        · obtain rfl : c = true := by rw [hcx]; simpa using hin
          clear hat hcx hkey
          go_wp2_with fail
          refine HTX.out.mono ?_
          rintro e w' ⟨rfl, rfl⟩
          go_wp2_with fail
          go_ret
          have hG := HGO.out
          rw [if_neg (by simp [hin])] at hG
          have hR := HR.out
          rw [← hG] at hR
          exact ⟨RightE.at hR.symm hbr.size, hbr.alloc (by exact hbr.size) _⟩
        · obtain rfl : c = false := by rw [hcx]; simpa using hin
          obtain ⟨W2, r1, o1, g1⟩ := ho.update (Maps.string_keyed us) um (by unfold maxLen; omega) hkey (plainElem_bool ub true)
          have hG := HGO.out
          rw [if_pos ⟨rfl, hin⟩] at hG
          have hsn1 : Seen (D.put (.string X.data.toList) (.lit (.bool true))) (tg.take (k + 1)) := by
            rw [HXL.out, HTK.out]
            exact HSN.out.put ho.isMap x
          have hB1 : Blk W2 g 29 BX := hB.grown g1 (by intro h; injection h with h; omega)
          have hb1 : Below w.heap.size w W2 := hbr.grown g1 hbr.size (by rintro j h; injection h with h; omega)
          have HG1 := Lib.hid hG
          have HSN1 := Lib.hid hsn1
          clear hat hcx hkey hG hsn1
          go_wp2_with fail
          refine HTX.out.mono ?_
          rintro e w' ⟨rfl, rfl⟩
          go_wp2_with fail
          go_roundw
          case rel => exact ⟨k + 1, _, by omega, by go_num, o1, HSN1.out, HG1.out, hB1, hb1⟩
          case measure => simp [intOf]; omega
    · obtain rfl : k = n1 := by omega
      have hT : T = none := by
        rw [List.drop_of_length_le (by rw [HN1.out]; exact Nat.le_refl _)] at hgo
        exact hgo.symm
      subst hT
      have hR0 := HR.out
      simp only at hR0
      obtain ⟨T2, hT2⟩ : ∃ T, poGo 0 po = T := ⟨_, rfl⟩
      rw [hT2] at hR0
      have HR := Lib.hid hR0
      have HT2 := Lib.hid hT2
      clear hgo ho hsn hR0 hT2 o0 hbm hBm hk hlt HT
      have c1 := (hB.cell 1).trans q1
      go_wp2_with fail
      go_loopw [57] (fun i wr => ∃ k : Nat, k ≤ n2 ∧ i = .int .i64 k ∧ poGo k (po.drop k) = T2 ∧ Blk wr g 29 BX ∧ Below w.heap.size w wr) (fun i _ => n2 - (intOf i).toNat)
      case atStart => exact ⟨0, Nat.zero_le _, rfl, HT2.out, hB, hbr⟩
      case round =>
        clear hB hbr c1
        obtain ⟨k, hk, rfl, hgo, hB, hbr⟩ := hrel
        by_cases hlt : k < n2
        · obtain ⟨p, hpk⟩ : ∃ p, po[k]? = some p := ⟨_, List.getElem?_eq_getElem (by rw [HN2.out]; exact hlt)⟩
          have hdr : po.drop k = p :: po.drop (k + 1) := by
            obtain ⟨h1, h2⟩ := List.getElem?_eq_some_iff.1 hpk
            rw [List.drop_eq_getElem_cons h1, h2]
          rw [hdr, poGo] at hgo
          obtain ⟨b, o, cp, u0, u1, hvv, hbl, p0, p1, c0, c1⟩ := (HV2.out.on hbr).two (k := k) (by rw [HN2.out]; exact hlt)
          have hcell := poCells_at po k p hpk
          rw [hcell.1] at p0
          rw [hcell.2] at p1
          obtain rfl := Option.some.inj p0
          obtain rfl := Option.some.inj p1
          injection hvv with g1 g2 g3
          subst g1
          subst g3
          obtain ⟨pa, pg⟩ := p
          obtain ⟨hs1, hs2, hs3⟩ := HS.out.po _ (List.mem_of_getElem? hpk)
          simp only at c0 c1 hs1 hs2 hs3 hgo
          have htx := fun w => text_any pa w hs1
          obtain ⟨B, hB1⟩ : ∃ B, txtB pa.data.toList = B := ⟨_, rfl⟩
          rw [hB1] at hgo
          rw [hB1] at htx
          have HTX := Lib.hid htx
          have HGO := Lib.hid hgo
          clear hpk hdr hcell g2 hB1 htx hgo
          rcases B with _ | _
          · go_wp2_with fail
            refine (HTX.out _).mono ?_
            rintro e w' ⟨rfl, rfl⟩
            go_wp2_with fail
            go_ret
            have hG := HGO.out
            rw [if_pos trivial] at hG
            have hR := HR.out
            rw [← hG] at hR
            exact ⟨RightE.at1 hR.symm hbr.size, below_two hbr hbr.size _ _⟩
          · by_cases h4 : pg < 0
            · go_wp2_with fail
              refine (HTX.out _).mono ?_
              rintro e w' ⟨rfl, rfl⟩
              go_wp2_with fail
              go_ret
              have hG := HGO.out
              rw [if_neg (by simp), if_pos (Or.inl h4)] at hG
              have hR := HR.out
              rw [← hG] at hR
              exact ⟨RightE.at1 hR.symm hbr.size, below_two hbr hbr.size _ _⟩
            by_cases h5 : pg > 65535
            · go_wp2_with fail
              refine (HTX.out _).mono ?_
              rintro e w' ⟨rfl, rfl⟩
              go_wp2_with fail
              go_ret
              have hG := HGO.out
              rw [if_neg (by simp), if_pos (Or.inr h5)] at hG
              have hR := HR.out
              rw [← hG] at hR
              exact ⟨RightE.at1 hR.symm hbr.size, below_two hbr hbr.size _ _⟩
            have hG := HGO.out
            rw [if_neg (by simp), if_neg (by omega)] at hG
            have HG1 := Lib.hid hG
            clear hG
            go_wp2_with fail
            refine (HTX.out _).mono ?_
            rintro e w' ⟨rfl, rfl⟩
            go_wp2_with fail
            go_roundw
            case rel => exact ⟨k + 1, by omega, by go_num, HG1.out, hB.alloc _, hbr.alloc hbr.size _⟩
            case measure => simp [intOf]; omega
        · obtain rfl : k = n2 := by omega
          have hT : T2 = none := by
            rw [List.drop_of_length_le (by rw [HN2.out]; exact Nat.le_refl _)] at hgo
            exact hgo.symm
          subst hT
          have hR0 := HR.out
          simp only at hR0
          obtain ⟨T3, hT3⟩ : ∃ T, usGo [] uu = T := ⟨_, rfl⟩
          rw [hT3] at hR0
          have HR := Lib.hid hR0
          have HT3 := Lib.hid hT3
          clear hgo hR0 hT3 hk hlt HT2
          have hB2 : Blk (wr.alloc (.map #[] 0)) g 29 BX := hB.alloc _
          have c2 := (hB2.cell 2).trans q2
          have o0 := World.ownsMap_made (H := Unit) wr Tryz.prog 9 (plainElem Tryz.prog 4)
          have hb2 : Below w.heap.size w (wr.alloc (.map #[] 0)) := hbr.alloc hbr.size _
          have hmz := hbr.size
          have hgm := hB.lt
          go_wp2_with fail
          obtain ⟨m, hm⟩ : ∃ m, wr.heap.size = m := ⟨_, rfl⟩
          rw [hm] at o0 hmz hgm ⊢
          obtain ⟨W3, hW3⟩ : ∃ W3 : World, wr.alloc (.map #[] 0) = W3 := ⟨_, rfl⟩
          rw [hW3] at o0 hB2 hb2 ⊢
          clear hW3 hB hbr c2 hm
          go_loopw [89] (fun i wr => ∃ (k : Nat) (D : DataW Unit), k ≤ n3 ∧ i = .int .i64 k ∧ wr.ownsMap Tryz.prog 9 (plainElem Tryz.prog 4) m k D ∧ Seen D ((uu.take k).map fun u => u.1.data.toList) ∧ usGo ((uu.take k).map fun u => u.1.data.toList) (uu.drop k) = T3 ∧ Blk wr g 29 BX ∧ Below w.heap.size w wr) (fun i _ => n3 - (intOf i).toNat)
          case atStart => exact ⟨0, _, Nat.zero_le _, rfl, o0, Seen.nil, HT3.out, hB2, hb2⟩
          case round =>
            clear hB2 hb2 o0
            obtain ⟨k, D, hk, rfl, ho, hsn, hgo, hB, hbr⟩ := hrel
            by_cases hlt : k < n3
            · obtain ⟨p, hpk⟩ : ∃ p, uu[k]? = some p := ⟨_, List.getElem?_eq_getElem (by rw [HN3.out]; exact hlt)⟩
              have hdr : uu.drop k = p :: uu.drop (k + 1) := by
                obtain ⟨h1, h2⟩ := List.getElem?_eq_some_iff.1 hpk
                rw [List.drop_eq_getElem_cons h1, h2]
              have htk : uu.take (k + 1) = uu.take k ++ [p] := by rw [List.take_add_one, hpk]; rfl
              have hlk : ((uu.take k).map fun u => u.1.data.toList).length = k := by rw [List.length_map, List.length_take, HN3.out]; omega
              rw [hdr, usGo, hlk] at hgo
              obtain ⟨b, o, cp, u0, u1, hvv, hbl, p0, p1, c0, c1⟩ := (HV3.out.on hbr).two (k := k) (by rw [HN3.out]; exact hlt)
              have hcell := pairCells_at uu k p hpk
              rw [hcell.1] at p0
              rw [hcell.2] at p1
              obtain rfl := Option.some.inj p0
              obtain rfl := Option.some.inj p1
              injection hvv with g1 g2 g3
              subst g1
              subst g3
              obtain ⟨pa, pg⟩ := p
              obtain ⟨hs1, hs2⟩ := HS.out.us _ (List.mem_of_getElem? hpk)
              simp only at c0 c1 hs1 hs2 hgo
              have htx := fun w => text_any pa w hs1
              have hty := fun w => text_any pg w hs2
              obtain ⟨pl, hpl⟩ : ∃ l, pa.data.toList = l := ⟨_, rfl⟩
              obtain ⟨B, hB1⟩ : ∃ B, txtB pa.data.toList = B := ⟨_, rfl⟩
              obtain ⟨C, hC1⟩ : ∃ B, txtB pg.data.toList = B := ⟨_, rfl⟩
              obtain ⟨pre, hpre⟩ : ∃ l, (uu.take k).map (fun u => u.1.data.toList) = l := ⟨_, rfl⟩
              have htk' : (uu.take (k + 1)).map (fun u => u.1.data.toList) = pre ++ [pl] := by rw [htk, List.map_append, hpre, ← hpl]; rfl
              rw [hB1, hC1, hpl, hpre] at hgo
              rw [hB1] at htx
              rw [hC1] at hty
              rw [hpre] at hsn
              have ho' := ho.alloc (.cells #[.string pa, .string pg] 26)
              have hB' : Blk (wr.alloc (.cells #[.string pa, .string pg] 26)) g 29 BX := hB.alloc _
              have hbr' : Below w.heap.size w (wr.alloc (.cells #[.string pa, .string pg] 26)) := hbr.alloc hbr.size _
              have HTX := Lib.hid htx
              have HTY := Lib.hid hty
              have HGO := Lib.hid hgo
              have HSN := Lib.hid hsn
              have HTK := Lib.hid htk'
              have HPL := Lib.hid hpl
              clear hpk hdr hcell g2 hB1 hC1 htx hty hgo hsn htk htk' hpl hlk hpre ho hB
              rcases B with _ | _
              · go_wp2_with fail
                refine (HTX.out _).mono ?_
                rintro e w' ⟨rfl, rfl⟩
                go_wp2_with fail
                go_ret
                have hG := HGO.out
                rw [if_neg (by simp)] at hG
                have hR := HR.out
                rw [← hG] at hR
                exact ⟨RightE.at1 hR.symm hbr.size, below_two hbr hbr.size _ _⟩
              rcases C with _ | _
              · go_wp2_with fail
                refine (HTX.out _).mono ?_
                rintro e w' ⟨rfl, rfl⟩
                go_wp2_with fail
                refine (HTY.out _).mono ?_
                rintro e w' ⟨rfl, rfl⟩
                go_wp2_with fail
                go_ret
                have hG := HGO.out
                rw [if_neg (by simp)] at hG
                have hR := HR.out
                rw [← hG] at hR
                exact ⟨RightE.at1 hR.symm hbr.size, below_two hbr hbr.size _ _⟩
              have hkey : keyOf Tryz.prog 9 (.string pa) = some (.string pa.data.toList) := WideMaps.keyOf_string_mk us (by unfold maxLen; omega)
              obtain ⟨c, hrun, hat⟩ := lookup_bool ho' (Maps.string_keyed us) um ub (by go_simp) hkey
              rw [HPL.out, HSN.out] at hat
              have hcx : c = decide (pl ∈ pre) := by injection hat with h; injection h with h; exact h.symm
              by_cases hin : pl ∈ pre
              · obtain rfl : c = true := by rw [hcx]; simpa using hin
                clear hat hcx hkey
                go_wp2_with fail
                refine (HTX.out _).mono ?_
                rintro e w' ⟨rfl, rfl⟩
                go_wp2_with fail
                refine (HTY.out _).mono ?_
                rintro e w' ⟨rfl, rfl⟩
                go_wp2_with fail
                go_ret
                have hG := HGO.out
                rw [if_neg (by simp [hin])] at hG
                have hR := HR.out
                rw [← hG] at hR
                exact ⟨RightE.at1 hR.symm hbr.size, below_two hbr hbr.size _ _⟩
              · obtain rfl : c = false := by rw [hcx]; simpa using hin
                obtain ⟨W2, r1, o1, g1⟩ := ho'.update (Maps.string_keyed us) um (by unfold maxLen; omega) hkey (plainElem_bool ub true)
                have hG := HGO.out
                rw [if_pos ⟨⟨rfl, rfl⟩, hin⟩] at hG
                have hsn1 : Seen (D.put (.string pa.data.toList) (.lit (.bool true))) (pre ++ [pl]) := by
                  rw [HPL.out]
                  exact HSN.out.put ho'.isMap pl
                rw [← HTK.out] at hsn1 hG
                have hB1 : Blk W2 g 29 BX := hB'.grown g1 (by intro h; injection h with h; omega)
                have hb1 : Below w.heap.size w W2 := hbr'.grown g1 hbr'.size (by rintro j h; injection h with h; omega)
                have HG1 := Lib.hid hG
                have HSN1 := Lib.hid hsn1
                clear hat hcx hkey hG hsn1
                go_wp2_with fail
                refine (HTX.out _).mono ?_
                rintro e w' ⟨rfl, rfl⟩
                go_wp2_with fail
                refine (HTY.out _).mono ?_
                rintro e w' ⟨rfl, rfl⟩
                go_wp2_with fail
                go_roundw
                case rel => exact ⟨k + 1, _, by omega, by go_num, o1, HSN1.out, HG1.out, hB1, hb1⟩
                case measure => simp [intOf]; omega
            · obtain rfl : k = n3 := by omega
              have hT : T3 = none := by
                rw [List.drop_of_length_le (by rw [HN3.out]; exact Nat.le_refl _)] at hgo
                exact hgo.symm
              subst hT
              have hR0 := HR.out
              simp only at hR0
              have HR := Lib.hid hR0
              clear hgo hR0 hk hlt HT3 ho hsn
              have c3 := (hB.cell 3).trans q3
              have c4 := (hB.cell 4).trans q4
              have c5 := (hB.cell 5).trans q5
              have c6 := (hB.cell 6).trans q6
              have hs1 : sn.size ≤ 140737488351232 := HS.out.sn
              have hs2 : ss.size ≤ 140737488351232 := HS.out.ss
              have htx := fun w => text_any sn w hs1
              have hty := fun w => text_any ss w hs2
              obtain ⟨B, hB1⟩ : ∃ B, txtB sn.data.toList = B := ⟨_, rfl⟩
              obtain ⟨C, hC1⟩ : ∃ B, txtB ss.data.toList = B := ⟨_, rfl⟩
              rw [hB1] at htx
              rw [hC1] at hty
              have HTX := Lib.hid htx
              have HTY := Lib.hid hty
              have HB1 := Lib.hid hB1
              have HC1 := Lib.hid hC1
              clear htx hty hB1 hC1
              have hR := HR.out
              unfold selfR at hR
              simp only at hR
              have ea : sn.toList = sn.data.toList := toList_of sn
              have eb : ss.toList = ss.data.toList := toList_of ss
              rw [HB1.out, HC1.out, ← ea, ← eb] at hR
              have HEA := Lib.hid ea
              clear ea eb
              by_cases h6 : sn.toList = [] ∧ ss.toList = []
              · obtain ⟨h6, h7⟩ := h6
                rw [if_neg (by simp [h6, h7])] at hR
                by_cases l1 : lim < 512
                · rw [if_pos (Or.inl l1)] at hR
                  have END : RightE g R (.returned (.iface 56 (.int .i64 2))) wr ∧ Below g w wr := ⟨⟨_, rfl, by rw [← hR]; rfl⟩, by rw [← hg]; exact hbr⟩
                  clear hR
                  go_wp2_with fail
                  go_ret
                  first | exact END | (rw [hg]; exact END)
                by_cases l2 : lim > 100000
                · rw [if_pos (Or.inr l2)] at hR
                  have END : RightE g R (.returned (.iface 56 (.int .i64 2))) wr ∧ Below g w wr := ⟨⟨_, rfl, by rw [← hR]; rfl⟩, by rw [← hg]; exact hbr⟩
                  clear hR
                  go_wp2_with fail
                  go_ret
                  first | exact END | (rw [hg]; exact END)
                rw [if_neg (by omega)] at hR
                have HR1 := Lib.hid hR
                clear hR HR
                go_wp2_with fail
                refine (nnew_any own _ wr (HV4.out.on hbr) HS.out.own (V.on hbr)).mono ?_
                rintro e w2 ⟨hnew, hb2⟩
                rw [HR1.out] at hnew
                have hb3 := below_step hbr hb2
                have hsz := hbr.size
                rcases R with _ | E
                · obtain ⟨j, _, rfl, _⟩ := hnew
                  have END : RightE g none (.returned .nilIface) w2 ∧ Below g w w2 := ⟨⟨_, rfl, rfl⟩, by rw [← hg]; exact hb3⟩
                  go_wp2_with fail
                  go_ret
                  first | exact END | (rw [hg]; exact END)
                · obtain ⟨er, rfl, he⟩ := hnew
                  have END : RightE g (some E) (.returned er) w2 ∧ Below g w w2 := ⟨⟨_, rfl, he.more (by rw [← hg]; exact hsz)⟩, by rw [← hg]; exact hb3⟩
                  go_wp2_with fail
                  go_ret
                  first | exact END | (rw [hg]; exact END)
              by_cases h8 : B = true ∧ C = true
              · obtain ⟨rfl, rfl⟩ := h8
                rw [if_neg (by simp)] at hR
                have h9 : ¬ sn.toList = [] := by
                  intro h
                  have := HB1.out
                  rw [← HEA.out, h] at this
                  cases this
                clear h6
                by_cases l1 : lim < 512
                · rw [if_pos (Or.inl l1)] at hR
                  have END : RightE g R (.returned (.iface 56 (.int .i64 2))) wr ∧ Below g w wr := ⟨⟨_, rfl, by rw [← hR]; rfl⟩, by rw [← hg]; exact hbr⟩
                  clear hR
                  go_wp2_with fail
                  refine (HTX.out _).mono ?_
                  rintro e w' ⟨rfl, rfl⟩
                  go_wp2_with fail
                  refine (HTY.out _).mono ?_
                  rintro e w' ⟨rfl, rfl⟩
                  go_wp2_with fail
                  go_ret
                  first | exact END | (rw [hg]; exact END)
                by_cases l2 : lim > 100000
                · rw [if_pos (Or.inr l2)] at hR
                  have END : RightE g R (.returned (.iface 56 (.int .i64 2))) wr ∧ Below g w wr := ⟨⟨_, rfl, by rw [← hR]; rfl⟩, by rw [← hg]; exact hbr⟩
                  clear hR
                  go_wp2_with fail
                  refine (HTX.out _).mono ?_
                  rintro e w' ⟨rfl, rfl⟩
                  go_wp2_with fail
                  refine (HTY.out _).mono ?_
                  rintro e w' ⟨rfl, rfl⟩
                  go_wp2_with fail
                  go_ret
                  first | exact END | (rw [hg]; exact END)
                rw [if_neg (by omega)] at hR
                have HR1 := Lib.hid hR
                clear hR HR
                go_wp2_with fail
                refine (HTX.out _).mono ?_
                rintro e w' ⟨rfl, rfl⟩
                go_wp2_with fail
                refine (HTY.out _).mono ?_
                rintro e w' ⟨rfl, rfl⟩
                go_wp2_with fail
                refine (nnew_any own _ wr (HV4.out.on hbr) HS.out.own (V.on hbr)).mono ?_
                rintro e w2 ⟨hnew, hb2⟩
                rw [HR1.out] at hnew
                have hb3 := below_step hbr hb2
                have hsz := hbr.size
                rcases R with _ | E
                · obtain ⟨j, _, rfl, _⟩ := hnew
                  have END : RightE g none (.returned .nilIface) w2 ∧ Below g w w2 := ⟨⟨_, rfl, rfl⟩, by rw [← hg]; exact hb3⟩
                  go_wp2_with fail
                  go_ret
                  first | exact END | (rw [hg]; exact END)
                · obtain ⟨er, rfl, he⟩ := hnew
                  have END : RightE g (some E) (.returned er) w2 ∧ Below g w w2 := ⟨⟨_, rfl, he.more (by rw [← hg]; exact hsz)⟩, by rw [← hg]; exact hb3⟩
                  go_wp2_with fail
                  go_ret
                  first | exact END | (rw [hg]; exact END)
              have hR3 : some (3, none) = R := by
                rw [← hR, if_pos]
                refine ⟨?_, ?_⟩
                · by_cases h : sn.toList = []
                  · exact Or.inr fun h' => h6 ⟨h, h'⟩
                  · exact Or.inl h
                · rcases B with _ | _
                  · exact Or.inl rfl
                  · rcases C with _ | _
                    · exact Or.inr rfl
                    · exact absurd ⟨rfl, rfl⟩ h8
              subst hR3
              have END : RightE g (some (3, none)) (.returned (.iface 56 (.int .i64 3))) wr ∧ Below g w wr := ⟨⟨_, rfl, rfl⟩, by rw [← hg]; exact hbr⟩
              clear hR
              by_cases h9 : sn.toList = []
              · have h10 : ¬ ss.toList = [] := fun h' => h6 ⟨h9, h'⟩
                obtain rfl : B = false := by
                  have := HB1.out
                  rw [← HEA.out, h9] at this
                  exact this.symm
                clear h6 h8
                go_wp2_with fail
                refine (HTX.out _).mono ?_
                rintro e w' ⟨rfl, rfl⟩
                go_wp2_with fail
                go_ret
                first | exact END | (rw [hg]; exact END)
              · clear h6
                rcases B with _ | _
                · clear h8
                  go_wp2_with fail
                  refine (HTX.out _).mono ?_
                  rintro e w' ⟨rfl, rfl⟩
                  go_wp2_with fail
                  go_ret
                  first | exact END | (rw [hg]; exact END)
                · obtain rfl : C = false := by
                    rcases C with _ | _
                    · rfl
                    · exact absurd ⟨rfl, rfl⟩ h8
                  clear h8
                  go_wp2_with fail
                  refine (HTX.out _).mono ?_
                  rintro e w' ⟨rfl, rfl⟩
                  go_wp2_with fail
                  refine (HTY.out _).mono ?_
                  rintro e w' ⟨rfl, rfl⟩
                  go_wp2_with fail
                  go_ret
                  first | exact END | (rw [hg]; exact END)
end Go.Proofs.YtamlepacljjpiaaGreatDoor
