/- The contract of head.Right: what is wrong with a head. -/
import Derived.Test.YtfdbbfladgepgaaDoorHeadGet
namespace Go.Proofs.YtfdbbfladgepgaaDoor
open Go.ChangeShapes Go.WideShapes Go.ChangeAt Go.RowKit Go.Shelf
set_option linter.unusedVariables false
theorem below_dN {B : Nat} {a w : World} (h : Below B a w) (k : Nat) : Below B a (w.drewN k) := h.trans ⟨rfl, rfl, rfl, Nat.le_refl _, fun _ _ => rfl⟩
def u64V (n : Nat) : Value := .int .u64 n
def headV (op : Int) (now : Bool) (fl : Int) (v : Value) : Value := .agg #[.int .i64 op, .bool now, .int .i64 fl, v]
def offM (fl : Int) (m : Nat) : Bool := bits .andNot .i64 fl (m : Int) != 0
def badR (r : HeadR) (op : Int) (now : Bool) (fl : Int) : Bool := (now && decide (32 ≤ op)) || decide (fl < 0) || offM fl r.2.2.1
def rangeGo : FieldL → List Nat → Nat → Option (Nat × Option Nat)
  | f :: fs, v :: vs, i => if f.2.2 < 8 ∧ v / 2 ^ (8 * f.2.2) ≠ 0 then some (2, some i) else rangeGo fs vs (i + 1)
  | _, _, _ => none
def rightR (op : Int) (now : Bool) (fl : Int) (vals : List Nat) : Option (Nat × Option Nat) :=
  match headRow op with
  | none => some (1, none)
  | some r => if badR r op now fl = true then some (3, none) else if r.2.2.2.length ≠ vals.length then some (7, none) else rangeGo r.2.2.2 vals 0
def HErr (w : World) (base : Nat) (v : Value) : Option (Nat × Option Nat) → Prop
  | none => v = .nilIface
  | some (c, none) => v = .iface 45 (.int .i64 c)
  | some (c, some p) => ∃ g, base ≤ g ∧ v = .iface 65 (.pointer (some ⟨g, 0, none⟩)) ∧ Blk w g 67 #[.int .i64 c, .int .i64 p]
set_option maxRecDepth 20000 in
set_option maxHeartbeats 2000000 in
theorem right_any (op : Int) (now : Bool) (fl : Int) (vals : List Nat) (v : Value) (w : World) (h0 : -9223372036854775808 ≤ op ∧ op ≤ 9223372036854775807) (hf : -9223372036854775808 ≤ fl ∧ fl ≤ 9223372036854775807) (hv : SRd w v 1 vals.length (vals.map u64V)) (hl : ∀ x ∈ vals, x < 18446744073709551616) (T : Tabs w) (hS : w.ShapedOpen Tryd.prog) :
    Calls Tryd.prog 14 #[.agg #[.int .i64 op, .bool now, .int .i64 fl, v]] w fun e w' => ∃ er, e = .returned er ∧ HErr w' w.heap.size er (rightR op now fl vals) ∧ Below w.heap.size w w' := by
  obtain ⟨A, cap, rfl⟩ : ∃ A cap, v = .slice A vals.length cap := by obtain ⟨_, A, cap, hv, _⟩ := hv; exact ⟨A, cap, hv⟩
  have hb0 : Below w.heap.size w (w.alloc (.cells #[.int .i64 op, .bool now, .int .i64 fl, .slice A vals.length cap] 38)) := (Below.refl _ _).alloc (Nat.le_refl _) _
  have hB0 := Blk.new w 38 #[.int .i64 op, .bool now, .int .i64 fl, .slice A vals.length cap]
  obtain ⟨W, hW⟩ : ∃ W : Option (Nat × Option Nat), rightR op now fl vals = W := ⟨_, rfl⟩
  rw [hW]
  have HW := Lib.hid hW
  clear hW
  obtain ⟨g, hg⟩ : ∃ g, w.heap.size = g := ⟨_, rfl⟩
  rw [hg] at hB0 hb0 ⊢
  go_enter Tryd.func14, Tryd.ntmps14
  go_wp2_with fail
  obtain ⟨w0, hw0⟩ : ∃ w0 : World, w.alloc (.cells #[.int .i64 op, .bool now, .int .i64 fl, .slice A vals.length cap] 38) = w0 := ⟨_, rfl⟩
  rw [hw0] at hb0 hB0 ⊢
  clear hw0
  try rw [hg]
  have hgw : g ≤ w0.heap.size := Nat.le_of_lt hB0.lt
  have hb0' : Below w.heap.size w w0 := by rw [hg]; exact hb0
  refine (fields_any op _ h0 (T.on hb0') (shaped_ons hS hb0')).mono ?_
  rintro e w1 ⟨hfi, hb1⟩
  have hbw1 : Below g w w1 := hb0.trans (hb1.mono hgw)
  have hbw1' : Below w.heap.size w w1 := by rw [hg]; exact hbw1
  have hB1 := hB0.below hb1 hB0.lt
  rcases hr : headRow op with _ | r
  · rw [hr] at hfi
    obtain rfl : e = _ := hfi
    rw [show errv 1 = .iface 45 (.int .i64 1) from rfl]
    have hz : W = some (1, none) := by rw [← HW.out, rightR, hr]
    subst hz
    clear hr HW
    go_wp2_with fail
    go_ret
    exact ⟨_, rfl, rfl, hbw1⟩
  · have hrm := headRow_mem hr
    rw [hr] at hfi
    obtain ⟨lv, rfl, hrow⟩ := hfi
    have hz : W = if badR r op now fl = true then some (3, none) else if r.2.2.2.length ≠ vals.length then some (7, none) else rangeGo r.2.2.2 vals 0 := by rw [← HW.out, rightR, hr]
    have hfl : flagsV (headRow op) = .tuple #[.int .i64 r.2.2.1, .nilIface] := by rw [hr]; rfl
    have HZ := Lib.hid hz
    have HFL := Lib.hid hfl
    clear hr HW hz hfl
    have d0 := hB1.cell 0
    go_wp2_with fail
    refine (flags_any op _ h0 (T.on hbw1')).mono ?_
    rintro e w2 ⟨rfl, hb2⟩
    rw [HFL.out]
    have hbw2 : Below g w w2 := hbw1.trans (hb2.mono (Nat.le_trans hgw hb1.size))
    have hB2 := hB1.below hb2 hB1.lt
    have hrow2 : FRow w2 g lv r.2.2.2 := (hrow.more hgw).below hb2 (Nat.le_refl _)
    have hv2 := hv.on (show Below w.heap.size w w2 by rw [hg]; exact hbw2)
    clear d0 hrow hB1 hB0 hbw1 hb0 hb0' hbw1' hb1 hb2 hv
    have d0 := hB2.cell 0
    have d1 := hB2.cell 1
    have d2 := hB2.cell 2
    have d3 := hB2.cell 3
    by_cases h1 : now = true ∧ 32 ≤ op
    · have hz : W = some (3, none) := by rw [HZ.out, if_pos (by simp [badR, h1])]
      subst hz
      obtain ⟨rfl, h1⟩ := h1
      clear HZ
      go_wp2_with fail
      go_ret
      exact ⟨_, rfl, rfl, hbw2⟩
    have hn1 : (now && decide (32 ≤ op)) = false := by
      rcases now with _ | _
      · rfl
      · simpa using h1
    by_cases h2 : fl < 0
    · have hz : W = some (3, none) := by rw [HZ.out, if_pos (by simp [badR, h2])]
      subst hz
      clear HZ
      rcases now with _ | _
      · go_wp2_with fail
        go_ret
        exact ⟨_, rfl, rfl, hbw2⟩
      · have h1' : op < 32 := by simpa using hn1
        clear hn1 h1
        go_wp2_with fail
        go_ret
        exact ⟨_, rfl, rfl, hbw2⟩
    have h1' : now = true → op < 32 := fun h => by subst h; simpa using hn1
    have hn2 : ¬ fl < 0 := h2
    have hpos := headT_pos r hrm
    obtain ⟨hlz, LA, lcap, rfl, hlc, hlm, hlA⟩ := SRd.of_m hrow2
    obtain ⟨lb, lo, rfl, hlb, hlcc⟩ := hlA hpos.1
    unfold maxLen at hlm
    rcases h3 : offM fl r.2.2.1 with _ | _
    · have hbad : badR r op now fl = false := by simp [badR, hn1, h2, h3]
      have hz : W = if r.2.2.2.length ≠ vals.length then some (7, none) else rangeGo r.2.2.2 vals 0 := by rw [HZ.out, if_neg (by rw [hbad]; decide)]
      have HZ2 := Lib.hid hz
      have f3 : (bits .andNot .i64 fl (r.2.2.1 : Int) != 0) = false := h3
      clear hz hbad HZ h3
      have HLC := Lib.hid hlcc
      obtain ⟨N, hN⟩ : ∃ N, r.2.2.2.length = N := ⟨_, rfl⟩
      obtain ⟨M, hM⟩ : ∃ M, vals.length = M := ⟨_, rfl⟩
      rw [hN] at hpos hlc ⊢
      rw [hM] at d0 d1 d2 d3 hB2 ⊢
      clear hlA hrow2 hlcc hlz
      by_cases hNM : N = M
      · have hz : W = rangeGo r.2.2.2 vals 0 := by rw [HZ2.out, if_neg (by rw [hN, hM, hNM]; simp)]
        have HZ3 := Lib.hid hz
        obtain ⟨hvz, VA, vcap, hVV, hvc, hvm, hvA⟩ := hv2
        injection hVV with hV1 hV2 hV3
        subst hV1 hV3
        obtain ⟨vb, vo, rfl, hvb, hvcc⟩ := hvA (by omega)
        have HVC := Lib.hid hvcc
        have HOK := Lib.hid (okAll_mem _ (headT_ok r hrm))
        have hN' := hN
        have hM' := hM
        subst hNM
        clear hz HZ2 hvA hvcc hvz hV2
        rcases now with _ | _
        all_goals
          first
            | have h32 : op < 32 := h1' rfl
            | skip
          clear h1 hn1 h1'
          go_wp2_with fail
          go_loopw [55] (fun i wr => ∃ k : Nat, k ≤ N ∧ i = .int .i64 k ∧ W = rangeGo (r.2.2.2.drop k) (vals.drop k) k ∧ Below w2.heap.size w2 wr) (fun i _ => N - (intOf i).toNat)
          case atStart => exact ⟨0, Nat.zero_le _, rfl, by rw [HZ3.out]; rfl, Below.refl _ _⟩
          case round =>
            obtain ⟨k, hk, rfl, hgo, hbr⟩ := hrel
            have HG := Lib.hid hgo
            have hs0 := hbr.size
            clear hgo d0 d1 d2 d3
            by_cases hlt : k < N
            · obtain ⟨f, hf⟩ : ∃ f, r.2.2.2[k]? = some f := ⟨_, List.getElem?_eq_getElem (by omega)⟩
              obtain ⟨x, hx⟩ : ∃ x, vals[k]? = some x := ⟨_, List.getElem?_eq_getElem (by omega)⟩
              have hok := HOK.out f (List.mem_of_getElem? hf)
              simp only [okF, Bool.and_eq_true, decide_eq_true_eq] at hok
              have hc := fCells_at _ _ _ hf
              have e0 := (hbr.cell (p := ⟨lb, lo + 3 * k, none⟩) hlb).trans (HLC.out _ _ hc.1)
              have e1 := (hbr.cell (p := ⟨lb, lo + (3 * k + 1), none⟩) hlb).trans (HLC.out _ _ hc.2.1)
              have e2 := (hbr.cell (p := ⟨lb, lo + (3 * k + 2), none⟩) hlb).trans (HLC.out _ _ hc.2.2)
              rw [Nat.mul_comm] at e0 e1 e2
              rw [← Nat.add_assoc] at e1 e2
              have ev := (hbr.cell (p := ⟨vb, vo + k, none⟩) hvb).trans (HVC.out k (u64V x) (by rw [List.getElem?_map, hx]; rfl))
              unfold u64V at ev
              have d3 := (hbr.cell (p := ⟨g, 3, none⟩) hB2.lt).trans (hB2.cell 3)
              have hxl := hl x (List.mem_of_getElem? hx)
              have hd1 : r.2.2.2.drop k = f :: r.2.2.2.drop (k + 1) := by
                rw [List.drop_eq_getElem_cons (by omega)]
                rw [List.getElem?_eq_getElem (by omega)] at hf
                rw [Option.some.inj hf]
              have hd2 : vals.drop k = x :: vals.drop (k + 1) := by
                rw [List.drop_eq_getElem_cons (by omega)]
                rw [List.getElem?_eq_getElem (by omega)] at hx
                rw [Option.some.inj hx]
              have hz : W = if f.2.2 < 8 ∧ x / 2 ^ (8 * f.2.2) ≠ 0 then some (2, some k) else rangeGo (r.2.2.2.drop (k + 1)) (vals.drop (k + 1)) (k + 1) := by rw [HG.out, hd1, hd2, rangeGo]
              have HZ4 := Lib.hid hz
              clear hz hd1 hd2 hc hf hx HG
              go_wp2_with fail
              have hb3 : Below wr.heap.size wr (wr.alloc (.cells #[.string ⟨f.1.toArray⟩, .int .i64 f.2.1, .int .i64 f.2.2] 33)) := (Below.refl _ _).alloc (Nat.le_refl _) _
              have hBf := Blk.new wr 33 #[.string ⟨f.1.toArray⟩, .int .i64 f.2.1, .int .i64 f.2.2]
              obtain ⟨w3, hw3⟩ : ∃ w3 : World, wr.alloc (.cells #[.string ⟨f.1.toArray⟩, .int .i64 f.2.1, .int .i64 f.2.2] 33) = w3 := ⟨_, rfl⟩
              obtain ⟨G, hG⟩ : ∃ G, wr.heap.size = G := ⟨_, rfl⟩
              rw [hw3] at hb3 hBf ⊢
              rw [hG] at hBf ⊢
              have q2 := hBf.cell 2
              have q3 := (hb3.cell (p := ⟨g, 3, none⟩) (Nat.lt_of_lt_of_le hB2.lt hs0)).trans d3
              have qv := (hb3.cell (p := ⟨vb, vo + k, none⟩) (Nat.lt_of_lt_of_le hvb hs0)).trans ev
              have hbr3 : Below w2.heap.size w2 w3 := hbr.trans (hb3.mono hs0)
              have hok8 : f.2.2 ≤ 8 := hok.2
              clear e0 e1 e2 ev d3 hw3 hok hb3 hbr
              by_cases h8 : f.2.2 < 8
              · have h8i : (f.2.2 : Int) < 8 := by omega
                have h8b : decide ((f.2.2 : Int) < 8) = true := by simpa using h8i
                by_cases hb : x / 2 ^ (8 * f.2.2) = 0
                · have fx : ((x : Int) / 2 ^ (8 * f.2.2) != 0) = false := by
                    rw [bne_eq_false_iff_eq]
                    exact_mod_cast hb
                  have hz : W = rangeGo (r.2.2.2.drop (k + 1)) (vals.drop (k + 1)) (k + 1) := by rw [HZ4.out, if_neg (fun h => h.2 hb)]
                  have HZ5 := Lib.hid hz
                  clear hz HZ4 hb
                  go_quiet (fail)
                  go_wp2_with fail
                  go_roundw
                  case rel => exact ⟨k + 1, by omega, by go_num, HZ5.out, below_dN hbr3 _⟩
                  case measure => simp [intOf]; omega
                · have fx : ((x : Int) / 2 ^ (8 * f.2.2) != 0) = true := by
                    rw [bne_iff_ne]
                    exact_mod_cast hb
                  have hz : W = some (2, some k) := by rw [HZ4.out, if_pos ⟨h8, hb⟩]
                  subst hz
                  clear HZ4 hb HZ3
                  have hfin : Below g w w3 := hbw2.trans (hbr3.mono (Nat.le_of_lt hB2.lt))
                  go_quiet (fail)
                  go_wp2_with fail
                  go_ret
                  have hd := below_dN hfin nq
                  have hgl : g ≤ (w3.drewN nq).heap.size := Nat.le_trans (by omega) hd.size
                  exact ⟨_, rfl, ⟨_, hgl, rfl, Blk.new _ _ _⟩, hd.alloc hgl _⟩
              · have h8i : ¬ (f.2.2 : Int) < 8 := by omega
                have h8b : decide ((f.2.2 : Int) < 8) = false := by simpa using h8i
                have hz : W = rangeGo (r.2.2.2.drop (k + 1)) (vals.drop (k + 1)) (k + 1) := by rw [HZ4.out, if_neg (fun h => h8 h.1)]
                have HZ5 := Lib.hid hz
                clear hz HZ4
                go_quiet (fail)
                go_wp2_with fail
                go_roundw
                case rel => exact ⟨k + 1, by omega, by go_num, HZ5.out, below_dN hbr3 _⟩
                case measure => simp [intOf]; omega
            · have hz : W = none := by
                rw [HG.out, List.drop_eq_nil_of_le (by omega)]
                rfl
              subst hz
              clear HG HZ3
              go_wp2_with fail
              go_ret
              exact ⟨_, rfl, rfl, hbw2.trans (hbr.mono (Nat.le_of_lt hB2.lt))⟩
      · have hz : W = some (7, none) := by rw [HZ2.out, if_pos (by rw [hN, hM]; exact hNM)]
        have fNM : ((N : Int) != M) = true := by simp; omega
        subst hz
        clear HZ2
        rcases now with _ | _
        all_goals
          first
            | have h32 : op < 32 := h1' rfl
            | skip
          clear h1 hn1 h1'
          go_wp2_with fail
          go_ret
          exact ⟨_, rfl, rfl, hbw2⟩
    · have hbad : badR r op now fl = true := by simp [badR, h3]
      have hz : W = some (3, none) := by rw [HZ.out, if_pos hbad]
      have f3 : (bits .andNot .i64 fl (r.2.2.1 : Int) != 0) = true := h3
      subst hz
      clear HZ h3 hbad
      rcases now with _ | _
      all_goals
        first
          | have h32 : op < 32 := h1' rfl
          | skip
        clear h1 hn1 h1'
        go_wp2_with fail
        go_ret
        exact ⟨_, rfl, rfl, hbw2⟩
end Go.Proofs.YtfdbbfladgepgaaDoor
