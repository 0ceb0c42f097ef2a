/- The walk of the law HeadBack. -/
import Derived.Test.YtefhgikpghpijaaDoorHeadSame
import Derived.Test.YtefhgikpghpijaaDoorHeadLaid
import Derived.Test.YtefhgikpghpijaaDoorHeadOnlyW
import Derived.Test.YtefhgikpghpijaaDoorHeadBackP
namespace Go.Proofs.YtefhgikpghpijaaDoor
open Go.ChangeShapes Go.WideShapes Go.ChangeAt Go.RowKit
set_option linter.unusedVariables false
theorem right_some (op : Int) (now : Bool) (fl : Int) (vals : List Nat) (v : Value) (E : Nat × Option Nat) (hr : rightR op now fl vals = some E) (w : World) (h0 : -9223372036854775808 ≤ op ∧ op ≤ 9223372036854775807) (hf : -9223372036854775808 ≤ fl ∧ fl ≤ 9223372036854775807) (hv : SRd w v 1 vals.length (vals.map u64V)) (hl : ∀ x ∈ vals, x < 18446744073709551616) (T : Tabs w) (hS : w.ShapedOpen Tryd.prog) :
    Calls Tryd.prog 15 #[.agg #[.int .i64 op, .bool now, .int .i64 fl, v]] w fun e w' => (∃ t x, e = .returned (.iface t x)) ∧ Below w.heap.size w w' := by
  refine (right_any op now fl vals v w h0 hf hv hl T hS).mono ?_
  rintro e w' ⟨er, rfl, her, hb⟩
  rw [hr] at her
  obtain ⟨t, x, rfl⟩ := her.value
  exact ⟨⟨t, x, rfl⟩, hb⟩
theorem read_back (s : ByteArray) (op : Int) (now : Bool) (fl words data : Nat) (vals : List Nat) (r : HeadR) (w : World) (hrow : headRow op = some r) (hs : s = ⟨(layAll (headB r.1 now fl words data) r.2.2.2 vals).toArray⟩)
    (hf : fl < 256) (hw : words < 256) (hd : data < 16777216) (hl : ∀ x ∈ vals, x < 18446744073709551616) (hr : rightR op now fl vals = none) (T : Tabs w) (hS : w.ShapedOpen Tryd.prog) :
    Calls Tryd.prog 16 #[.string s] w fun e w' => ∃ v, e = .returned (.tuple #[.agg #[.int .i64 op, .bool now, .int .i64 fl, v], .int .i64 words, .int .i64 data, .nilIface]) ∧ SRd w' v 1 vals.length (vals.map u64V) ∧ Below w.heap.size w w' := by
  have ho := headRow_op hrow
  subst ho
  obtain ⟨e1, e2, e3, e4, e5, e6, e7⟩ := write_read r now fl words data vals hrow hf hw hd hl hr
  obtain ⟨l, hl2⟩ : ∃ l, layAll (headB r.1 now fl words data) r.2.2.2 vals = l := ⟨_, rfl⟩
  have hlen := layAll_len r.2.2.2 vals (headB r.1 now fl words data) (headT_ok r (headRow_mem hrow)) rfl
  rw [hl2] at e1 e2 e3 e4 e5 e6 e7 hs hlen
  subst hs
  refine (read_any ⟨l.toArray⟩ w (by rw [size_mkl]; omega) T hS).mono ?_
  rintro e w' ⟨⟨hv, wd, dt, er, rfl, her, _, hok⟩, hb⟩
  change HErr _ _ _ (readE l) at her
  change readE l = none → _ at hok
  rw [e1] at her
  obtain rfl : er = .nilIface := her
  obtain ⟨r2, v, hr2, rfl, hv, rfl, rfl⟩ := hok e1
  have hr2 : headRow ((rB l 0 % 64 : Nat) : Int) = some r2 := hr2
  rw [e3] at hr2
  obtain rfl : r = r2 := Option.some.inj (hrow.symm.trans hr2)
  have hv : SRd w' v 1 (readV r.2.2.2 l).length ((readV r.2.2.2 l).map u64V) := hv
  rw [e2] at hv
  refine ⟨v, ?_, hv, hb⟩
  change Ending.returned (.tuple #[.agg #[.int .i64 ((rB l 0 % 64 : Nat) : Int), .bool (decide (64 ≤ rB l 0)), .int .i64 (rB l 1), v], .int .i64 (rB l 4 : Nat), .int .i64 ((rB l 5 * 65536 + rB l 6 * 256 + rB l 7 : Nat) : Int), .nilIface]) = _
  rw [e3, e4, e5, e6, e7]
set_option maxRecDepth 20000 in
set_option maxHeartbeats 2000000 in
theorem backHead (op : Int) (now : Bool) (fl : Int) (l : List Nat) (u : Value) (words data : Int) (w : World) (h0 : -9223372036854775808 ≤ op ∧ op ≤ 9223372036854775807) (hf : -9223372036854775808 ≤ fl ∧ fl ≤ 9223372036854775807)
    (hu : SRd w u 1 l.length (l.map u64V)) (hl : ∀ x ∈ l, x < 18446744073709551616) (hw : -9223372036854775808 ≤ words ∧ words ≤ 9223372036854775807) (hd : -9223372036854775808 ≤ data ∧ data ≤ 9223372036854775807) (T : Tabs w) (hS : w.ShapedOpen Tryd.prog) :
    Calls Tryd.prog 3 #[.agg #[.int .i64 op, .bool now, .int .i64 fl, u], .int .i64 words, .int .i64 data] w fun e w' => e = .returned (.bool true) ∧ Below w.heap.size w w' := by
  obtain ⟨A, cap, rfl⟩ : ∃ A cap, u = .slice A l.length cap := by obtain ⟨_, A, cap, hv, _⟩ := hu; exact ⟨A, cap, hv⟩
  have hb0 : Below w.heap.size w (w.alloc (.cells #[.int .i64 op, .bool now, .int .i64 fl, .slice A l.length cap] 24)) := (Below.refl _ _).alloc (Nat.le_refl _) _
  have hB0 := Blk.new w 24 #[.int .i64 op, .bool now, .int .i64 fl, .slice A l.length cap]
  obtain ⟨g, hg⟩ : ∃ g, w.heap.size = g := ⟨_, rfl⟩
  go_enter Tryd.func3, Tryd.ntmps3
  go_wp2_with fail
  obtain ⟨w0, hw0⟩ : ∃ w0 : World, w.alloc (.cells #[.int .i64 op, .bool now, .int .i64 fl, .slice A l.length cap] 24) = w0 := ⟨_, rfl⟩
  rw [hw0] at hb0 hB0 ⊢
  clear hw0
  rw [hg] at hB0
  try rw [hg]
  refine (headed_fact _ (T.on hb0) (shaped_ons hS hb0)).mono ?_
  rintro e w1 ⟨rfl, hb1⟩
  have hbw1 := below_step hb0 hb1
  have hB1 := hB0.below hb1 hB0.lt
  have c0 := hB1.cell 0
  have c1 := hB1.cell 1
  have c2 := hB1.cell 2
  have c3 := hB1.cell 3
  have hmax : l.length ≤ cap ∧ cap ≤ maxLen := by
    obtain ⟨_, A2, cap2, hv, h1, h2, _⟩ := hu
    injection hv with k1 k2 k3
    subst k3
    exact ⟨h1, h2⟩
  unfold maxLen at hmax
  by_cases h3 : 50 < l.length
  · go_wp2_with fail
    go_ret
    exact ⟨rfl, hbw1⟩
  have hpa := pick_rng words 256 (by omega)
  have hpb := pick_rng data 16777216 (by omega)
  obtain ⟨x, hx⟩ : ∃ x, pickI words 256 = x := ⟨_, rfl⟩
  obtain ⟨y, hy⟩ : ∃ y, pickI data 16777216 = y := ⟨_, rfl⟩
  rw [hx] at hpa
  rw [hy] at hpb
  have HX := Lib.hid hx
  have HY := Lib.hid hy
  clear hx hy
  go_wp2_with fail
  refine (pick_any _ _ _ (by omega) (by omega)).mono ?_
  rintro e w' ⟨rfl, rfl⟩
  rw [HX.out]
  go_wp2_with fail
  refine (pick_any _ _ _ (by omega) (by omega)).mono ?_
  rintro e w' ⟨rfl, rfl⟩
  rw [HY.out]
  have hu1 := hu.on hbw1
  have T1 := T.on hbw1
  have S1 := shaped_ons hS hbw1
  have hBl := hB1.lt
  rcases hr : rightR op now fl l with _ | E
  · obtain ⟨r, hrow⟩ := right_row hr
    obtain ⟨F, rfl, hF⟩ := right_flags hrow hr (by omega)
    obtain ⟨X, rfl⟩ := Int.eq_ofNat_of_zero_le hpa.1
    obtain ⟨Y, rfl⟩ := Int.eq_ofNat_of_zero_le hpb.1
    obtain ⟨S, hSS⟩ : ∃ S : ByteArray, S = ⟨(layAll (headB r.1 now F X Y) r.2.2.2 l).toArray⟩ := ⟨_, rfl⟩
    have HS := Lib.hid hSS
    have HR := Lib.hid hr
    have HROW := Lib.hid hrow
    clear hSS hr hrow
    go_wp2_with fail
    refine (write_ok op now F l _ X Y r _ h0 hF hu1 hl T1 S1 HROW.out HR.out (by omega) (by omega)).mono ?_
    rintro e w2 ⟨rfl, hb2⟩
    rw [← HS.out]
    have hbw2 := below_step hbw1 hb2
    have c02 := (hb2.cell (p := ⟨g, 0, none⟩) hBl).trans c0
    have c12 := (hb2.cell (p := ⟨g, 1, none⟩) hBl).trans c1
    have c22 := (hb2.cell (p := ⟨g, 2, none⟩) hBl).trans c2
    have c32 := (hb2.cell (p := ⟨g, 3, none⟩) hBl).trans c3
    have hB2 := Nat.lt_of_lt_of_le hBl hb2.size
    clear c0 c1 c2 c3
    go_wp2_with fail
    refine (right_nil op now F l _ HR.out _ h0 hf (hu.on hbw2) hl (T.on hbw2) (shaped_ons hS hbw2)).mono ?_
    rintro e w3 ⟨rfl, hb3⟩
    have hbw3 := below_step hbw2 hb3
    have c03 := (hb3.cell (p := ⟨g, 0, none⟩) hB2).trans c02
    have c13 := (hb3.cell (p := ⟨g, 1, none⟩) hB2).trans c12
    have c23 := (hb3.cell (p := ⟨g, 2, none⟩) hB2).trans c22
    have c33 := (hb3.cell (p := ⟨g, 3, none⟩) hB2).trans c32
    have hB3 := Nat.lt_of_lt_of_le hB2 hb3.size
    clear c02 c12 c22 c32
    go_wp2_with fail
    refine (read_back S op now F X Y l r _ HROW.out HS.out hF (by omega) (by omega) hl HR.out (T.on hbw3) (shaped_ons hS hbw3)).mono ?_
    rintro e w4 ⟨v, rfl, hv, hb4⟩
    obtain ⟨A2, cap2, rfl⟩ : ∃ A cap, v = .slice A l.length cap := by obtain ⟨_, A, cap, hv, _⟩ := hv; exact ⟨A, cap, hv⟩
    have hbw4 := below_step hbw3 hb4
    have c04 := (hb4.cell (p := ⟨g, 0, none⟩) hB3).trans c03
    have c14 := (hb4.cell (p := ⟨g, 1, none⟩) hB3).trans c13
    have c24 := (hb4.cell (p := ⟨g, 2, none⟩) hB3).trans c23
    have c34 := (hb4.cell (p := ⟨g, 3, none⟩) hB3).trans c33
    have hB4 := Nat.lt_of_lt_of_le hB3 hb4.size
    clear c03 c13 c23 c33
    go_wp2_with fail
    have hb45 : Below w4.heap.size w4 (w4.alloc (.cells #[.int .i64 op, .bool now, .int .i64 F, .slice A2 l.length cap2] 24)) := (Below.refl _ _).alloc (Nat.le_refl _) _
    refine (same_yes op now F l _ _ _ ((hu.on hbw4).on hb45) (hv.on hb45)).mono ?_
    rintro e w5 ⟨rfl, hb5⟩
    go_wp2_with fail
    go_ret
    exact ⟨by simp, below_step (below_step hbw4 hb45) hb5⟩
  · have HR := Lib.hid hr
    clear hr
    go_wp2_with fail
    refine (write_wrong op now fl l _ _ _ E _ h0 hf hu1 hl T1 S1 HR.out).mono ?_
    rintro e w2 ⟨er, rfl, her, hb2⟩
    obtain ⟨et, ex, rfl⟩ := her.value
    have hbw2 := below_step hbw1 hb2
    have c02 := (hb2.cell (p := ⟨g, 0, none⟩) hBl).trans c0
    have c12 := (hb2.cell (p := ⟨g, 1, none⟩) hBl).trans c1
    have c22 := (hb2.cell (p := ⟨g, 2, none⟩) hBl).trans c2
    have c32 := (hb2.cell (p := ⟨g, 3, none⟩) hBl).trans c3
    clear c0 c1 c2 c3 her
    go_wp2_with fail
    refine (right_some op now fl l _ E HR.out _ h0 hf (hu.on hbw2) hl (T.on hbw2) (shaped_ons hS hbw2)).mono ?_
    rintro e w3 ⟨⟨t, x, rfl⟩, hb3⟩
    go_wp2_with fail
    go_ret
    exact ⟨rfl, below_step hbw2 hb3⟩
end Go.Proofs.YtefhgikpghpijaaDoor
