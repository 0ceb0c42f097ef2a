/- The contracts of pdu.Right and pdu.Size. -/
import Derived.Test.YtamlepacljjpiaaGreatDoorGheadb
import Derived.Test.YtamlepacljjpiaaGreatDoorAhs
import Derived.Test.YtamlepacljjpiaaGreatDoorGbase
import Derived.LoopN
namespace Go.Proofs.YtamlepacljjpiaaGreatDoor
open Go.ChangeShapes Go.WideShapes Go.ChangeAt Go.RowKit Go.Shelf
set_option linter.unusedVariables false
theorem tell_herr (E : Nat × Option Nat) (base : Nat) (er : Value) (w : World) (hg : LaidE w) (h : HErr w base er (some E)) : Calls Tryz.prog 22 #[er] w fun e w' => e = .returned (.int .i64 E.1) ∧ Below w.heap.size w w' := by
  obtain ⟨c, o⟩ := E
  rcases o with _ | p
  · obtain rfl : er = _ := h
    exact tell_errno c w hg
  · obtain ⟨g, _, rfl, hB⟩ := h
    exact tell_at g c p w hg hB
theorem tell_aerr (E : Nat × Nat) (base : Nat) (er : Value) (w : World) (hg : LaidE w) (h : ErrAt w base er (some E)) : Calls Tryz.prog 22 #[er] w fun e w' => e = .returned (.int .i64 E.1) ∧ Below w.heap.size w w' := by
  obtain ⟨g, _, rfl, hB⟩ := h
  exact tell_at g E.1 E.2 w hg hB
theorem ErrAt.iface {w : World} {base : Nat} {v : Value} {E : Nat × Nat} (h : ErrAt w base v (some E)) : ∃ t x, v = .iface t x := by
  obtain ⟨g, _, rfl, _⟩ := h
  exact ⟨_, _, rfl⟩
theorem ErrAt.on {w w' : World} {base : Nat} {v : Value} {E : Option (Nat × Nat)} (h : ErrAt w base v E) (hb : Below w.heap.size w w') : ErrAt w' base v E := by
  rcases E with _ | E
  · exact h
  · obtain ⟨g, h1, h2, hB⟩ := h
    exact ⟨g, h1, h2, hB.below hb hB.lt⟩
theorem HErr.on {w w' : World} {base : Nat} {v : Value} {E : Option (Nat × Option Nat)} (h : HErr w base v E) (hb : Below w.heap.size w w') : HErr w' base v E := by
  rcases E with _ | ⟨c, o⟩
  · exact h
  · rcases o with _ | p
    · exact h
    · obtain ⟨g, h1, h2, hB⟩ := h
      exact ⟨g, h1, h2, hB.below hb hB.lt⟩
def codeV : Option Nat → Value
  | none => .nilIface
  | some c => .iface 56 (.int .i64 c)
def pduR (op : Int) (now : Bool) (fl : Int) (vals : List Nat) (l : AhsL) (n : Nat) : Option Nat :=
  match rightR op now fl vals with
  | some E => some E.1
  | none => match rightGo l 0 0 with
    | some E => some E.1
    | none => if 100000 < n then some 4 else none
theorem right_err (op : Int) (now : Bool) (fl : Int) (vals : List Nat) (v : Value) (E : Nat × Option Nat) (hr : rightR op now fl vals = some E) (w : World) (h0 : -9223372036854775808 ≤ op ∧ op ≤ 9223372036854775807) (hf : -9223372036854775808 ≤ fl ∧ fl ≤ 9223372036854775807) (hv : SRd w v 1 vals.length (vals.map u64V)) (hl : ∀ x ∈ vals, x < 18446744073709551616) (T : Tabs w) (hS : w.ShapedOpen Tryz.prog) :
    Calls Tryz.prog 56 #[.agg #[.int .i64 op, .bool now, .int .i64 fl, v]] w fun e w' => ∃ t x, e = .returned (.iface t x) ∧ HErr w' w.heap.size (.iface t x) (some E) ∧ Below w.heap.size w w' := by
  refine (right_any op now fl vals v w h0 hf hv hl T hS).mono ?_
  rintro e w' ⟨er, rfl, her, hb⟩
  rw [hr] at her
  obtain ⟨t, x, rfl⟩ := her.value
  exact ⟨t, x, rfl, her, hb⟩
theorem ahs_nil (l : AhsL) (v : Value) (hr : rightGo l 0 0 = none) (w : World) (hv : SRd w v 2 l.length (ahsCells l)) (hd : ∀ p ∈ l, p.2.size ≤ 140737488351232) : Calls Tryz.prog 57 #[v] w fun e w' => e = .returned .nilIface ∧ Below w.heap.size w w' := by
  refine (ahsRight_any l v w hv hd).mono ?_
  rintro e w' ⟨er, rfl, her, hb⟩
  rw [hr] at her
  obtain rfl : er = .nilIface := her
  exact ⟨rfl, hb⟩
theorem ahs_err (l : AhsL) (v : Value) (E : Nat × Nat) (hr : rightGo l 0 0 = some E) (w : World) (hv : SRd w v 2 l.length (ahsCells l)) (hd : ∀ p ∈ l, p.2.size ≤ 140737488351232) : Calls Tryz.prog 57 #[v] w fun e w' => ∃ t x, e = .returned (.iface t x) ∧ ErrAt w' w.heap.size (.iface t x) (some E) ∧ Below w.heap.size w w' := by
  refine (ahsRight_any l v w hv hd).mono ?_
  rintro e w' ⟨er, rfl, her, hb⟩
  rw [hr] at her
  obtain ⟨t, x, rfl⟩ := her.iface
  exact ⟨t, x, rfl, her, hb⟩
theorem ixe0 (a b : Value) (w : World) : (Instr.index 107 (.agg #[a, b]) (.int .i64 0)).run Tryz.prog w = .ok a w := by kernel_rfl
theorem ixe1 (a b : Value) (w : World) : (Instr.index 107 (.agg #[a, b]) (.int .i64 1)).run Tryz.prog w = .ok b w := by kernel_rfl
set_option maxRecDepth 20000 in
set_option maxHeartbeats 2000000 in
theorem pduRight_any (op : Int) (now : Bool) (fl : Int) (vals : List Nat) (v : Value) (l : AhsL) (av : Value) (s : ByteArray) (w : World) (h0 : -9223372036854775808 ≤ op ∧ op ≤ 9223372036854775807) (hf : -9223372036854775808 ≤ fl ∧ fl ≤ 9223372036854775807) (hv : SRd w v 1 vals.length (vals.map u64V)) (hl : ∀ x ∈ vals, x < 18446744073709551616)
    (ha : SRd w av 2 l.length (ahsCells l)) (hd : ∀ p ∈ l, p.2.size ≤ 140737488351232) (hs : s.size ≤ 140737488351232) (hL : LaidE w) (T : Tabs w) (hS : w.ShapedOpen Tryz.prog) :
    Calls Tryz.prog 18 #[.agg #[.int .i64 op, .bool now, .int .i64 fl, v, av, .string s]] w fun e w' => e = .returned (codeV (pduR op now fl vals l s.size)) ∧ Below w.heap.size w w' := by
  obtain ⟨A, cap, rfl⟩ : ∃ A cap, v = .slice A vals.length cap := by obtain ⟨_, A, cap, hv, _⟩ := hv; exact ⟨A, cap, hv⟩
  obtain ⟨B, bcap, rfl⟩ : ∃ A cap, av = .slice A l.length cap := by obtain ⟨_, A, cap, hv, _⟩ := ha; exact ⟨A, cap, hv⟩
  go_enter Tryz.func18, Tryz.ntmps18
  obtain ⟨g, hg⟩ : ∃ g, w.heap.size = g := ⟨_, rfl⟩
  have hB0 := Blk.new w 41 #[.int .i64 op, .bool now, .int .i64 fl, .slice A vals.length cap, .slice B l.length bcap, .string s]
  have hb0 : Below w.heap.size w (w.alloc (.cells #[.int .i64 op, .bool now, .int .i64 fl, .slice A vals.length cap, .slice B l.length bcap, .string s] 41)) := (Below.refl _ _).alloc (Nat.le_refl _) _
  obtain ⟨W, hW⟩ : ∃ W, pduR op now fl vals l s.size = W := ⟨_, rfl⟩
  rw [hW]
  have HW := Lib.hid hW
  clear hW
  go_wp2_with fail
  obtain ⟨w0, hw0⟩ : ∃ w0 : World, w.alloc (.cells #[.int .i64 op, .bool now, .int .i64 fl, .slice A vals.length cap, .slice B l.length bcap, .string s] 41) = w0 := ⟨_, rfl⟩
  rw [hw0] at hb0 hB0 ⊢
  clear hw0
  rw [hg] at hB0
  try rw [hg]
  have c0 := hB0.cell 0
  have c1 := hB0.cell 1
  have c2 := hB0.cell 2
  have c3 := hB0.cell 3
  have c4 := hB0.cell 4
  have c5 := hB0.cell 5
  have hgl := hB0.lt
  have hv0 := hv.on hb0
  have ha0 := ha.on hb0
  have T0 := T.on hb0
  have S0 := shaped_ons hS hb0
  have hr0 : Below w0.heap.size w0 w0.drew := (Below.refl _ w0).drew
  rcases h1 : rightR op now fl vals with _ | E1
  all_goals have H1 := Lib.hid h1
  all_goals clear h1
  all_goals rcases h2 : rightGo l 0 0 with _ | E2
  all_goals have H2 := Lib.hid h2
  all_goals clear h2
  · go_region_held3 (fun w' => w'.cell? ⟨g, 0, none⟩ = some (.int .i64 op) ∧ w'.cell? ⟨g, 1, none⟩ = some (.bool now) ∧ w'.cell? ⟨g, 2, none⟩ = some (.int .i64 fl) ∧ w'.cell? ⟨g, 3, none⟩ = some (.slice A vals.length cap) ∧ w'.cell? ⟨g, 4, none⟩ = some (.slice B l.length bcap)) (first | go_keep | exact ⟨k0, k1, k2, k3, k4⟩)
      (first | (go_at_call 56; refine (right_nil op now fl vals _ H1.out _ h0 hf (hv0.on hr0) hl (T0.on hr0) (shaped_ons S0 hr0)).mono ?_; rintro e w1 ⟨rfl, hb1⟩; have hb01 := hr0.trans hb1; have k0 := (hb01.cell (p := ⟨g, 0, none⟩) hgl).trans c0; have k1 := (hb01.cell (p := ⟨g, 1, none⟩) hgl).trans c1; have k2 := (hb01.cell (p := ⟨g, 2, none⟩) hgl).trans c2; have k3 := (hb01.cell (p := ⟨g, 3, none⟩) hgl).trans c3; have k4 := (hb01.cell (p := ⟨g, 4, none⟩) hgl).trans c4) | (go_at_call 57; refine (ahs_nil l _ H2.out _ (ha0.on hb01) hd).mono ?_; rintro e w2 ⟨rfl, hb2⟩; have hb02 := hb01.trans (hb2.mono hb01.size); have k0 := (hb02.cell (p := ⟨g, 0, none⟩) hgl).trans c0; have k1 := (hb02.cell (p := ⟨g, 1, none⟩) hgl).trans c1; have k2 := (hb02.cell (p := ⟨g, 2, none⟩) hgl).trans c2; have k3 := (hb02.cell (p := ⟨g, 3, none⟩) hgl).trans c3; have k4 := (hb02.cell (p := ⟨g, 4, none⟩) hgl).trans c4))
    all_goals
      have hbw2 : Below w.heap.size w w2 := below_step hb0 hb02
      have k5 := (hb02.cell (p := ⟨g, 5, none⟩) hgl).trans c5
      have L2 := hL.on hbw2
      have i0 := ixe0
      have i1 := ixe1
      by_cases hdl : 100000 < s.size
      · have hW : W = some 4 := by rw [← HW.out, pduR, H1.out]; simp only; rw [H2.out]; simp only; rw [if_pos hdl]
        subst hW
        clear HW
        go_wp2_with fail
        refine wp_loop_rounds 3 ?_
        rw [rounds_succ]
        go_wp2_with fail
        rw [rounds_succ]
        go_wp2_with fail
        rw [rounds_succ]
        go_wp2_with fail
        go_ret
        exact ⟨rfl, hbw2⟩
      · have hW : W = none := by rw [← HW.out, pduR, H1.out]; simp only; rw [H2.out]; simp only; rw [if_neg hdl]
        subst hW
        clear HW
        go_wp2_with fail
        refine wp_loop_rounds 3 ?_
        rw [rounds_succ]
        go_wp2_with fail
        rw [rounds_succ]
        go_wp2_with fail
        rw [rounds_succ]
        go_wp2_with fail
        go_ret
        exact ⟨rfl, hbw2⟩
  · go_region_held3 (fun w' => w'.cell? ⟨g, 0, none⟩ = some (.int .i64 op) ∧ w'.cell? ⟨g, 1, none⟩ = some (.bool now) ∧ w'.cell? ⟨g, 2, none⟩ = some (.int .i64 fl) ∧ w'.cell? ⟨g, 3, none⟩ = some (.slice A vals.length cap) ∧ w'.cell? ⟨g, 4, none⟩ = some (.slice B l.length bcap)) (first | go_keep | exact ⟨k0, k1, k2, k3, k4⟩)
      (first | (go_at_call 56; refine (right_nil op now fl vals _ H1.out _ h0 hf (hv0.on hr0) hl (T0.on hr0) (shaped_ons S0 hr0)).mono ?_; rintro e w1 ⟨rfl, hb1⟩; have hb01 := hr0.trans hb1; have k0 := (hb01.cell (p := ⟨g, 0, none⟩) hgl).trans c0; have k1 := (hb01.cell (p := ⟨g, 1, none⟩) hgl).trans c1; have k2 := (hb01.cell (p := ⟨g, 2, none⟩) hgl).trans c2; have k3 := (hb01.cell (p := ⟨g, 3, none⟩) hgl).trans c3; have k4 := (hb01.cell (p := ⟨g, 4, none⟩) hgl).trans c4) | (go_at_call 57; refine (ahs_err l _ E2 H2.out _ (ha0.on hb01) hd).mono ?_; rintro e w2 ⟨t2, x2, rfl, her2, hb2⟩; have hb02 := hb01.trans (hb2.mono hb01.size); have k0 := (hb02.cell (p := ⟨g, 0, none⟩) hgl).trans c0; have k1 := (hb02.cell (p := ⟨g, 1, none⟩) hgl).trans c1; have k2 := (hb02.cell (p := ⟨g, 2, none⟩) hgl).trans c2; have k3 := (hb02.cell (p := ⟨g, 3, none⟩) hgl).trans c3; have k4 := (hb02.cell (p := ⟨g, 4, none⟩) hgl).trans c4))
    all_goals
      have hbw2 : Below w.heap.size w w2 := below_step hb0 hb02
      have k5 := (hb02.cell (p := ⟨g, 5, none⟩) hgl).trans c5
      have L2 := hL.on hbw2
      have i0 := ixe0
      have i1 := ixe1
      have hW : W = some E2.1 := by rw [← HW.out, pduR, H1.out]; simp only; rw [H2.out]
      subst hW
      clear HW
      go_wp2_with fail
      refine wp_loop_rounds 2 ?_
      rw [rounds_succ]
      go_wp2_with fail
      rw [rounds_succ]
      go_wp2_with fail
      refine (tell_aerr E2 _ _ _ L2 her2).mono ?_
      rintro e w4 ⟨rfl, hb4⟩
      go_wp2_with fail
      go_ret
      exact ⟨rfl, below_step hbw2 hb4⟩
  · go_region_held3 (fun w' => w'.cell? ⟨g, 0, none⟩ = some (.int .i64 op) ∧ w'.cell? ⟨g, 1, none⟩ = some (.bool now) ∧ w'.cell? ⟨g, 2, none⟩ = some (.int .i64 fl) ∧ w'.cell? ⟨g, 3, none⟩ = some (.slice A vals.length cap) ∧ w'.cell? ⟨g, 4, none⟩ = some (.slice B l.length bcap)) (first | go_keep | exact ⟨k0, k1, k2, k3, k4⟩)
      (first | (go_at_call 56; refine (right_err op now fl vals _ E1 H1.out _ h0 hf (hv0.on hr0) hl (T0.on hr0) (shaped_ons S0 hr0)).mono ?_; rintro e w1 ⟨t1, x1, rfl, her, hb1⟩; have hb01 := hr0.trans hb1; have k0 := (hb01.cell (p := ⟨g, 0, none⟩) hgl).trans c0; have k1 := (hb01.cell (p := ⟨g, 1, none⟩) hgl).trans c1; have k2 := (hb01.cell (p := ⟨g, 2, none⟩) hgl).trans c2; have k3 := (hb01.cell (p := ⟨g, 3, none⟩) hgl).trans c3; have k4 := (hb01.cell (p := ⟨g, 4, none⟩) hgl).trans c4) | (go_at_call 57; refine (ahs_nil l _ H2.out _ (ha0.on hb01) hd).mono ?_; rintro e w2 ⟨rfl, hb2⟩; have hb02 := hb01.trans (hb2.mono hb01.size); have k0 := (hb02.cell (p := ⟨g, 0, none⟩) hgl).trans c0; have k1 := (hb02.cell (p := ⟨g, 1, none⟩) hgl).trans c1; have k2 := (hb02.cell (p := ⟨g, 2, none⟩) hgl).trans c2; have k3 := (hb02.cell (p := ⟨g, 3, none⟩) hgl).trans c3; have k4 := (hb02.cell (p := ⟨g, 4, none⟩) hgl).trans c4))
    all_goals
      have hbw2 : Below w.heap.size w w2 := below_step hb0 hb02
      have k5 := (hb02.cell (p := ⟨g, 5, none⟩) hgl).trans c5
      have L2 := hL.on hbw2
      have i0 := ixe0
      have i1 := ixe1
      have hW : W = some E1.1 := by rw [← HW.out, pduR, H1.out]
      subst hW
      clear HW
      go_wp2_with fail
      refine wp_loop_rounds 2 ?_
      rw [rounds_succ]
      go_wp2_with fail
      refine (tell_herr E1 _ _ _ L2 (her.on hb2)).mono ?_
      rintro e w4 ⟨rfl, hb4⟩
      go_wp2_with fail
      go_ret
      exact ⟨rfl, below_step hbw2 hb4⟩
  · go_region_held3 (fun w' => w'.cell? ⟨g, 0, none⟩ = some (.int .i64 op) ∧ w'.cell? ⟨g, 1, none⟩ = some (.bool now) ∧ w'.cell? ⟨g, 2, none⟩ = some (.int .i64 fl) ∧ w'.cell? ⟨g, 3, none⟩ = some (.slice A vals.length cap) ∧ w'.cell? ⟨g, 4, none⟩ = some (.slice B l.length bcap)) (first | go_keep | exact ⟨k0, k1, k2, k3, k4⟩)
      (first | (go_at_call 56; refine (right_err op now fl vals _ E1 H1.out _ h0 hf (hv0.on hr0) hl (T0.on hr0) (shaped_ons S0 hr0)).mono ?_; rintro e w1 ⟨t1, x1, rfl, her, hb1⟩; have hb01 := hr0.trans hb1; have k0 := (hb01.cell (p := ⟨g, 0, none⟩) hgl).trans c0; have k1 := (hb01.cell (p := ⟨g, 1, none⟩) hgl).trans c1; have k2 := (hb01.cell (p := ⟨g, 2, none⟩) hgl).trans c2; have k3 := (hb01.cell (p := ⟨g, 3, none⟩) hgl).trans c3; have k4 := (hb01.cell (p := ⟨g, 4, none⟩) hgl).trans c4) | (go_at_call 57; refine (ahs_err l _ E2 H2.out _ (ha0.on hb01) hd).mono ?_; rintro e w2 ⟨t2, x2, rfl, her2, hb2⟩; have hb02 := hb01.trans (hb2.mono hb01.size); have k0 := (hb02.cell (p := ⟨g, 0, none⟩) hgl).trans c0; have k1 := (hb02.cell (p := ⟨g, 1, none⟩) hgl).trans c1; have k2 := (hb02.cell (p := ⟨g, 2, none⟩) hgl).trans c2; have k3 := (hb02.cell (p := ⟨g, 3, none⟩) hgl).trans c3; have k4 := (hb02.cell (p := ⟨g, 4, none⟩) hgl).trans c4))
    all_goals
      have hbw2 : Below w.heap.size w w2 := below_step hb0 hb02
      have k5 := (hb02.cell (p := ⟨g, 5, none⟩) hgl).trans c5
      have L2 := hL.on hbw2
      have i0 := ixe0
      have i1 := ixe1
      have hW : W = some E1.1 := by rw [← HW.out, pduR, H1.out]
      subst hW
      clear HW
      go_wp2_with fail
      refine wp_loop_rounds 2 ?_
      rw [rounds_succ]
      go_wp2_with fail
      refine (tell_herr E1 _ _ _ L2 (her.on hb2)).mono ?_
      rintro e w4 ⟨rfl, hb4⟩
      go_wp2_with fail
      go_ret
      exact ⟨rfl, below_step hbw2 hb4⟩
end Go.Proofs.YtamlepacljjpiaaGreatDoor
