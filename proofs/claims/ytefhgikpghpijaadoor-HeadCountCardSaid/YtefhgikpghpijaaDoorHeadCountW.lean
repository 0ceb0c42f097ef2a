/- The walk of the law HeadCount. -/
import Derived.Test.YtefhgikpghpijaaDoorHeadFlagsW
import Derived.Test.YtefhgikpghpijaaDoorNumRow
import Derived.Deep.Cut
import Derived.Deep.RegionHeld3
namespace Go.Proofs.YtefhgikpghpijaaDoor
open Go.ChangeShapes Go.WideShapes Go.ChangeAt Go.RowKit
set_option linter.unusedVariables false
theorem bounds_u64 {n : Int} (h : (Lit.int .u64 n).wf = true) : 0 ≤ n ∧ n < 18446744073709551616 := by
  simp [Lit.wf, IntKind.min, IntKind.max, IntKind.signed, IntKind.bits] at h
  omega
theorem offM_zero (m : Nat) : offM 0 m = false := by
  unfold offM
  have : bits .andNot .i64 0 (m : Int) = 0 := by
    show IntKind.i64.wrap ((BitVec.ofInt 64 0 &&& ~~~ BitVec.ofInt 64 (m : Int)).toNat : Int) = 0
    simp
    rfl
  rw [this]; rfl
theorem right_len (op : Int) (r : HeadR) (hr : headRow op = some r) (l : List Nat) (hl : r.2.2.2.length ≠ l.length) : rightR op false 0 l = some (7, none) := by
  rw [rightR, hr]
  have hb : badR r op false 0 = false := by unfold badR; rw [offM_zero]; simp
  simp only [hb]
  rw [if_neg (by decide), if_pos hl]
theorem right_miss (op : Int) (r : HeadR) (hr : headRow op = some r) (l : List Nat) (hl : r.2.2.2.length ≠ l.length) (v : Value) (w : World) (h0 : -9223372036854775808 ≤ op ∧ op ≤ 9223372036854775807) (hv : SRd w v 1 l.length (l.map u64V)) (hlt : ∀ x ∈ l, x < 18446744073709551616) (T : Tabs w) (hS : w.ShapedOpen Tryd.prog) :
    Calls Tryd.prog 15 #[.agg #[.int .i64 op, .bool false, .int .i64 0, v]] w fun e w' => e = .returned (.iface 60 (.int .i64 7)) ∧ Below w.heap.size w w' := by
  refine (right_any op false 0 l v w h0 (by decide) hv hlt T hS).mono ?_
  rintro e w' ⟨er, rfl, her, hb⟩
  rw [right_len op r hr l hl] at her
  obtain rfl : er = .iface 60 (.int .i64 7) := her
  exact ⟨rfl, hb⟩
theorem srd_take {w : World} {A : Option Addr} {cap : Nat} {l : List Nat} (h : SRd w (.slice A l.length cap) 1 l.length (l.map u64V)) (k : Nat) (hk : k ≤ l.length) : SRd w (.slice A k cap) 1 (l.take k).length ((l.take k).map u64V) := by
  obtain ⟨h1, A2, cap2, hv, h2, h3, h4⟩ := h
  injection hv with k1 k2 k3
  subst k1 k3
  have hlk : (l.take k).length = k := by rw [List.length_take]; omega
  refine ⟨by rw [List.length_map, Nat.mul_one], A, cap, by rw [hlk], by omega, h3, fun hp => ?_⟩
  obtain ⟨b, o, h5, h6, h7⟩ := h4 (by omega)
  refine ⟨b, o, h5, h6, fun j u hu => h7 j u ?_⟩
  rw [List.getElem?_map] at hu ⊢
  have hj : j < k := by
    have := List.getElem?_eq_none_iff (l := l.take k) (i := j)
    by_cases h : j < k
    · exact h
    · rw [this.2 (by omega)] at hu; cases hu
  rw [List.getElem?_take_of_lt hj] at hu
  exact hu
theorem cnt_on {g QA QB : Nat} {t : TypeId} {x y z : Array Value} {a b : World} (hb : Below a.heap.size a b) (h1 : Blk a g t x) (h2 : Blk a QA t y) (h3 : Blk a QB t z) : Blk b g t x ∧ Blk b QA t y ∧ Blk b QB t z :=
  ⟨h1.below hb h1.lt, h2.below hb h2.lt, h3.below hb h3.lt⟩
set_option maxRecDepth 20000 in
set_option maxHeartbeats 2000000 in
theorem countHead (op n : Int) (w : World) (h0 : -9223372036854775808 ≤ op ∧ op ≤ 9223372036854775807) (hn : 0 ≤ n ∧ n < 18446744073709551616) (hL : LaidE w) (T : Tabs w) (hS : w.ShapedOpen Tryd.prog) :
    Calls Tryd.prog 11 #[.int .i64 op, .int .u64 n] w fun e w' => e = .returned (.bool true) ∧ Below w.heap.size w w' := by
  go_enter Tryd.func11, Tryd.ntmps11
  go_wp2_with fail
  refine (headed_fact _ T hS).mono ?_
  rintro e w1 ⟨rfl, hb1⟩
  rcases hr : headRow op with _ | r
  · have HR := Lib.hid hr
    clear hr
    go_wp2_with fail
    refine (make_none op 0 HR.out _ h0 (by decide) (T.on hb1) (shaped_ons hS hb1)).mono ?_
    rintro e w3 ⟨rfl, hb3⟩
    unfold zeroH
    have hbw3 := below_step hb1 hb3
    have hb34 : Below w3.heap.size w3 (w3.alloc (.cells #[.int .i64 0, .bool false, .int .i64 0, .slice none 0 0] 24)) := (Below.refl _ _).alloc (Nat.le_refl _) _
    go_wp2_with fail
    refine (same_yes 0 false 0 [] _ _ _ (srd_nil _) (srd_nil _)).mono ?_
    rintro e w4 ⟨rfl, hb4⟩
    go_wp2_with fail
    go_ret
    exact ⟨rfl, below_step (below_step hbw3 hb34) hb4⟩
  · have hrm := headRow_mem hr
    have hpos := headT_pos r hrm
    have HR := Lib.hid hr
    clear hr
    obtain ⟨N, hN⟩ : ∃ N, r.2.2.2.length = N := ⟨_, rfl⟩
    rw [hN] at hpos
    obtain ⟨m, rfl⟩ := Int.eq_ofNat_of_zero_le hn.1
    go_wp2_with fail
    refine (make_zero op 0 r HR.out (by rw [offM_zero]; rfl) _ h0 (by decide) (T.on hb1) (shaped_ons hS hb1)).mono ?_
    rintro e w2 ⟨v, rfl, hv, hb2⟩
    have hbw2 := below_step hb1 hb2
    have hzl : (zerosL r).length = N := by rw [zerosL, List.length_replicate, hN]
    obtain ⟨_, A, cap, rfl, hcap, hmax, hcell⟩ := id hv
    obtain ⟨ab, ao, rfl, habl, _⟩ := hcell (by omega)
    obtain ⟨q, hq⟩ : ∃ q, q + 1 = N := ⟨N - 1, by omega⟩
    have hsub : IntKind.i64.wrap ((N : Int) - 1) = (q : Int) := by rw [IntKind.wrap_i64]; omega
    clear hcell
    unfold maxLen at hmax
    rw [hzl] at hcap ⊢
    go_wp2_with fail
    have hb2h : Below w2.heap.size w2 (w2.alloc (.cells #[.int .i64 op, .bool false, .int .i64 0, .slice (some ⟨ab, ao, none⟩) N cap] 24)) := (Below.refl _ _).alloc (Nat.le_refl _) _
    have hBh := Blk.new w2 24 #[.int .i64 op, .bool false, .int .i64 0, .slice (some ⟨ab, ao, none⟩) N cap]
    obtain ⟨wh, hwh⟩ : ∃ wh : World, w2.alloc (.cells #[.int .i64 op, .bool false, .int .i64 0, .slice (some ⟨ab, ao, none⟩) N cap] 24) = wh := ⟨_, rfl⟩
    obtain ⟨g, hg⟩ : ∃ g, w2.heap.size = g := ⟨_, rfl⟩
    rw [hwh] at hb2h hBh ⊢
    rw [hg] at hBh
    try rw [hg]
    have hbwh := below_step hbw2 hb2h
    have hvh : SRd wh (.slice (some ⟨ab, ao, none⟩) (zerosL r).length cap) 1 (zerosL r).length ((zerosL r).map u64V) := hv.on hb2h
    rw [hzl] at hvh
    have c0 := hBh.cell 0
    have c1 := hBh.cell 1
    have c2 := hBh.cell 2
    have c3 := hBh.cell 3
    have hBl := hBh.lt
    clear hwh
    obtain ⟨W2, hW2⟩ : ∃ W2 : World, ((wh.alloc (.cells #[.int .i64 op, .bool false, .int .i64 0, .slice (some ⟨ab, ao, none⟩) N cap] 24)).alloc (.cells #[.int .i64 op, .bool false, .int .i64 0, .slice (some ⟨ab, ao, none⟩) N cap] 24)).drew = W2 := ⟨_, rfl⟩
    have hP1 : Blk W2 wh.heap.size 24 #[.int .i64 op, .bool false, .int .i64 0, .slice (some ⟨ab, ao, none⟩) N cap] := by
      rw [← hW2]; exact ((Blk.new wh _ _).alloc _).drew
    have hP2 : Blk W2 (wh.heap.size + 1) 24 #[.int .i64 op, .bool false, .int .i64 0, .slice (some ⟨ab, ao, none⟩) N cap] := by
      rw [← hW2]
      have := Blk.new (wh.alloc (.cells #[.int .i64 op, .bool false, .int .i64 0, .slice (some ⟨ab, ao, none⟩) N cap] 24)) 24 #[.int .i64 op, .bool false, .int .i64 0, .slice (some ⟨ab, ao, none⟩) N cap]
      have e : (wh.alloc (.cells #[.int .i64 op, .bool false, .int .i64 0, .slice (some ⟨ab, ao, none⟩) N cap] 24)).heap.size = wh.heap.size + 1 := by simp
      rw [e] at this
      exact this.drew
    have hb12 : Below wh.heap.size wh W2 := by
      rw [← hW2]; exact (((Below.refl _ _).alloc (Nat.le_refl _) _).alloc (by simp) _).drew
    have hP0 := hBh.below hb12 hBl
    go_region
    obtain ⟨n1, hn1⟩ : ∃ n1, wh.heap.size = n1 := ⟨_, rfl⟩
    obtain ⟨QA, hQA⟩ : ∃ q, wh.heap.size = q := ⟨_, rfl⟩
    obtain ⟨QB, hQB⟩ : ∃ q, QA + 1 = q := ⟨_, rfl⟩
    try rw [hn1]
    try rw [hn1] at hQA hP1 hP2
    try rw [hQA]
    try rw [hQB]
    have hA : Blk W2 QA 24 #[.int .i64 op, .bool false, .int .i64 0, .slice (some ⟨ab, ao, none⟩) N cap] := by rw [← hQA]; exact hP1
    have hB : Blk W2 QB 24 #[.int .i64 op, .bool false, .int .i64 0, .slice (some ⟨ab, ao, none⟩) N cap] := by rw [← hQB, ← hQA]; exact hP2
    have hne : QA ≠ QB ∧ n1 ≤ QA ∧ n1 ≤ QB := by omega
    rotate_left
    obtain ⟨n1, hn1⟩ : ∃ n1, wh.heap.size = n1 := ⟨_, rfl⟩
    obtain ⟨QB, hQB⟩ : ∃ q, wh.heap.size = q := ⟨_, rfl⟩
    obtain ⟨QA, hQA⟩ : ∃ q, QB + 1 = q := ⟨_, rfl⟩
    try rw [hn1]
    try rw [hn1] at hQB hP1 hP2
    try rw [hQB]
    try rw [hQA]
    have hB : Blk W2 QB 24 #[.int .i64 op, .bool false, .int .i64 0, .slice (some ⟨ab, ao, none⟩) N cap] := by rw [← hQB]; exact hP1
    have hA : Blk W2 QA 24 #[.int .i64 op, .bool false, .int .i64 0, .slice (some ⟨ab, ao, none⟩) N cap] := by rw [← hQA, ← hQB]; exact hP2
    have hne : QA ≠ QB ∧ n1 ≤ QA ∧ n1 ≤ QB := by omega
    all_goals
      try rw [hW2]
      have hgA : g < QA ∧ g < QB := by omega
      clear hW2 hP1 hP2 hQA hQB c0 c1 c2 c3
      have hbw3 : Below w.heap.size w W2 := below_step hbwh hb12
      have hv3 := hvh.on hb12
      have hlen : (zerosL r).length * 8 ≤ 140737488351232 := by omega
      have hl1 : (zerosL r).length ≤ 1000 := by omega
      have hle2 : ∀ (W : World) (o : Obj), W.heap.size ≤ (W.alloc o).heap.size := fun W o => by simp
      have hlt2 : ∀ (W : World) (o : Obj), W.heap.size < (W.alloc o).heap.size := fun W o => by simp
      have hne1 := hne.1
      have hA' : ∀ (w' : World) (u : Value) (cs : Array Value), Blk w' QB 24 cs → Blk (w'.setCell ⟨QA, 3, none⟩ u) QB 24 cs := fun w' u cs h => h.far (Ne.symm hne1) u
      have hv4 : SRd W2 (.slice (some ⟨ab, ao, none⟩) N cap) 1 (zerosL r).length ((zerosL r).map u64V) := by rw [hzl]; exact hv3
      have HB2 := Lib.hid (And.intro hP0 (And.intro hA hB))
      have k1 : W2.cell? ⟨g, 3, none⟩ = some (.slice (some ⟨ab, ao, none⟩) N cap) := hP0.cell 3
      have hgne : g ≠ QA ∧ g ≠ QB := by omega
      have hzm : (zerosL r ++ [m]).length = N + 1 := by rw [List.length_append, hzl]; rfl
      have hq0 : (0 : Int) ≤ (q : Int) := by omega
      have hqc : (q : Int) ≤ (cap : Int) := by omega
      have hqc2 : q ≤ cap := by omega
      have HAB := Lib.hid hA'
      clear hA hB hP0 hA'
      go_wp2_with fail
      go_region_held3 (fun w' => w'.cell? ⟨g, 3, none⟩ = some (.slice (some ⟨ab, ao, none⟩) N cap)) (first | go_keep | exact k1 | exact k8 | exact k9)
        (first | (go_at_call 26; refine (clone_num (zerosL r) _ _ (by first | exact hv4.on (Below.refl _ _).drew | exact hv4.on ((Below.refl _ _).drew.alloc (by simp) _) | exact hv4.on ((Below.refl _ _).alloc (by simp) _).drew | exact hv4) hlen).mono ?_; rintro e wc ⟨uu, rfl, hu, hbc⟩; have hb5c := below_step (a := W2) (show Below W2.heap.size W2 _ by first | exact (Below.refl _ _).drew | exact (Below.refl _ _).drew.alloc (by simp) _ | exact ((Below.refl _ _).alloc (by simp) _).drew | exact Below.refl _ _) hbc; obtain ⟨b1, b2, b3⟩ := cnt_on hb5c HB2.out.1 HB2.out.2.1 HB2.out.2.2; have k1 : wc.cell? ⟨g, 3, none⟩ = some (.slice (some ⟨ab, ao, none⟩) N cap) := b1.cell 3; clear b1 b2 b3) | (refine step_append_num _ (by rfl) _ _ (by rfl) W2.heap.size uu (zerosL r) (by rfl) (MRow.more (MRow.alloc hu _) (Nat.le_refl _)) ⟨wc.heap.size, 0, none⟩ 1 m (by rfl) (cell_new_u _ _ _) hl1 (Nat.le_trans hb5c.size (hle2 _ _)) (w0 := W2) (hb5c.alloc hb5c.size _) ?_; intro v6 w6 hr6 hb6 hg6; obtain ⟨A6, cap6, rfl⟩ : ∃ A cap, v6 = .slice A (N + 1) cap := (by obtain ⟨A, cap, hv, _⟩ := MRow.form hr6; rw [hzm] at hv; exact ⟨A, cap, hv⟩); obtain ⟨b1, b2, b3⟩ := cnt_on hb6 HB2.out.1 HB2.out.2.1 HB2.out.2.2; have k1 : w6.cell? ⟨g, 3, none⟩ = some (.slice (some ⟨ab, ao, none⟩) N cap) := b1.cell 3; have k2 : w6.cell? ⟨QA, 3, none⟩ = some (.slice (some ⟨ab, ao, none⟩) N cap) := b2.cell 3; have k3 := b2.frozen 3; have k4 : w6.cell? ⟨QB, 3, none⟩ = some (.slice (some ⟨ab, ao, none⟩) N cap) := b3.cell 3; have k5 := b3.frozen 3; have b4 := HAB.out w6 (.slice A6 (N + 1) cap6) _ b3; have k6 : (w6.setCell ⟨QA, 3, none⟩ (.slice A6 (N + 1) cap6)).cell? ⟨QB, 3, none⟩ = some (.slice (some ⟨ab, ao, none⟩) N cap) := b4.cell 3; have k7 := b4.frozen 3; have b5 := b1.far (p := ⟨QA, 3, none⟩) hgne.1 (.slice A6 (N + 1) cap6); have k8 : (w6.setCell ⟨QA, 3, none⟩ (.slice A6 (N + 1) cap6)).cell? ⟨g, 3, none⟩ = some (.slice (some ⟨ab, ao, none⟩) N cap) := b5.cell 3; have b6 := b5.far (p := ⟨QB, 3, none⟩) hgne.2 (.slice (some ⟨ab, ao, none⟩) q cap); have k9 : ((w6.setCell ⟨QA, 3, none⟩ (.slice A6 (N + 1) cap6)).setCell ⟨QB, 3, none⟩ (.slice (some ⟨ab, ao, none⟩) q cap)).cell? ⟨g, 3, none⟩ = some (.slice (some ⟨ab, ao, none⟩) N cap) := b6.cell 3) | (refine step_append_num _ (by rfl) _ _ (by rfl) W2.heap.size uu (zerosL r) (by rfl) (MRow.more hu (hle2 W2 _)) ⟨W2.heap.size, 0, none⟩ 1 m (by rfl) ((hbc.cell (p := (⟨W2.heap.size, 0, none⟩ : Addr).add 0) (hlt2 _ _)).trans (cell_new_u W2 _ _)) hl1 hb5c.size (w0 := W2) hb5c ?_; intro v6 w6 hr6 hb6 hg6; obtain ⟨A6, cap6, rfl⟩ : ∃ A cap, v6 = .slice A (N + 1) cap := (by obtain ⟨A, cap, hv, _⟩ := MRow.form hr6; rw [hzm] at hv; exact ⟨A, cap, hv⟩); obtain ⟨b1, b2, b3⟩ := cnt_on hb6 HB2.out.1 HB2.out.2.1 HB2.out.2.2; have k1 : w6.cell? ⟨g, 3, none⟩ = some (.slice (some ⟨ab, ao, none⟩) N cap) := b1.cell 3; have k2 : w6.cell? ⟨QA, 3, none⟩ = some (.slice (some ⟨ab, ao, none⟩) N cap) := b2.cell 3; have k3 := b2.frozen 3; have k4 : w6.cell? ⟨QB, 3, none⟩ = some (.slice (some ⟨ab, ao, none⟩) N cap) := b3.cell 3; have k5 := b3.frozen 3; have b4 := HAB.out w6 (.slice A6 (N + 1) cap6) _ b3; have k6 : (w6.setCell ⟨QA, 3, none⟩ (.slice A6 (N + 1) cap6)).cell? ⟨QB, 3, none⟩ = some (.slice (some ⟨ab, ao, none⟩) N cap) := b4.cell 3; have k7 := b4.frozen 3; have b5 := b1.far (p := ⟨QA, 3, none⟩) hgne.1 (.slice A6 (N + 1) cap6); have k8 : (w6.setCell ⟨QA, 3, none⟩ (.slice A6 (N + 1) cap6)).cell? ⟨g, 3, none⟩ = some (.slice (some ⟨ab, ao, none⟩) N cap) := b5.cell 3; have b6 := b5.far (p := ⟨QB, 3, none⟩) hgne.2 (.slice (some ⟨ab, ao, none⟩) q cap); have k9 : ((w6.setCell ⟨QA, 3, none⟩ (.slice A6 (N + 1) cap6)).setCell ⟨QB, 3, none⟩ (.slice (some ⟨ab, ao, none⟩) q cap)).cell? ⟨g, 3, none⟩ = some (.slice (some ⟨ab, ao, none⟩) N cap) := b6.cell 3))
      all_goals
        have hA6 : ∀ a, A6 = some a → a.block ≠ QA ∧ a.block ≠ QB := by
          intro a ha
          have h1 := (MRow.lt hr6 a.block (by rw [ha]; rfl)).1
          have h2 := HB2.out.2.1.lt
          have h3 := HB2.out.2.2.lt
          omega
        have hab : ∀ a : Addr, some (⟨ab, ao, none⟩ : Addr) = some a → a.block ≠ QA ∧ a.block ≠ QB := by
          intro a ha
          injection ha with ha
          rw [← ha]
          show ab ≠ QA ∧ ab ≠ QB
          omega
        have sa := ((SRd.of_m hr6).off QA (fun a h => (hA6 a h).1) 3 (.slice A6 (N + 1) cap6)).off QB (fun a h => (hA6 a h).2) 3 (.slice (some ⟨ab, ao, none⟩) q cap)
        have sh := ((hv4.on hb6).off QA (fun a h => (hab a h).1) 3 (.slice A6 (N + 1) cap6)).off QB (fun a h => (hab a h).2) 3 (.slice (some ⟨ab, ao, none⟩) q cap)
        have cA := ((b2.put 3 (.slice A6 (N + 1) cap6)).far (p := ⟨QB, 3, none⟩) hne1 (.slice (some ⟨ab, ao, none⟩) q cap))
        have cB := b4.put 3 (.slice (some ⟨ab, ao, none⟩) q cap)
        have hfin : Below w.heap.size w ((w6.setCell ⟨QA, 3, none⟩ (.slice A6 (N + 1) cap6)).setCell ⟨QB, 3, none⟩ (.slice (some ⟨ab, ao, none⟩) q cap)) :=
          ((below_step hbw3 hb6).setCell (show w.heap.size ≤ QA by have := hbwh.size; omega) _).setCell (show w.heap.size ≤ QB by have := hbwh.size; omega) _
        obtain ⟨W7, hW7⟩ : ∃ W7 : World, (w6.setCell ⟨QA, 3, none⟩ (.slice A6 (N + 1) cap6)).setCell ⟨QB, 3, none⟩ (.slice (some ⟨ab, ao, none⟩) q cap) = W7 := ⟨_, rfl⟩
        rw [hW7] at sa sh cA cB hfin b6 ⊢
        have sb : SRd W7 (.slice (some ⟨ab, ao, none⟩) q cap) 1 ((zerosL r).take q).length (((zerosL r).take q).map u64V) := srd_take (by rw [hzl] at sh ⊢; exact sh) q (by omega)
        have cA : Blk W7 QA 24 #[.int .i64 op, .bool false, .int .i64 0, .slice A6 (N + 1) cap6] := cA
        have cB : Blk W7 QB 24 #[.int .i64 op, .bool false, .int .i64 0, .slice (some ⟨ab, ao, none⟩) q cap] := cB
        have T7 := T.on hfin
        have S7 := shaped_ons hS hfin
        have L7 := hL.on hfin
        have hlG := b6.lt
        have hlA := cA.lt
        have hlB := cB.lt
        have g0 := b6.cell 0
        have g1 := b6.cell 1
        have g2 := b6.cell 2
        have g3 := b6.cell 3
        have hr0 : rightR op false 0 (zerosL r) = none := by rw [right_zero op 0 r HR.out, offM_zero]; rfl
        have hzs : ∀ x ∈ zerosL r, x < 18446744073709551616 := fun x hx => by rw [(List.mem_replicate.1 hx).2]; decide
        have HZS := Lib.hid hzs
        have HR0 := Lib.hid hr0
        have HCA := Lib.hid cA
        have HCB := Lib.hid cB
        have HHA := Lib.hid hA6
        clear k1 k2 k3 k4 k5 k6 k7 k8 k9 b1 b2 b3 b4 b5 b6 hr6 hW7 cA cB hbc hb5c hb6 hg6 hu hv4 hv3 hvh hv hab hA6 hr0 hzs hBh hb12 hn1 hb2h hb2 hbw2 hb1 hbw3 hbwh
        go_wp2_with fail
        refine (right_nil op false 0 (zerosL r) _ HR0.out _ h0 (by decide) sh HZS.out T7 S7).mono ?_
        rintro e w8 ⟨rfl, hb8⟩
        have hbw8 := below_step hfin hb8
        have B8 := HCA.out.below hb8 hlA
        have BB8 := HCB.out.below hb8 hlB
        have a0 := B8.cell 0
        have a1 := B8.cell 1
        have a2 := B8.cell 2
        have a3 := B8.cell 3
        have hlB8 := BB8.lt
        clear g0 g1 g2 g3
        go_wp2_with fail
        refine (right_miss op r HR.out (zerosL r ++ [m]) (by rw [hN, hzm]; omega) _ _ h0 (sa.on hb8) (by
          intro x hx
          rcases List.mem_append.1 hx with h | h
          · exact HZS.out x h
          · rw [List.mem_singleton.1 h]; omega) (T.on hbw8) (shaped_ons hS hbw8)).mono ?_
        rintro e w9 ⟨rfl, hb9⟩
        have hbw9 := below_step hbw8 hb9
        go_wp2_with fail
        refine (tell_errno 7 _ (hL.on hbw9)).mono ?_
        rintro e w10 ⟨rfl, hb10⟩
        have hbw10 := below_step hbw9 hb10
        have BB9 := BB8.below hb9 hlB8
        have BB10 := BB9.below hb10 BB9.lt
        have e0 := BB10.cell 0
        have e1 := BB10.cell 1
        have e2 := BB10.cell 2
        have e3 := BB10.cell 3
        clear a0 a1 a2 a3
        go_wp2_with fail
        refine (right_miss op r HR.out ((zerosL r).take q) (by rw [hN, List.length_take, hzl]; omega) _ _ h0 (sb.on ((hb8.trans (hb9.mono hb8.size)).trans (hb10.mono (Nat.le_trans hb8.size hb9.size)))) (fun x hx => HZS.out x (List.mem_of_mem_take hx)) (T.on hbw10) (shaped_ons hS hbw10)).mono ?_
        rintro e w11 ⟨rfl, hb11⟩
        have hbw11 := below_step hbw10 hb11
        go_wp2_with fail
        refine (tell_errno 7 _ (hL.on hbw11)).mono ?_
        rintro e w12 ⟨rfl, hb12⟩
        go_wp2_with fail
        go_ret
        exact ⟨rfl, below_step hbw11 hb12⟩
end Go.Proofs.YtefhgikpghpijaaDoor
