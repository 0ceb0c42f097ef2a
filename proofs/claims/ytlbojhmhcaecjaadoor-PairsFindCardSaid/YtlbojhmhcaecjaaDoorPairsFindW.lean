/- The walk of the law PairsFind. -/
import Derived.Test.YtlbojhmhcaecjaaDoorPairsFind
import Derived.Test.YtlbojhmhcaecjaaDoorConcatPair
import Derived.Lib.SliceRun
import Derived.Deep.RegionHeld3
namespace Go.Proofs.YtlbojhmhcaecjaaDoor
open Go.ChangeShapes Go.WideShapes Go.ChangeAt Go.RowKit
set_option linter.unusedVariables false
theorem find_append (l : PairL) (p : ByteArray × ByteArray) (k : ByteArray) : findB (l ++ [p]) k = match findB l k with | some v => some v | none => if p.1.data.toList = k.data.toList then some p.2 else none := by
  induction l with
  | nil => simp [findB]
  | cons q l ih =>
    rw [List.cons_append, findB, findB]
    by_cases h : q.1.data.toList = k.data.toList
    · rw [if_pos h, if_pos h]
    · rw [if_neg h, if_neg h, ih]
theorem find_some {l : PairL} {k v : ByteArray} (h : findB l k = some v) : (k, v) ∈ l := by
  induction l with
  | nil => simp [findB] at h
  | cons q l ih =>
    rw [findB] at h
    by_cases e : q.1.data.toList = k.data.toList
    · rw [if_pos e] at h
      have e1 : q.1 = k := by rw [str_of q.1, e, ← str_of]
      have e2 : q.2 = v := Option.some.inj h
      rw [← e1, ← e2]
      exact List.mem_cons_self
    · rw [if_neg e] at h
      exact List.mem_cons_of_mem _ (ih h)
theorem find_none {l : PairL} {k : ByteArray} (h : findB l k = none) : ∀ q ∈ l, q.1.data.toList ≠ k.data.toList := by
  induction l with
  | nil => intro q hq; cases hq
  | cons q l ih =>
    rw [findB] at h
    by_cases e : q.1.data.toList = k.data.toList
    · rw [if_pos e] at h; cases h
    · rw [if_neg e] at h
      intro r hr
      rcases List.mem_cons.1 hr with rfl | hr
      · exact e
      · exact ih h r hr
set_option maxRecDepth 20000 in
set_option maxHeartbeats 2000000 in
theorem clone_any (l : PairL) (v : Value) (w : World) (hv : SRd w v 2 l.length (pairCells l)) (hl : l.length * 32 ≤ 140737488351232) : Calls Tryd.prog 35 #[v] w fun e w' =>
    ∃ u, e = .returned u ∧ PRow w' w.heap.size u l ∧ Below w.heap.size w w' := by
  have hv0 := hv
  obtain ⟨hlen, A, cap, rfl, hcap, hmax, hcell⟩ := hv
  unfold maxLen at hmax
  have hnil : A = none → l = [] := by
    intro hA
    rcases l with _ | ⟨p, l⟩
    · rfl
    · obtain ⟨b, o, hA2, _⟩ := hcell (by simp)
      rw [hA] at hA2; cases hA2
  clear hcell hlen
  have heq := fun (w : World) (a : Option Addr) (n c : Nat) => Lib.run_eql_slice_nil (P := Tryd.prog) w 60 62 a n c 0 0 Tryd.underlying60
  go_enter Tryd.func35, Tryd.ntmps35
  rcases A with _ | a
  · have h0 := hnil rfl
    subst h0
    clear hnil
    go_wp2_with fail
    go_ret
    exact ⟨_, rfl, MRow.nil _ _ _ _, Below.refl _ _⟩
  · have hown : PRow (w.alloc (.cells #[] 62)) w.heap.size (.slice (some ⟨w.heap.size, 0, none⟩) 0 0) [] :=
      ⟨rfl, .inr ⟨w.heap.size, 0, #[], rfl, Nat.le_refl _, BlkM.of_blk (Blk.new w _ _), Nat.le_refl _, by decide, rfl, rfl⟩⟩
    have hb0 : Below w.heap.size w (w.alloc (.cells #[] 62)) := (Below.refl _ _).alloc (Nat.le_refl _) _
    have hv1 := hv0.on hb0
    go_wp2_with (at_builtin; refine wpList_append_many _ rfl _ _ rfl w.heap.size _ [] rfl hown _ l rfl hv1 (by simp; omega) (by simp) (w0 := w) hb0 ?_)
    intro v1 w1 hr1 hb1 hg1
    go_wp2_with fail
    go_ret
    exact ⟨_, rfl, hr1, hb1⟩
set_option maxHeartbeats 2000000 in
theorem index_any (l : PairL) (v : Value) (q : ByteArray × ByteArray) (w : World) (hv : SRd w v 2 l.length (pairCells l)) (hq : q ∈ l) : Calls Tryd.prog 59 #[v, .agg #[.string q.1, .string q.2]] w fun e w' =>
    ∃ k : Nat, e = .returned (.int .i64 k) ∧ k < l.length ∧ Below w.heap.size w w' := by
  obtain ⟨hlen, A, cap, rfl, hcap, hmax, hcell⟩ := hv
  have HC := Lib.hid hcell
  unfold maxLen at hmax
  clear hcell hlen
  obtain ⟨m, hm⟩ := List.getElem?_of_mem hq
  have hml : m < l.length := (List.getElem?_eq_some_iff.1 hm).1
  have HM := Lib.hid hm
  clear hm hq
  obtain ⟨q1, q2⟩ := q
  go_enter Tryd.func59, Tryd.ntmps59
  go_wp2_with fail
  have d0 := (Blk.new w 62 #[.string q1, .string q2]).cell 0
  have d1 := (Blk.new w 62 #[.string q1, .string q2]).cell 1
  have hb0 : Below w.heap.size w (w.alloc (.cells #[.string q1, .string q2] 62)) := (Below.refl _ _).alloc (Nat.le_refl _) _
  obtain ⟨w0, hw0⟩ : ∃ w0, w.alloc (.cells #[.string q1, .string q2] 62) = w0 := ⟨_, rfl⟩
  rw [hw0] at d0 d1 hb0 ⊢
  change w0.cell? _ = some (.string q1) at d0
  change w0.cell? _ = some (.string q2) at d1
  clear hw0
  go_loopw [8] (fun i wr => ∃ (k n : Nat), k ≤ m ∧ i = .int .i64 k ∧ wr = w0.drewN n) (fun i _ => l.length - (intOf i).toNat)
  case atStart => exact ⟨0, 0, Nat.zero_le _, rfl, rfl⟩
  case round =>
    obtain ⟨k, nd, hk, rfl, rfl⟩ := hrel
    have hlt : k < l.length := by omega
    obtain ⟨p, hp⟩ : ∃ p, l[k]? = some p := ⟨_, List.getElem?_eq_getElem hlt⟩
    obtain ⟨b, o, rfl, hbl, hcc⟩ := HC.out (by omega)
    have hc := pairCells_at l k p hp
    have c0 := (hb0.cell (p := ⟨b, o + 2 * k, none⟩) hbl).trans (hcc _ _ hc.1)
    have c1 := (hb0.cell (p := ⟨b, o + (2 * k + 1), none⟩) hbl).trans (hcc _ _ hc.2)
    rw [Nat.mul_comm] at c0 c1
    rw [← Nat.add_assoc] at c1
    have hne : ¬ (q1.toList = p.1.toList ∧ q2.toList = p.2.toList) → k + 1 ≤ m := by
      intro h
      rcases Nat.lt_or_ge k m with h2 | h2
      · exact h2
      · obtain rfl : k = m := by omega
        rw [HM.out] at hp
        have := Option.some.inj hp
        subst this
        exact absurd ⟨rfl, rfl⟩ h
    have HNE := Lib.hid hne
    clear hc hcc hp hne
    obtain ⟨p1, p2⟩ := p
    simp only at c0 c1 HNE
    by_cases e1 : q1.toList = p1.toList
    · by_cases e2 : q2.toList = p2.toList
      · have f1 : (q1.toList == p1.toList) = true := by rw [e1]; simp
        have f2 : (q2.toList == p2.toList) = true := by rw [e2]; simp
        clear e1 e2
        go_wp2_with fail
        go_quiet (fail)
        go_wp2_with fail
        go_ret
        exact ⟨k, rfl, hlt, below_drewN (below_drewN hb0 _) _⟩
      · have hk1 := HNE.out (fun h => e2 h.2)
        have f1 : (q1.toList == p1.toList) = true := by rw [e1]; simp
        have f2 : (q2.toList == p2.toList) = false := by simpa using e2
        clear e1 e2
        go_wp2_with fail
        go_quiet (fail)
        go_wp2_with fail
        go_roundw
        case rel => exact ⟨k + 1, _, hk1, by go_num, rfl⟩
        case measure => simp [intOf]; omega
    · have hk1 := HNE.out (fun h => e1 h.1)
      have f1 : (q1.toList == p1.toList) = false := by simpa using e1
      clear e1
      go_wp2_with fail
      go_quiet (fail)
      go_wp2_with fail
      go_roundw
      case rel => exact ⟨k + 1, _, hk1, by go_num, rfl⟩
      case measure => simp [intOf]; omega
theorem contains_yes (l : PairL) (v : Value) (q : ByteArray × ByteArray) (w : World) (hv : SRd w v 2 l.length (pairCells l)) (hq : q ∈ l) : Calls Tryd.prog 36 #[v, .agg #[.string q.1, .string q.2]] w fun e w' =>
    e = .returned (.bool true) ∧ Below w.heap.size w w' := by
  obtain ⟨A, cap, hvv⟩ : ∃ A cap, v = .slice A l.length cap := by obtain ⟨_, A, cap, hv, _⟩ := hv; exact ⟨A, cap, hv⟩
  have hb0 : Below w.heap.size w (w.alloc (.cells #[.string q.1, .string q.2] 62)) := (Below.refl _ _).alloc (Nat.le_refl _) _
  have HI := index_any l v q _ (hv.on hb0) hq
  subst hvv
  go_enter Tryd.func36, Tryd.ntmps36
  go_wp2_with fail
  refine HI.mono ?_
  rintro e w1 ⟨k, rfl, hk, hb⟩
  go_wp2_with fail
  go_ret
  exact ⟨rfl, below_step hb0 hb⟩
theorem closure_no (w : World) (g : Nat) (hgl : g < w.heap.size) (p q : ByteArray × ByteArray) (hg0 : w.cell? ⟨g, 0, none⟩ = some (.string p.1)) (hg1 : w.cell? ⟨g, 1, none⟩ = some (.string p.2)) (hne : q.1.data.toList ≠ p.1.data.toList) :
    Calls Tryd.prog 38 #[.agg #[.string q.1, .string q.2], .pointer (some ⟨g, 0, none⟩)] w fun e w' => e = .returned (.bool false) ∧ Below w.heap.size w w' := by
  obtain ⟨q1, q2⟩ := q
  obtain ⟨p1, p2⟩ := p
  have f1 : (q1.toList == p1.toList) = false := by rw [toList_of, toList_of]; simpa using hne
  simp only at hg0 hg1
  have hb0 : Below w.heap.size w (w.alloc (.cells #[.string q1, .string q2] 62)) := (Below.refl _ _).alloc (Nat.le_refl _) _
  have c0 := (hb0.cell (p := ⟨g, 0, none⟩) hgl).trans hg0
  clear hne hg0 hg1
  go_enter Tryd.func38, Tryd.ntmps38
  go_wp2_with fail
  go_ret
  exact ⟨rfl, hb0⟩
set_option maxHeartbeats 2000000 in
theorem indexf_no (l : PairL) (v : Value) (p : ByteArray × ByteArray) (g : Nat) (w : World) (hv : SRd w v 2 l.length (pairCells l)) (hg0 : w.cell? ⟨g, 0, none⟩ = some (.string p.1)) (hg1 : w.cell? ⟨g, 1, none⟩ = some (.string p.2)) (hgl : g < w.heap.size)
    (hne : ∀ q ∈ l, q.1.data.toList ≠ p.1.data.toList) : Calls Tryd.prog 60 #[v, .func (.func 38) #[] #[.pointer (some ⟨g, 0, none⟩)]] w fun e w' =>
    e = .returned (.int .i64 (-1)) ∧ Below w.heap.size w w' := by
  obtain ⟨hlen, A, cap, rfl, hcap, hmax, hcell⟩ := hv
  have HC := Lib.hid hcell
  have HN := Lib.hid hne
  unfold maxLen at hmax
  clear hcell hlen hne
  go_enter Tryd.func60, Tryd.ntmps60
  go_wp2_with fail
  go_loopw [8] (fun i wr => ∃ k : Nat, k ≤ l.length ∧ i = .int .i64 k ∧ Below w.heap.size w wr) (fun i _ => l.length - (intOf i).toNat)
  case atStart => exact ⟨0, Nat.zero_le _, rfl, Below.refl _ _⟩
  case round =>
    obtain ⟨k, hk, rfl, hbr⟩ := hrel
    by_cases hlt : k < l.length
    · obtain ⟨q, hp⟩ : ∃ q, l[k]? = some q := ⟨_, List.getElem?_eq_getElem hlt⟩
      obtain ⟨b, o, rfl, hbl, hcc⟩ := HC.out (by omega)
      have hc := pairCells_at l k q hp
      have c0 := (hbr.cell (p := ⟨b, o + 2 * k, none⟩) hbl).trans (hcc _ _ hc.1)
      have c1 := (hbr.cell (p := ⟨b, o + (2 * k + 1), none⟩) hbl).trans (hcc _ _ hc.2)
      rw [Nat.mul_comm] at c0 c1
      rw [← Nat.add_assoc] at c1
      have hn := HN.out q (List.mem_of_getElem? hp)
      have HCL := Lib.hid (closure_no wr g (Nat.lt_of_lt_of_le hgl hbr.size) p q ((hbr.cell (p := ⟨g, 0, none⟩) hgl).trans hg0) ((hbr.cell (p := ⟨g, 1, none⟩) hgl).trans hg1) hn)
      clear hc hcc hp hn
      go_wp2_with fail
      refine HCL.out.mono ?_
      rintro e w1 ⟨rfl, hb1⟩
      have hbr2 : Below w.heap.size w w1 := hbr.trans (hb1.mono hbr.size)
      go_wp2_with fail
      go_roundw
      case rel => exact ⟨k + 1, by omega, by go_num, hbr2⟩
      case measure => simp [intOf]; omega
    · go_wp2_with fail
      go_ret
      exact ⟨rfl, hbr⟩
theorem containsf_no (l : PairL) (v : Value) (p : ByteArray × ByteArray) (g : Nat) (w : World) (hv : SRd w v 2 l.length (pairCells l)) (hg0 : w.cell? ⟨g, 0, none⟩ = some (.string p.1)) (hg1 : w.cell? ⟨g, 1, none⟩ = some (.string p.2)) (hgl : g < w.heap.size)
    (hne : ∀ q ∈ l, q.1.data.toList ≠ p.1.data.toList) : Calls Tryd.prog 37 #[v, .func (.func 38) #[] #[.pointer (some ⟨g, 0, none⟩)]] w fun e w' =>
    e = .returned (.bool false) ∧ Below w.heap.size w w' := by
  obtain ⟨A, cap, hvv⟩ : ∃ A cap, v = .slice A l.length cap := by obtain ⟨_, A, cap, hv, _⟩ := hv; exact ⟨A, cap, hv⟩
  have HI := indexf_no l v p g w hv hg0 hg1 hgl hne
  subst hvv
  go_enter Tryd.func37, Tryd.ntmps37
  go_wp2_with fail
  refine HI.mono ?_
  rintro e w1 ⟨rfl, hb⟩
  go_wp2_with fail
  go_ret
  exact ⟨rfl, hb⟩
theorem find_at (l : PairL) (v : Value) (key y : ByteArray) (w : World) (hv : SRd w v 2 l.length (pairCells l)) (hy : findB l key = some y) : Calls Tryd.prog 34 #[v, .string key] w fun e w' =>
    e = .returned (.tuple #[.string y, .bool true]) ∧ Below w.heap.size w w' := by
  refine (find_any l v key w hv).mono ?_
  rintro e w' ⟨rfl, hb⟩
  rw [hy]
  exact ⟨rfl, hb⟩
set_option maxRecDepth 20000 in
set_option maxHeartbeats 4000000 in
theorem findPairs (l : PairL) (v : Value) (p : ByteArray × ByteArray) (w : World) (hv : SRd w v 2 l.length (pairCells l)) (hd : ∀ p ∈ l, psmall p) (h1 : p.1.size ≤ 140737488351232) (h2 : p.2.size ≤ 140737488351232) (hlen : l.length * 32 ≤ 140737488351232) (hL : LaidE w) (hS : w.ShapedOpen Tryd.prog) :
    Calls Tryd.prog 9 #[v, .agg #[.string p.1, .string p.2]] w fun e w' => e = .returned (.bool true) ∧ Below w.heap.size w w' := by
  obtain ⟨p1, p2⟩ := p
  simp only at h1 h2
  obtain ⟨A, cap, rfl⟩ : ∃ A cap, v = .slice A l.length cap := by obtain ⟨_, A, cap, hv, _⟩ := hv; exact ⟨A, cap, hv⟩
  go_enter Tryd.func9, Tryd.ntmps9
  have d0 := (Blk.new w 62 #[.string p1, .string p2]).cell 0
  have d1 := (Blk.new w 62 #[.string p1, .string p2]).cell 1
  have hb0 : Below w.heap.size w (w.alloc (.cells #[.string p1, .string p2] 62)) := (Below.refl _ _).alloc (Nat.le_refl _) _
  go_wp2_with fail
  refine (paired_fact _ (hL.on hb0) (shaped_on hS hb0)).mono ?_
  rintro e w1 ⟨rfl, hb1'⟩
  have hb1 := below_step hb0 hb1'
  have c0 := (hb1'.cell (p := ⟨w.heap.size, 0, none⟩) (by simp)).trans d0
  have c1 := (hb1'.cell (p := ⟨w.heap.size, 1, none⟩) (by simp)).trans d1
  have hgl : w.heap.size < w1.heap.size := Nat.lt_of_lt_of_le (by simp) hb1'.size
  change w1.cell? _ = some (.string p1) at c0
  change w1.cell? _ = some (.string p2) at c1
  have hv1 := hv.on hb1
  clear d0 d1 hb0 hb1' hv hL hS
  go_wp2_with fail
  refine (thick_any l _ _ hv1 hd).mono ?_
  rintro e w2 ⟨bt, rfl, hb2'⟩
  have hb2 := below_step hb1 hb2'
  have hv2 := hv1.on hb2'
  have e0 := (hb2'.cell (p := ⟨w.heap.size, 0, none⟩) hgl).trans c0
  have e1 := (hb2'.cell (p := ⟨w.heap.size, 1, none⟩) hgl).trans c1
  have hgl2 := Nat.lt_of_lt_of_le hgl hb2'.size
  clear c0 c1 hv1 hb1 hb2' hgl
  cases bt
  · go_wp2_with fail
    refine (find_any l _ p1 _ hv2).mono ?_
    rintro e w3 ⟨rfl, hb3'⟩
    have hb3 := below_step hb2 hb3'
    have hv3 := hv2.on hb3'
    have c0 := (hb3'.cell (p := ⟨w.heap.size, 0, none⟩) hgl2).trans e0
    have c1 := (hb3'.cell (p := ⟨w.heap.size, 1, none⟩) hgl2).trans e1
    have hgl3 := Nat.lt_of_lt_of_le hgl2 hb3'.size
    clear e0 e1 hv2 hb2 hb3' hgl2
    have hl1 : (l.length + 1) * 32 ≤ 140737488355328 := by omega
    have hle2 : ∀ (W : World) (o : Obj), W.heap.size ≤ (W.alloc o).heap.size := fun W o => by simp
    have hlt2 : ∀ (W : World) (o : Obj), W.heap.size < (W.alloc o).heap.size := fun W o => by simp
    rcases hf : findB l p1 with _ | x
    · rw [show findV none = .tuple #[.string ⟨#[]⟩, .bool false] from rfl]
      have HF := Lib.hid hf
      have HFA := Lib.hid (show findB (l ++ [(p1, p2)]) p1 = some p2 from by rw [find_append, hf]; simp)
      clear hf
      go_wp2_with fail
      go_region_held3 (fun w' => w'.cell? ⟨w.heap.size, 0, none⟩ = some (.string p1) ∧ w'.cell? ⟨w.heap.size, 1, none⟩ = some (.string p2)) (first | go_keep | exact ⟨k0, k1⟩)
        (first | (go_at_call 35; refine (clone_any l _ _ (by first | exact hv3.on (Below.refl _ _).drew | exact hv3.on ((Below.refl _ _).drew.alloc (by simp) _) | exact hv3.on ((Below.refl _ _).alloc (by simp) _).drew | exact hv3) hlen).mono ?_; rintro e wc ⟨u, rfl, hu, hbc⟩; have hb3c := below_step (a := w3) (show Below w3.heap.size w3 _ by first | exact (Below.refl _ _).drew | exact (Below.refl _ _).drew.alloc (by simp) _ | exact ((Below.refl _ _).alloc (by simp) _).drew | exact Below.refl _ _) hbc; have k0 := (hb3c.cell (p := ⟨w.heap.size, 0, none⟩) hgl3).trans c0; have k1 := (hb3c.cell (p := ⟨w.heap.size, 1, none⟩) hgl3).trans c1) | (refine step_append_many _ (by rfl) _ _ (by rfl) w3.heap.size u l (by rfl) (MRow.more (MRow.alloc hu _) (Nat.le_refl _)) ⟨wc.heap.size, 0, none⟩ 1 (p1, p2) (by rfl) (pcell0 _ _ _ _) (pcell1 _ _ _ _) hl1 (Nat.le_trans hb3c.size (hle2 _ _)) (w0 := w3) (hb3c.alloc hb3c.size _) ?_; intro v4 w4 hr4 hb4 hg4; have k0 := (hb4.cell (p := ⟨w.heap.size, 0, none⟩) hgl3).trans c0; have k1 := (hb4.cell (p := ⟨w.heap.size, 1, none⟩) hgl3).trans c1) | (refine step_append_many _ (by rfl) _ _ (by rfl) w3.heap.size u l (by rfl) (MRow.more hu (hle2 w3 _)) ⟨w3.heap.size, 0, none⟩ 1 (p1, p2) (by rfl) ((hbc.cell (p := (⟨w3.heap.size, 0, none⟩ : Addr).add 0) (hlt2 _ _)).trans (pcell0 w3 _ _ _)) ((hbc.cell (p := (⟨w3.heap.size, 0, none⟩ : Addr).add 1) (hlt2 _ _)).trans (pcell1 w3 _ _ _)) hl1 hb3c.size (w0 := w3) hb3c ?_; intro v4 w4 hr4 hb4 hg4; have k0 := (hb4.cell (p := ⟨w.heap.size, 0, none⟩) hgl3).trans c0; have k1 := (hb4.cell (p := ⟨w.heap.size, 1, none⟩) hgl3).trans c1) | (go_at_call 34; refine (find_at (l ++ [(p1, p2)]) _ p1 _ _ (SRd.of_m hr4) HFA.out).mono ?_; rintro e w5 ⟨rfl, hb5⟩; have k0 := (hb5.cell (p := ⟨w.heap.size, 0, none⟩) (Nat.lt_of_lt_of_le hgl3 hb4.size)).trans k0; have k1 := (hb5.cell (p := ⟨w.heap.size, 1, none⟩) (Nat.lt_of_lt_of_le hgl3 hb4.size)).trans k1))
      all_goals
        have hb5' : Below w3.heap.size w3 w5 := hb4.trans (hb5.mono hb4.size)
        have hv5 := hv3.on hb5'
        have hbw5 := below_step hb3 hb5'
        have hgl5 := Nat.lt_of_lt_of_le hgl3 hb5'.size
        have c0 := k0
        have c1 := k1
        have HN := Lib.hid (find_none HF.out)
        clear hv3 hr4 hu hbc hb4 hb5 hb3c
        go_wp2_with fail
        refine (containsf_no l _ (p1, p2) _ _ hv5 c0 c1 hgl5 HN.out).mono ?_
        rintro e w6 ⟨rfl, hb6⟩
        go_wp2_with fail
        go_ret
        exact ⟨by simp, below_step hbw5 hb6⟩
    · rw [show findV (some x) = .tuple #[.string x, .bool true] from rfl]
      have HF := Lib.hid hf
      have HFA := Lib.hid (show findB (l ++ [(p1, p2)]) p1 = some x from by rw [find_append, hf])
      clear hf
      go_wp2_with fail
      go_region_held3 (fun w' => w'.cell? ⟨w.heap.size, 0, none⟩ = some (.string p1) ∧ w'.cell? ⟨w.heap.size, 1, none⟩ = some (.string p2)) (first | go_keep | exact ⟨k0, k1⟩)
        (first | (go_at_call 35; refine (clone_any l _ _ (by first | exact hv3.on (Below.refl _ _).drew | exact hv3.on ((Below.refl _ _).drew.alloc (by simp) _) | exact hv3.on ((Below.refl _ _).alloc (by simp) _).drew | exact hv3) hlen).mono ?_; rintro e wc ⟨u, rfl, hu, hbc⟩; have hb3c := below_step (a := w3) (show Below w3.heap.size w3 _ by first | exact (Below.refl _ _).drew | exact (Below.refl _ _).drew.alloc (by simp) _ | exact ((Below.refl _ _).alloc (by simp) _).drew | exact Below.refl _ _) hbc; have k0 := (hb3c.cell (p := ⟨w.heap.size, 0, none⟩) hgl3).trans c0; have k1 := (hb3c.cell (p := ⟨w.heap.size, 1, none⟩) hgl3).trans c1) | (refine step_append_many _ (by rfl) _ _ (by rfl) w3.heap.size u l (by rfl) (MRow.more (MRow.alloc hu _) (Nat.le_refl _)) ⟨wc.heap.size, 0, none⟩ 1 (p1, p2) (by rfl) (pcell0 _ _ _ _) (pcell1 _ _ _ _) hl1 (Nat.le_trans hb3c.size (hle2 _ _)) (w0 := w3) (hb3c.alloc hb3c.size _) ?_; intro v4 w4 hr4 hb4 hg4; have k0 := (hb4.cell (p := ⟨w.heap.size, 0, none⟩) hgl3).trans c0; have k1 := (hb4.cell (p := ⟨w.heap.size, 1, none⟩) hgl3).trans c1) | (refine step_append_many _ (by rfl) _ _ (by rfl) w3.heap.size u l (by rfl) (MRow.more hu (hle2 w3 _)) ⟨w3.heap.size, 0, none⟩ 1 (p1, p2) (by rfl) ((hbc.cell (p := (⟨w3.heap.size, 0, none⟩ : Addr).add 0) (hlt2 _ _)).trans (pcell0 w3 _ _ _)) ((hbc.cell (p := (⟨w3.heap.size, 0, none⟩ : Addr).add 1) (hlt2 _ _)).trans (pcell1 w3 _ _ _)) hl1 hb3c.size (w0 := w3) hb3c ?_; intro v4 w4 hr4 hb4 hg4; have k0 := (hb4.cell (p := ⟨w.heap.size, 0, none⟩) hgl3).trans c0; have k1 := (hb4.cell (p := ⟨w.heap.size, 1, none⟩) hgl3).trans c1) | (go_at_call 34; refine (find_at (l ++ [(p1, p2)]) _ p1 _ _ (SRd.of_m hr4) HFA.out).mono ?_; rintro e w5 ⟨rfl, hb5⟩; have k0 := (hb5.cell (p := ⟨w.heap.size, 0, none⟩) (Nat.lt_of_lt_of_le hgl3 hb4.size)).trans k0; have k1 := (hb5.cell (p := ⟨w.heap.size, 1, none⟩) (Nat.lt_of_lt_of_le hgl3 hb4.size)).trans k1))
      all_goals
        have hb5' : Below w3.heap.size w3 w5 := hb4.trans (hb5.mono hb4.size)
        have hv5 := hv3.on hb5'
        have hbw5 := below_step hb3 hb5'
        have c0 := k0
        have c1 := k1
        have HN := Lib.hid (find_some HF.out)
        clear hv3 hr4 hu hbc hb4 hb5 hb3c
        go_wp2_with fail
        refine (contains_yes l _ (p1, x) _ hv5 HN.out).mono ?_
        rintro e w6 ⟨rfl, hb6⟩
        go_wp2_with fail
        go_ret
        exact ⟨by simp, below_step hbw5 hb6⟩
  · go_wp2_with fail
    go_ret
    exact ⟨rfl, hb2⟩
end Go.Proofs.YtlbojhmhcaecjaaDoor
