/- The walk of the law ChapUsers. -/
import Derived.Test.YtlbojhmhcaecjaaDoorUserRow
import Derived.Deep.RegionHeld3
namespace Go.Proofs.YtlbojhmhcaecjaaDoor
open Go.ChangeShapes Go.WideShapes Go.ChangeAt Go.RowKit
set_option linter.unusedVariables false
theorem findU_append (l : PairL) (p : ByteArray × ByteArray) (k : ByteArray) (h : findU l k ≠ none ∨ p.1.data.toList ≠ k.data.toList) : findU (l ++ [p]) k = findU l k := by
  induction l with
  | nil =>
    rcases h with h | h
    · exact absurd rfl h
    · simp [findU, h]
  | cons q l ih =>
    rw [List.cons_append, findU, findU]
    by_cases e : q.1.data.toList = k.data.toList
    · rw [if_pos e, if_pos e]
    · rw [if_neg e, if_neg e]
      exact ih (by rw [findU, if_neg e] at h; exact h)
theorem checkN_append (l : PairL) (p : ByteArray × ByteArray) (name value : ByteArray) (id : Int) (ch : ByteArray) (h : findU l name ≠ none ∨ p.1.data.toList ≠ name.data.toList) : checkN (l ++ [p]) name value id ch = checkN l name value id ch := by
  rw [checkN, checkN, findU_append _ _ _ h]
theorem du_on {g : Nat} {v0 v1 v2 v3 : Value} {a b : World} (hb : Below a.heap.size a b) (hg : g + 1 < a.heap.size)
    (h : a.cell? ⟨g, 0, none⟩ = some v0 ∧ a.cell? ⟨g, 1, none⟩ = some v1 ∧ a.cell? ⟨g + 1, 0, none⟩ = some v2 ∧ a.cell? ⟨g + 1, 1, none⟩ = some v3) :
    b.cell? ⟨g, 0, none⟩ = some v0 ∧ b.cell? ⟨g, 1, none⟩ = some v1 ∧ b.cell? ⟨g + 1, 0, none⟩ = some v2 ∧ b.cell? ⟨g + 1, 1, none⟩ = some v3 :=
  ⟨(hb.cell (p := ⟨g, 0, none⟩) (Nat.lt_of_succ_lt hg)).trans h.1, (hb.cell (p := ⟨g, 1, none⟩) (Nat.lt_of_succ_lt hg)).trans h.2.1, (hb.cell (p := ⟨g + 1, 0, none⟩) hg).trans h.2.2.1, (hb.cell (p := ⟨g + 1, 1, none⟩) hg).trans h.2.2.2⟩
theorem check_to (N : Nat) (l : PairL) (v : Value) (name value ch : ByteArray) (id : Int) (h : checkN l name value id ch = N) (w : World) (hL : LaidE w) (hv : SRd w v 2 l.length (pairCells l)) (hl : ∀ p ∈ l, p.2.size ≤ 1000000) (hval : value.size ≤ 1000000) (hch : ch.size ≤ 1000000) :
    Calls Tryd.prog 24 #[v, .string name, .string value, .agg #[.int .i64 id, .string ch]] w fun e w' => e = .returned (errv N) ∧ Below w.heap.size w w' := by
  rw [← h]
  exact check_any l v name value ch id w hL hv hl hval hch
set_option maxRecDepth 20000 in
set_option maxHeartbeats 4000000 in
theorem usersChap (l : PairL) (v : Value) (name value : ByteArray) (d : Int × ByteArray) (u : ByteArray × ByteArray) (w : World) (hv : SRd w v 2 l.length (pairCells l)) (hd : ∀ p ∈ l, psmall p) (hn : name.size ≤ 140737488351232) (hva : value.size ≤ 140737488351232)
    (hd1 : -9223372036854775808 ≤ d.1 ∧ d.1 ≤ 9223372036854775807) (hd2 : d.2.size ≤ 140737488351232) (hu1 : u.1.size ≤ 140737488351232) (hu2 : u.2.size ≤ 140737488351232) (hL : LaidE w) (hS : w.ShapedOpen Tryd.prog) :
    Calls Tryd.prog 6 #[v, .string name, .string value, .agg #[.int .i64 d.1, .string d.2], .agg #[.string u.1, .string u.2]] w fun e w' => e = .returned (.bool true) ∧ Below w.heap.size w w' := by
  clear hS
  obtain ⟨id, ch⟩ := d
  obtain ⟨u1, u2⟩ := u
  simp only at hd1 hd2 hu1 hu2
  obtain ⟨A, cap, rfl⟩ : ∃ A cap, v = .slice A l.length cap := by obtain ⟨_, A, cap, hv, _⟩ := hv; exact ⟨A, cap, hv⟩
  go_enter Tryd.func6, Tryd.ntmps6
  go_wp2_with fail
  have hb0 : Below w.heap.size w ((w.alloc (.cells #[.int .i64 id, .string ch] 44)).alloc (.cells #[.string u1, .string u2] 46)) := ((Below.refl _ _).alloc (Nat.le_refl _) _).alloc (by simp) _
  have hBd := (Blk.new w 44 #[.int .i64 id, .string ch]).alloc (.cells #[.string u1, .string u2] 46)
  have hBu : Blk ((w.alloc (.cells #[.int .i64 id, .string ch] 44)).alloc (.cells #[.string u1, .string u2] 46)) (w.heap.size + 1) 46 #[.string u1, .string u2] := by
    have := Blk.new (w.alloc (.cells #[.int .i64 id, .string ch] 44)) 46 #[.string u1, .string u2]
    simpa using this
  obtain ⟨w0, hw0⟩ : ∃ w0 : World, (w.alloc (.cells #[.int .i64 id, .string ch] 44)).alloc (.cells #[.string u1, .string u2] 46) = w0 := ⟨_, rfl⟩
  rw [hw0] at hb0 hBd hBu ⊢
  clear hw0
  have K0 : w0.cell? ⟨w.heap.size, 0, none⟩ = some (.int .i64 id) ∧ w0.cell? ⟨w.heap.size, 1, none⟩ = some (.string ch) ∧ w0.cell? ⟨w.heap.size + 1, 0, none⟩ = some (.string u1) ∧ w0.cell? ⟨w.heap.size + 1, 1, none⟩ = some (.string u2) :=
    ⟨hBd.cell 0, hBd.cell 1, hBu.cell 0, hBu.cell 1⟩
  have hg0 : w.heap.size + 1 < w0.heap.size := hBu.lt
  clear hBd hBu
  refine (proved_fact _ (hL.on hb0)).mono ?_
  rintro e w1 ⟨rfl, hb1'⟩
  have hb1 := below_step hb0 hb1'
  have K1 := du_on hb1' hg0 K0
  have hg1 := Nat.lt_of_lt_of_le hg0 hb1'.size
  have hv1 := hv.on hb1
  have hL1 := hL.on hb1
  clear hb0 K0 hb1' hg0 hv hL
  have Kc := K1
  obtain ⟨c0, c1, c2, c3⟩ := Kc
  by_cases h30 : 30 < l.length
  · go_wp2_with fail
    go_ret
    exact ⟨rfl, hb1⟩
  by_cases h6 : 600 < name.size + value.size + ch.size + u1.size + u2.size
  · go_wp2_with fail
    go_ret
    exact ⟨rfl, hb1⟩
  have HD := Lib.hid hd
  clear hd
  have hv1' := hv1
  obtain ⟨hlen, A', cap', hAA, hcap, hmax, hcell⟩ := hv1'
  injection hAA with hA1 hA2 hA3
  subst hA1 hA3
  have HC := Lib.hid hcell
  unfold maxLen at hmax
  clear hcell hlen hA2
  go_wp2_with fail
  go_loopw [44] (fun i wr => ∃ k : Nat, k ≤ l.length ∧ i = .int .i64 k ∧ (∀ p ∈ l.take k, p.1.size + p.2.size ≤ 300) ∧ Below w1.heap.size w1 wr) (fun i _ => l.length - (intOf i).toNat)
  case atStart => exact ⟨0, Nat.zero_le _, rfl, fun p hp => by simp at hp, Below.refl _ _⟩
  case round =>
    obtain ⟨k, hk, rfl, hgo, hbw⟩ := hrel
    have HG := Lib.hid hgo
    clear hgo
    have hs0 := hbw.size
    by_cases hlt : k < l.length
    · obtain ⟨p, hp⟩ : ∃ p, l[k]? = some p := ⟨_, List.getElem?_eq_getElem hlt⟩
      obtain ⟨b, o, rfl, hbl, hcc⟩ := HC.out (by omega)
      have hc := pairCells_at l k p hp
      have e0 := (hbw.cell (p := ⟨b, o + 2 * k, none⟩) hbl).trans (hcc _ _ hc.1)
      have e1 := (hbw.cell (p := ⟨b, o + (2 * k + 1), none⟩) hbl).trans (hcc _ _ hc.2)
      rw [Nat.mul_comm] at e0 e1
      rw [← Nat.add_assoc] at e1
      have hps := HD.out p (List.mem_of_getElem? hp)
      have htk : l.take (k + 1) = l.take k ++ [p] := by
        rw [List.take_succ_eq_append_getElem hlt]
        rw [List.getElem?_eq_getElem hlt] at hp
        rw [Option.some.inj hp]
      have HT := Lib.hid htk
      clear hc hcc hp htk
      obtain ⟨p1, p2⟩ := p
      obtain ⟨hq1, hq2⟩ := hps
      simp only at e0 e1 hq1 hq2
      by_cases h3 : 300 < p1.size + p2.size
      · go_wp2_with fail
        go_ret
        exact ⟨rfl, (below_step hb1 hbw).alloc (below_step hb1 hbw).size _⟩
      · go_wp2_with fail
        go_roundw
        case rel =>
          refine ⟨k + 1, by omega, by go_num, ?_, hbw.alloc hs0 _⟩
          intro p hp
          rw [HT.out, List.mem_append, List.mem_singleton] at hp
          rcases hp with hp | rfl
          · exact HG.out p hp
          · simp only; omega
        case measure => simp [intOf]; omega
    · have hsm : ∀ p ∈ l, p.1.size + p.2.size ≤ 300 := by
        intro p hp
        refine HG.out p ?_
        rw [List.take_of_length_le (by omega)]
        exact hp
      have HSM := Lib.hid (show ∀ p ∈ l, p.2.size ≤ 1000000 from fun p hp => by have := hsm p hp; omega)
      have hSm2 : ∀ p ∈ l ++ [(u1, u2)], p.2.size ≤ 1000000 := by
        intro p hp
        rw [List.mem_append, List.mem_singleton] at hp
        rcases hp with hp | rfl
        · have := hsm p hp; omega
        · simp only; omega
      have HSM2 := Lib.hid hSm2
      have K2 := du_on hbw hg1 K1
      have hv2 := hv1.on hbw
      have hL2 := hL1.on hbw
      have hg2 := Nat.lt_of_lt_of_le hg1 hbw.size
      have hb2 := below_step hb1 hbw
      clear hsm hSm2 HG HC HD hbw K1 hv1 hL1 hg1 hb1 hs0 c0 c1 c2 c3
      obtain ⟨w2, rfl⟩ : ∃ w2 : World, w2 = wr := ⟨_, rfl⟩
      have Kc := K2
      obtain ⟨c0, c1, c2, c3⟩ := Kc
      go_wp2_with fail
      refine (findU_any l _ name _ hv2).mono ?_
      rintro e w3 ⟨rfl, hb3'⟩
      have K3 := du_on hb3' hg2 K2
      have hv3 := hv2.on hb3'
      have hL3 := hL2.on hb3'
      have hg3 := Nat.lt_of_lt_of_le hg2 hb3'.size
      have hb3 := below_step hb2 hb3'
      clear K2 hv2 hL2 hg2 hb2 hb3' c0 c1 c2 c3
      have Kc := K3
      obtain ⟨c0, c1, c2, c3⟩ := Kc
      rcases hf : findU l name with _ | ⟨x1, x2⟩
      · rw [show findUV none = .tuple #[.agg #[.string ⟨#[]⟩, .string ⟨#[]⟩], .bool false] from rfl]
        by_cases hu : u1.data.toList = name.data.toList
        · have f1 : (u1.toList == name.toList) = true := by rw [toList_of, toList_of, hu]; simp
          clear hu hf
          go_wp2_with fail
          go_ret
          exact ⟨rfl, hb3.alloc hb3.size _⟩
        · have hCN := checkN_append l (u1, u2) name value id ch (.inr hu)
          have f1 : (u1.toList == name.toList) = false := by rw [toList_of, toList_of]; simpa using hu
          clear hu hf
          obtain ⟨N, hN⟩ : ∃ N, checkN l name value id ch = N := ⟨_, rfl⟩
          rw [hN] at hCN
          have HN := Lib.hid hN
          have HN2 := Lib.hid hCN
          clear hN hCN
          have Ka := du_on ((Below.refl w3.heap.size w3).alloc (Nat.le_refl _) (.cells #[.string ⟨#[]⟩, .string ⟨#[]⟩] 46)) hg3 K3
          obtain ⟨a0, a1, a2, a3⟩ := Ka
          go_wp2_with fail
          refine (check_to N l _ name value ch id HN.out _ (hL3.alloc _) (hv3.on ((Below.refl _ _).alloc (Nat.le_refl _) _)) HSM.out (by omega) (by omega)).mono ?_
          rintro e w4 ⟨rfl, hb4'⟩
          have hb3a := ((Below.refl w3.heap.size w3).alloc (Nat.le_refl _) (.cells #[.string ⟨#[]⟩, .string ⟨#[]⟩] 46)).trans (hb4'.mono (by simp))
          have hb4 := below_step hb3 hb3a
          have K4 := du_on hb3a hg3 K3
          have hv4 := hv3.on hb3a
          have hL4 := hL3.on hb3a
          have hg4 := Nat.lt_of_lt_of_le hg3 hb3a.size
          clear hb3 hb3a hb4' K3 hv3 hL3 hg3 c0 c1 c2 c3 a0 a1 a2 a3
          go_wp2_with fail
          refine (tell_errv N _ hL4).mono ?_
          rintro e w5 ⟨rfl, hb5'⟩
          have hb5 := below_step hb4 hb5'
          have K5 := du_on hb5' hg4 K4
          have hv5 := hv4.on hb5'
          have hL5 := hL4.on hb5'
          have hg5 := Nat.lt_of_lt_of_le hg4 hb5'.size
          clear hb4 hb5' K4 hv4 hL4 hg4
          obtain ⟨c0, c1, c2, c3⟩ := K5
          have K5 : w5.cell? ⟨w.heap.size, 0, none⟩ = some (.int .i64 id) ∧ w5.cell? ⟨w.heap.size, 1, none⟩ = some (.string ch) ∧ w5.cell? ⟨w.heap.size + 1, 0, none⟩ = some (.string u1) ∧ w5.cell? ⟨w.heap.size + 1, 1, none⟩ = some (.string u2) := ⟨c0, c1, c2, c3⟩
          have HK5 := Lib.hid K5
          clear K5
          have hlen : l.length * 32 ≤ 140737488351232 := by omega
          have hl1 : (l.length + 1) * 32 ≤ 140737488355328 := by omega
          have hle2 : ∀ (W : World) (o : Obj), W.heap.size ≤ (W.alloc o).heap.size := fun W o => by simp
          have hlt2 : ∀ (W : World) (o : Obj), W.heap.size < (W.alloc o).heap.size := fun W o => by simp
          go_wp2_with fail
          go_region_held3 (fun w' => w'.cell? ⟨w.heap.size, 0, none⟩ = some (.int .i64 id) ∧ w'.cell? ⟨w.heap.size, 1, none⟩ = some (.string ch) ∧ w'.cell? ⟨w.heap.size + 1, 0, none⟩ = some (.string u1) ∧ w'.cell? ⟨w.heap.size + 1, 1, none⟩ = some (.string u2)) (first | go_keep | exact ⟨k0, k1, k2, k3⟩)
            (first | (go_at_call 25; refine (clone_user l _ _ (by first | exact hv5.on (Below.refl _ _).drew | exact hv5.on ((Below.refl _ _).drew.alloc (by simp) _) | exact hv5.on ((Below.refl _ _).alloc (by simp) _).drew | exact hv5) hlen).mono ?_; rintro e wc ⟨uu, rfl, hu, hbc⟩; have hb5c := below_step (a := w5) (show Below w5.heap.size w5 _ by first | exact (Below.refl _ _).drew | exact (Below.refl _ _).drew.alloc (by simp) _ | exact ((Below.refl _ _).alloc (by simp) _).drew | exact Below.refl _ _) hbc; obtain ⟨k0, k1, k2, k3⟩ := du_on hb5c hg5 HK5.out) | (refine step_append_user _ (by rfl) _ _ (by rfl) w5.heap.size uu l (by rfl) (MRow.more (MRow.alloc hu _) (Nat.le_refl _)) ⟨wc.heap.size, 0, none⟩ 1 (u1, u2) (by rfl) (ucell0 _ _ _ _) (ucell1 _ _ _ _) hl1 (Nat.le_trans hb5c.size (hle2 _ _)) (w0 := w5) (hb5c.alloc hb5c.size _) ?_; intro v6 w6 hr6 hb6 hg6; obtain ⟨k0, k1, k2, k3⟩ := du_on hb6 hg5 HK5.out) | (refine step_append_user _ (by rfl) _ _ (by rfl) w5.heap.size uu l (by rfl) (MRow.more hu (hle2 w5 _)) ⟨w5.heap.size, 0, none⟩ 1 (u1, u2) (by rfl) ((hbc.cell (p := (⟨w5.heap.size, 0, none⟩ : Addr).add 0) (hlt2 _ _)).trans (ucell0 w5 _ _ _)) ((hbc.cell (p := (⟨w5.heap.size, 0, none⟩ : Addr).add 1) (hlt2 _ _)).trans (ucell1 w5 _ _ _)) hl1 hb5c.size (w0 := w5) hb5c ?_; intro v6 w6 hr6 hb6 hg6; obtain ⟨k0, k1, k2, k3⟩ := du_on hb6 hg5 HK5.out) | (go_at_call 24; refine (check_to N (l ++ [(u1, u2)]) _ name value ch id HN2.out _ (hL5.on hb6) (SRd.of_m hr6) HSM2.out (by omega) (by omega)).mono ?_; rintro e w7 ⟨rfl, hb7⟩; have hb57 := hb6.trans (hb7.mono hb6.size); obtain ⟨k0, k1, k2, k3⟩ := du_on hb57 hg5 HK5.out) | (go_at_call 17; refine (tell_errv N _ (hL5.on hb57)).mono ?_; rintro e w8 ⟨rfl, hb8⟩; have hb58 := hb57.trans (hb8.mono hb57.size); obtain ⟨k0, k1, k2, k3⟩ := du_on hb58 hg5 HK5.out))
          all_goals
            have hbw8 := below_step hb5 hb58
            clear hv5 hr6 hu hbc hb6 hb7 hb5c hb57 hb8 hb58
            go_wp2_with fail
            go_ret
            exact ⟨by simp, hbw8⟩
      · have hCN := checkN_append l (u1, u2) name value id ch (.inl (by rw [hf]; simp))
        rw [show findUV (some (x1, x2)) = .tuple #[.agg #[.string x1, .string x2], .bool true] from rfl]
        clear hf
        obtain ⟨N, hN⟩ : ∃ N, checkN l name value id ch = N := ⟨_, rfl⟩
        rw [hN] at hCN
        have HN := Lib.hid hN
        have HN2 := Lib.hid hCN
        clear hN hCN
        have Ka := du_on ((Below.refl w3.heap.size w3).alloc (Nat.le_refl _) (.cells #[.string x1, .string x2] 46)) hg3 K3
        obtain ⟨a0, a1, a2, a3⟩ := Ka
        go_wp2_with fail
        refine (check_to N l _ name value ch id HN.out _ (hL3.alloc _) (hv3.on ((Below.refl _ _).alloc (Nat.le_refl _) _)) HSM.out (by omega) (by omega)).mono ?_
        rintro e w4 ⟨rfl, hb4'⟩
        have hb3a := ((Below.refl w3.heap.size w3).alloc (Nat.le_refl _) (.cells #[.string x1, .string x2] 46)).trans (hb4'.mono (by simp))
        have hb4 := below_step hb3 hb3a
        have K4 := du_on hb3a hg3 K3
        have hv4 := hv3.on hb3a
        have hL4 := hL3.on hb3a
        have hg4 := Nat.lt_of_lt_of_le hg3 hb3a.size
        clear hb3 hb3a hb4' K3 hv3 hL3 hg3 c0 c1 c2 c3 a0 a1 a2 a3
        go_wp2_with fail
        refine (tell_errv N _ hL4).mono ?_
        rintro e w5 ⟨rfl, hb5'⟩
        have hb5 := below_step hb4 hb5'
        have K5 := du_on hb5' hg4 K4
        have hv5 := hv4.on hb5'
        have hL5 := hL4.on hb5'
        have hg5 := Nat.lt_of_lt_of_le hg4 hb5'.size
        clear hb4 hb5' K4 hv4 hL4 hg4
        obtain ⟨c0, c1, c2, c3⟩ := K5
        have K5 : w5.cell? ⟨w.heap.size, 0, none⟩ = some (.int .i64 id) ∧ w5.cell? ⟨w.heap.size, 1, none⟩ = some (.string ch) ∧ w5.cell? ⟨w.heap.size + 1, 0, none⟩ = some (.string u1) ∧ w5.cell? ⟨w.heap.size + 1, 1, none⟩ = some (.string u2) := ⟨c0, c1, c2, c3⟩
        have HK5 := Lib.hid K5
        clear K5
        have hlen : l.length * 32 ≤ 140737488351232 := by omega
        have hl1 : (l.length + 1) * 32 ≤ 140737488355328 := by omega
        have hle2 : ∀ (W : World) (o : Obj), W.heap.size ≤ (W.alloc o).heap.size := fun W o => by simp
        have hlt2 : ∀ (W : World) (o : Obj), W.heap.size < (W.alloc o).heap.size := fun W o => by simp
        go_wp2_with fail
        go_region_held3 (fun w' => w'.cell? ⟨w.heap.size, 0, none⟩ = some (.int .i64 id) ∧ w'.cell? ⟨w.heap.size, 1, none⟩ = some (.string ch) ∧ w'.cell? ⟨w.heap.size + 1, 0, none⟩ = some (.string u1) ∧ w'.cell? ⟨w.heap.size + 1, 1, none⟩ = some (.string u2)) (first | go_keep | exact ⟨k0, k1, k2, k3⟩)
          (first | (go_at_call 25; refine (clone_user l _ _ (by first | exact hv5.on (Below.refl _ _).drew | exact hv5.on ((Below.refl _ _).drew.alloc (by simp) _) | exact hv5.on ((Below.refl _ _).alloc (by simp) _).drew | exact hv5) hlen).mono ?_; rintro e wc ⟨uu, rfl, hu, hbc⟩; have hb5c := below_step (a := w5) (show Below w5.heap.size w5 _ by first | exact (Below.refl _ _).drew | exact (Below.refl _ _).drew.alloc (by simp) _ | exact ((Below.refl _ _).alloc (by simp) _).drew | exact Below.refl _ _) hbc; obtain ⟨k0, k1, k2, k3⟩ := du_on hb5c hg5 HK5.out) | (refine step_append_user _ (by rfl) _ _ (by rfl) w5.heap.size uu l (by rfl) (MRow.more (MRow.alloc hu _) (Nat.le_refl _)) ⟨wc.heap.size, 0, none⟩ 1 (u1, u2) (by rfl) (ucell0 _ _ _ _) (ucell1 _ _ _ _) hl1 (Nat.le_trans hb5c.size (hle2 _ _)) (w0 := w5) (hb5c.alloc hb5c.size _) ?_; intro v6 w6 hr6 hb6 hg6; obtain ⟨k0, k1, k2, k3⟩ := du_on hb6 hg5 HK5.out) | (refine step_append_user _ (by rfl) _ _ (by rfl) w5.heap.size uu l (by rfl) (MRow.more hu (hle2 w5 _)) ⟨w5.heap.size, 0, none⟩ 1 (u1, u2) (by rfl) ((hbc.cell (p := (⟨w5.heap.size, 0, none⟩ : Addr).add 0) (hlt2 _ _)).trans (ucell0 w5 _ _ _)) ((hbc.cell (p := (⟨w5.heap.size, 0, none⟩ : Addr).add 1) (hlt2 _ _)).trans (ucell1 w5 _ _ _)) hl1 hb5c.size (w0 := w5) hb5c ?_; intro v6 w6 hr6 hb6 hg6; obtain ⟨k0, k1, k2, k3⟩ := du_on hb6 hg5 HK5.out) | (go_at_call 24; refine (check_to N (l ++ [(u1, u2)]) _ name value ch id HN2.out _ (hL5.on hb6) (SRd.of_m hr6) HSM2.out (by omega) (by omega)).mono ?_; rintro e w7 ⟨rfl, hb7⟩; have hb57 := hb6.trans (hb7.mono hb6.size); obtain ⟨k0, k1, k2, k3⟩ := du_on hb57 hg5 HK5.out) | (go_at_call 17; refine (tell_errv N _ (hL5.on hb57)).mono ?_; rintro e w8 ⟨rfl, hb8⟩; have hb58 := hb57.trans (hb8.mono hb57.size); obtain ⟨k0, k1, k2, k3⟩ := du_on hb58 hg5 HK5.out))
        all_goals
          have hbw8 := below_step hb5 hb58
          clear hv5 hr6 hu hbc hb6 hb7 hb5c hb57 hb8 hb58
          go_wp2_with fail
          go_ret
          exact ⟨by simp, hbw8⟩
end Go.Proofs.YtlbojhmhcaecjaaDoor
