/- The walk of NegoLater. -/
import Derived.Test.YtadhlnpegigadaaGreatDoorNegoAnswerG
import Derived.Test.YtadhlnpegigadaaGreatDoorNegoTwo
namespace Go.Proofs.YtadhlnpegigadaaGreatDoor
open Go.ChangeShapes Go.WideShapes Go.ChangeAt Go.RowKit Go.Shelf
set_option linter.unusedVariables false
def ia : ByteArray := ⟨#[73, 110, 105, 116, 105, 97, 116, 111, 114, 65, 108, 105, 97, 115]⟩
theorem ia_row : ∃ r, keyRow ia.data.toList = some r ∧ r.kind = 6 ∧ r.lonly = false := by
  have h : (keyRow ia.data.toList).map (fun r => (r.kind, r.lonly)) = some (6, false) := by decide +kernel
  rcases hr : keyRow ia.data.toList with _ | r
  · rw [hr] at h; cases h
  · rw [hr] at h
    have h2 := Option.some.inj h
    injection h2 with h3 h4
    exact ⟨r, rfl, h3, h4⟩
theorem ia_key : keyB ia.data.toList = true := by decide +kernel
theorem ia_ans (own : PairL) (b : ByteArray) (hb : b.data.toList ≠ []) : (ansP own false false (ia, b)).2 = b.data.toList := by
  obtain ⟨r, hr, h6, hl⟩ := ia_row
  have hf : fitsE (kB (ia, b)) (vB (ia, b)) = 0 := by
    unfold fitsE
    show (match keyRow ia.data.toList with | none => 5 | some r => fitsR r b.data.toList) = 0
    rw [hr]
    unfold fitsR
    simp [h6, hb]
  unfold ansP
  show (match keyRow ia.data.toList with | none => (notU, []) | some r => ansR own false false r (ia, b)).2 = _
  rw [hr]
  show (ansR own false false r (ia, b)).2 = _
  unfold ansR
  rw [if_neg (by simp [hl]), if_neg (by simp), if_neg (by simp [hf]), if_pos (Or.inl h6)]
  rfl
theorem ia_ansE (rc : PairL) (a : ByteArray) (ha : valB a.data.toList = true) : ansE rc [(ia, a)] false = none :=
  (ansE_none _ _ _).2 ⟨by simp, fun p hp => by obtain rfl := List.mem_singleton.1 hp; exact ⟨ia_key, ha⟩, fun h => (by cases h), by simp [KD]⟩
theorem ansRc_lonly (own off : PairL) : ∀ q ∈ ansRc own [] off false false, ∃ r, keyRow (kB q) = some r ∧ r.lonly = false := by
  unfold ansRc
  rcases ansE [] off false with _ | E
  · exact recL_lonly own false off [] fun q hq => by cases hq
  · exact fun q hq => by cases hq
theorem ans_argG (g : Nat) (S : List Nat) (own rc offers : PairL) (login disc : Bool) (v : Value) (w wi : World) (V : Env w) (hbw : Below w.heap.size w wi) (hN : NegoH wi S g own rc) (hS : ∀ k ∈ S, w.heap.size ≤ k) (hv : SRd w v 2 offers.length (pairCells offers)) (hd : ∀ p ∈ offers, psmall p)
    (hnew : nNewR own = none) (hrc : rc.length ≤ 100000) :
    Calls Tryz.prog 30 #[.pointer (some ⟨g, 0, none⟩), v, .bool login, .bool disc] wi fun e w' => AnsIs wi S g own rc offers login disc e w' (ansE rc offers login) :=
  nanswer_gen g S own rc offers login disc v wi w hN (hv.on hbw) (srd_far hv hS) hd (own_ok hnew).1 hrc V hbw hS
set_option maxRecDepth 20000 in
set_option maxHeartbeats 8000000 in
theorem laterNego (own : PairL) (vo : Value) (off : PairL) (vf : Value) (a b : ByteArray) (w : World) (hv : SRd w vo 2 own.length (pairCells own)) (hd : ∀ p ∈ own, psmall p) (hv2 : SRd w vf 2 off.length (pairCells off)) (hd2 : ∀ p ∈ off, psmall p) (ha : a.size ≤ 140737488351232) (hb : b.size ≤ 140737488351232) (V : Env w) :
    Calls Tryz.prog 7 #[vo, vf, .string a, .string b] w fun e w' => e = .returned (.bool true) ∧ Below w.heap.size w w' := by
  obtain ⟨ra, hra, _, _⟩ := ia_row
  have HRA := Lib.hid hra
  clear hra
  go_enter Tryz.func7, Tryz.ntmps7
  go_wp2_with fail
  refine (settled_fact _ V).mono ?_
  rintro e w1 ⟨rfl, hb1⟩
  have V1 := V.on hb1
  go_wp2_with fail
  refine (keyed_fact _ V1).mono ?_
  rintro e w1b ⟨rfl, hb1b⟩
  have hb1w := below_step hb1 hb1b
  have V1b := V.on hb1w
  go_wp2_with fail
  refine (made_any own _ _ (hv.on hb1w) hd V1b).mono ?_
  rintro e w2 ⟨hm, hb2⟩
  have hb2w := below_step hb1w hb2
  rcases hm with rfl | ⟨S, g, rfl, hN, hS, hnew⟩
  · go_wp2_with fail
    go_ret
    exact ⟨rfl, hb2w⟩
  have hS0 : ∀ k ∈ S, w.heap.size ≤ k := fun k hk => Nat.le_trans hb1w.size (hS k hk)
  go_wp2_with fail
  refine (thick_any off _ _ (hv2.on hb2w) hd2).mono ?_
  rintro e w4 ⟨b0, rfl, hb4⟩
  have hb4w := below_step hb2w hb4
  have hN4 := hN.on hb4
  rcases b0 with _ | _
  rotate_left
  · go_wp2_with fail
    go_ret
    exact ⟨rfl, hb4w⟩
  obtain ⟨va, hva⟩ : ∃ x, valB a.data.toList = x := ⟨_, rfl⟩
  obtain ⟨vb, hvb⟩ : ∃ x, valB b.data.toList = x := ⟨_, rfl⟩
  have HVA := Lib.hid hva
  have HVB := Lib.hid hvb
  have hca := value_any a w4 ha
  have hcb := value_any b w4 hb
  rw [hva] at hca
  rw [hvb] at hcb
  clear hva hvb hN
  rcases va with _ | _
  · go_wp2_with fail
    refine hca.mono ?_
    rintro e w' ⟨rfl, rfl⟩
    go_wp2_with fail
    go_ret
    exact ⟨rfl, hb4w⟩
  rcases vb with _ | _
  · go_wp2_with fail
    refine hca.mono ?_
    rintro e w' ⟨rfl, rfl⟩
    go_wp2_with fail
    refine hcb.mono ?_
    rintro e w' ⟨rfl, rfl⟩
    go_wp2_with fail
    go_ret
    exact ⟨rfl, hb4w⟩
  go_wp2_with fail
  refine hca.mono ?_
  rintro e w' ⟨rfl, rfl⟩
  go_wp2_with fail
  refine hcb.mono ?_
  rintro e w' ⟨rfl, rfl⟩
  go_wp2_with fail
  refine (ans_argG g S own [] off false false _ w w4 V hb4w hN4 hS0 hv2 hd2 hnew (by simp)).mono ?_
  rintro e w5 he
  obtain ⟨S5, u5, er5, rfl, hu5, _, hN5, hnf5, hS5, _, _⟩ := ans_gen hN4 he
  obtain ⟨hb5w, hS50⟩ := ans_after hb4w hS0 hnf5 hS5
  have hlon := ansRc_lonly own off
  have hrl : (ansRc own [] off false false).length ≤ 60 := by have := ansRc_len (own := own) (rc := []) (offers := off) (login := false) (disc := false); simpa using this
  obtain ⟨R, hR⟩ : ∃ R, ansRc own [] off false false = R := ⟨_, rfl⟩
  rw [hR] at hlon hrl hN5
  have HLON := Lib.hid hlon
  clear he hu5 hnf5 hS5 hN4 hR hca hcb hlon
  go_wp2_with fail
  refine (nrec_any g S5 own R _ hN5 (by omega)).mono ?_
  rintro e w6 ⟨v6, rfl, hr6, hb6⟩
  have hN6 := hN5.on hb6
  have hb6w := below_step hb5w hb6
  have hrd6 := SRd.of_m hr6
  obtain ⟨A6, cap6, rfl, _⟩ := hr6.form
  obtain ⟨n, hn⟩ : ∃ n, R.length = n := ⟨_, rfl⟩
  have HN := Lib.hid hn
  rw [hn] at hrl ⊢
  have HRD := Lib.hid hrd6
  clear hr6 hrd6 hN5 hn
  go_wp2_with fail
  go_loopw [53] (fun i wr => ∃ k : Nat, k ≤ n ∧ i = .int .i64 k ∧ Below w6.heap.size w6 wr) (fun i _ => n - (intOf i).toNat)
  case atStart => exact ⟨0, Nat.zero_le _, rfl, Below.refl _ _⟩
  case round =>
    obtain ⟨k, hk, rfl, hbr⟩ := hrel
    have hbrw := below_step hb6w hbr
    by_cases hlt : k < n
    · obtain ⟨q, hq⟩ : ∃ q, R[k]? = some q := ⟨_, List.getElem?_eq_getElem (by rw [HN.out]; exact hlt)⟩
      obtain ⟨r, hr, hrl2⟩ := HLON.out q (List.mem_of_getElem? hq)
      obtain ⟨bb, o, cp, u0, u1, hvv, hbl, q0, q1, c0, c1⟩ := (HRD.out.on hbr).two (k := k) (by rw [HN.out]; exact hlt)
      have hcell := pairCells_at R k q hq
      rw [hcell.1] at q0
      rw [hcell.2] at q1
      obtain rfl := Option.some.inj q0
      obtain rfl := Option.some.inj q1
      injection hvv with g1 g2 g3
      subst g1
      subst g3
      obtain ⟨p1, p2⟩ := q
      simp only at c0 c1
      have hr' : keyRow p1.data.toList = some r := hr
      obtain ⟨D, hD⟩ : ∃ D, ba (dfl r) = D := ⟨_, rfl⟩
      have HR := Lib.hid hr'
      have HL := Lib.hid hrl2
      have HD := Lib.hid hD
      have hba : Below wr.heap.size wr (wr.alloc (.cells #[.string p1, .string p2] 52)) := (Below.refl _ _).alloc (Nat.le_refl _) _
      have hBa := Blk.new wr 52 #[.string p1, .string p2]
      obtain ⟨z, hzz⟩ : ∃ z, wr.heap.size = z := ⟨_, rfl⟩
      rw [hzz] at hBa
      have hb6a := below_step hbr hba
      have Va := V.on (below_step hbrw hba)
      obtain ⟨wa, hwa⟩ : ∃ wa : World, wr.alloc (.cells #[.string p1, .string p2] 52) = wa := ⟨_, rfl⟩
      rw [hwa] at hBa hb6a Va hba
      have z0 := hBa.cell 0
      clear hq hr hr' hrl2 hcell hD g2
      go_wp2_with fail
      refine (of_some p1 r _ D _ false _ HR.out rfl HD.out rfl HL.out Va.T).mono ?_
      rintro e w7 ⟨rfl, hb7⟩
      have hb67 := below_step hb6a hb7
      have hbK : Below w7.heap.size w7 (w7.alloc (.cells #[.string ⟨r.name.toArray⟩, .int .i64 r.kind, .int .i64 r.low, .int .i64 r.high, .string D, .bool r.noth, .bool false] 58)) := (Below.refl _ _).alloc (Nat.le_refl _) _
      have hb68 := below_step hb67 hbK
      go_wp2_with fail
      go_roundw
      case rel => exact ⟨k + 1, by omega, by go_num, hb68⟩
      case measure => simp [intOf]; omega
    · obtain rfl : k = n := by omega
      have hN7 := hN6.on hbr
      have hsm : ∀ (x : ByteArray), x.size ≤ 140737488351232 → ∀ p ∈ ([(ia, x)] : PairL), psmall p := fun x hx p hp => by
        obtain rfl := List.mem_singleton.1 hp
        exact ⟨by show ia.size ≤ _; decide, hx⟩
      have h7l := hN7.lt
      have hba : Below wr.heap.size wr (wr.alloc (.cells #[.string ia, .string a] 52)) := (Below.refl _ _).alloc (Nat.le_refl _) _
      have hbaw := below_step hbrw hba
      have hNa := hN7.on hba
      clear hN6 hN7
      go_wp2_with fail
      refine (nanswer_gen g S5 own R [(ia, a)] false false _ _ w hNa (SRd.litp (Blk.new wr _ _) rfl (by rfl) (by show 1 ≤ _; unfold maxLen; omega)) (fun _ k hk hm => by have h8 := h7l k hm; injection hk with hk; have h9 : wr.heap.size = k := hk; omega) (hsm a ha) (own_ok hnew).1 (by rw [HN.out]; omega) V hbaw hS50).mono ?_
      rw [ia_ansE R a HVA.out]
      rintro e w8 ⟨S8, u8, rfl, hu8, hN8, hnf8, hS8, _⟩
      obtain ⟨hb8w, hS80⟩ := ans_after hbaw hS50 hnf8 hS8
      have hrl8 := recL_len own false false [(ia, a)] R
      obtain ⟨R8, hR8⟩ : ∃ x, recL own false false R [(ia, a)] = x := ⟨_, rfl⟩
      rw [hR8] at hrl8 hN8
      have hrl8' : R8.length ≤ 61 := by rw [HN.out] at hrl8; simpa using Nat.le_trans hrl8 (by simp; omega)
      have h8l := hN8.lt
      have hbb : Below w8.heap.size w8 (w8.alloc (.cells #[.string ia, .string b] 52)) := (Below.refl _ _).alloc (Nat.le_refl _) _
      have hbbw := below_step hb8w hbb
      have hNb := hN8.on hbb
      obtain ⟨uA8, ucap8, rfl⟩ := hu8.form
      clear hu8 hnf8 hS8 hR8 hrl8 hN8 hNa h7l
      go_wp2_with fail
      refine (nanswer_gen g S8 own R8 [(ia, b)] false false _ _ w hNb (SRd.litp (Blk.new w8 _ _) rfl (by rfl) (by show 1 ≤ _; unfold maxLen; omega)) (fun _ k hk hm => by have h9 := h8l k hm; injection hk with hk; have h10 : w8.heap.size = k := hk; omega) (hsm b hb) (own_ok hnew).1 (by omega) V hbbw hS80).mono ?_
      rw [ia_ansE R8 b HVB.out]
      rintro e w9 ⟨S9, u9, rfl, hu9, hN9, hnf9, hS9, _⟩
      obtain ⟨hb9w, _⟩ := ans_after hbbw hS80 hnf9 hS9
      have V9 := V.on hb9w
      obtain ⟨uA9, ucap9, rfl⟩ := hu9.form
      obtain ⟨D, hD⟩ : ∃ D, ba (ownL (recL own false false R8 [(ia, b)]) ia) = D := ⟨_, rfl⟩
      have hbD : b.data.toList ≠ [] → D = b := fun hbn => by
        rw [← hD]
        have e1 : recL own false false R8 [(ia, b)] = addB R8 ia b.data.toList := by
          rw [recL, ia_ans own b hbn]
          rfl
        rw [e1]
        unfold ownL
        rw [findB_add R8 ia hbn]
        show ba (ba b.data.toList).data.toList = b
        rw [ba_list, ba_of]
      have HD := Lib.hid hD
      have HBD := Lib.hid hbD
      clear hu9 hnf9 hS9 hD hbD h8l hNb
      go_wp2_with fail
      refine (nval_some g S9 own _ ia D ra _ hN9 HRA.out HD.out V9).mono ?_
      rintro e w10 ⟨rfl, hb10⟩
      have hb10w := below_step hb9w hb10
      by_cases hbn : b.data.toList = []
      · have f1 : b.toList = [] := by rw [toList_of]; exact hbn
        have f2 : b.toList.isEmpty = true := by rw [f1]; rfl
        go_wp2_with fail
        go_ret
        exact ⟨rfl, hb10w⟩
      · obtain rfl := HBD.out hbn
        have f1 : ¬ D.toList = [] := by rw [toList_of]; exact hbn
        have f2 : D.toList.isEmpty = false := by
          rcases hl : D.toList with _ | ⟨y, l⟩
          · exact absurd hl f1
          · rfl
        clear hbn
        go_wp2_with fail
        go_ret
        exact ⟨rfl, hb10w⟩
end Go.Proofs.YtadhlnpegigadaaGreatDoor
