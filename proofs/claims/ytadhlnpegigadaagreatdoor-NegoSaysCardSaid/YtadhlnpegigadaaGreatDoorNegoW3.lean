/- The walk of NegoSays. -/
import Derived.Test.YtadhlnpegigadaaGreatDoorNegoWk
namespace Go.Proofs.YtadhlnpegigadaaGreatDoor
open Go.ChangeShapes Go.WideShapes Go.ChangeAt Go.RowKit Go.Shelf
set_option linter.unusedVariables false
theorem saidL_at {own : PairL} {login disc : Bool} {l : PairL} {k : Nat} {p x : ByteArray × ByteArray} (hp : l[k]? = some p) (hx : saidP own login disc p = [x]) : (saidL own login disc l)[(saidL own login disc (l.take k)).length]? = some x := by
  obtain ⟨h1, h2⟩ := List.getElem?_eq_some_iff.1 hp
  have : l = l.take k ++ p :: l.drop (k + 1) := by
    rw [← h2, ← List.drop_eq_getElem_cons h1, List.take_append_drop]
  have e : saidL own login disc l = saidL own login disc (l.take k) ++ (x :: saidL own login disc (l.drop (k + 1))) := by
    conv => lhs; rw [this]
    unfold saidL
    rw [List.flatMap_append, List.flatMap_cons, hx]
    rfl
  rw [e, List.getElem?_append_right (Nat.le_refl _), Nat.sub_self]
  rfl
theorem saidL_one {own : PairL} {login disc : Bool} {l : PairL} {k : Nat} {p : ByteArray × ByteArray} (hp : l[k]? = some p) : saidL own login disc (l.take (k + 1)) = saidL own login disc (l.take k) ++ saidP own login disc p := by
  have : l.take (k + 1) = l.take k ++ [p] := by rw [List.take_add_one, hp]; rfl
  rw [this]
  unfold saidL
  rw [List.flatMap_append]
  simp
theorem quiet_of {login disc : Bool} {p : ByteArray × ByteArray} {r : KeyR} (hr : keyRow (kB p) = some r) : quietB login disc p = ((decide (r.kind = 6) || decide (r.kind = 7)) && decide (fitsE (kB p) (vB p) = 0) && (login || !r.lonly) && (!disc || !r.noth)) := by
  unfold quietB
  rw [hr]
set_option maxRecDepth 20000 in
set_option maxHeartbeats 16000000 in
theorem saysNego (own : PairL) (vo : Value) (off : PairL) (vf : Value) (login disc : Bool) (w : World) (hv : SRd w vo 2 own.length (pairCells own)) (hd : ∀ p ∈ own, psmall p) (hv2 : SRd w vf 2 off.length (pairCells off)) (hd2 : ∀ p ∈ off, psmall p) (V : Env w) :
    Calls Tryz.prog 5 #[vo, vf, .bool login, .bool disc] w fun e w' => e = .returned (.bool true) ∧ Below w.heap.size w w' := by
  go_enter Tryz.func5, Tryz.ntmps5
  go_wp2_with fail
  refine (settled_fact _ V).mono ?_
  rintro e w1 ⟨rfl, hb1⟩
  have V1 := V.on hb1
  go_wp2_with fail
  refine (keyed_fact _ V1).mono ?_
  rintro e w1b ⟨rfl, hb1b⟩
  have hb1w := below_step hb1 hb1b
  have V1b := V.on hb1w
  go_wp2_with fail
  refine (made_any own _ _ (hv.on hb1w) hd V1b).mono ?_
  rintro e w2 ⟨hm, hb2⟩
  have hb2w := below_step hb1w hb2
  rcases hm with rfl | ⟨S, g, rfl, hN, hS, hnew⟩
  · go_wp2_with fail
    go_ret
    exact ⟨rfl, hb2w⟩
  have hS0 : ∀ k ∈ S, w.heap.size ≤ k := fun k hk => Nat.le_trans hb1w.size (hS k hk)
  go_wp2_with fail
  refine (thick_any off _ _ (hv2.on hb2w) hd2).mono ?_
  rintro e w4 ⟨b0, rfl, hb4⟩
  have hb4w := below_step hb2w hb4
  have hN4 := hN.on hb4
  rcases b0 with _ | _
  rotate_left
  · go_wp2_with fail
    go_ret
    exact ⟨rfl, hb4w⟩
  go_wp2_with fail
  refine (ans_arg g S own [] off login disc _ w w4 V hb4w hN4 hS0 hv2 hd2 hnew (by simp) (.inr rfl)).mono ?_
  rintro e w5 he
  rcases hE : ansE [] off login with _ | E
  rotate_left
  · rw [hE] at he
    obtain ⟨⟨t, x, rfl, _⟩, hb5⟩ := he
    clear hE
    go_wp2_with fail
    go_ret
    exact ⟨rfl, below_step hb4w hb5⟩
  rw [hE] at he
  obtain ⟨S5, u, rfl, hu, hN5, hnf, hS5, _⟩ := he
  have hb5w := (ans_after hb4w hS0 hnf hS5).1
  have V5 := V.on hb5w
  obtain ⟨h60, hri, hKD⟩ := ansE_nil hE
  obtain ⟨A, cap, rfl⟩ : ∃ A cap, vf = .slice A off.length cap := by obtain ⟨_, A, cap, hv, _⟩ := hv2; exact ⟨A, cap, hv⟩
  have hv5 := hv2.on hb5w
  have hru := hu.rd
  obtain ⟨uA, ucap, rfl⟩ := hu.form
  obtain ⟨N, hN'⟩ : ∃ N, off.length = N := ⟨_, rfl⟩
  obtain ⟨M, hM⟩ : ∃ M, (saidL own login disc off).length = M := ⟨_, rfl⟩
  have hMN := saidL_len own login disc off
  rw [hN', hM] at hMN
  rw [hN'] at h60
  rw [hM, hN']
  have HV5 := Lib.hid hv5
  have HRU := Lib.hid hru
  have HN := Lib.hid hN'
  have HM := Lib.hid hM
  have HRI := Lib.hid hri
  clear hE hKD hri hv5 hru hu hN' hM hN hN4 hN5 hnf hS5
  go_wp2_with fail
  go_loopw [12, 48] (fun a i wr => ∃ k : Nat, k ≤ N ∧ i = .int .i64 k ∧ a = .int .i64 ((saidL own login disc (off.take k)).length : Nat) ∧ Below w5.heap.size w5 wr) (fun _ i _ => N - (intOf i).toNat)
  case atStart => exact ⟨0, Nat.zero_le _, rfl, rfl, Below.refl _ _⟩
  case round =>
    obtain ⟨k, hk, rfl, rfl, hbr⟩ := hrel
    have hbrw := below_step hb5w hbr
    by_cases hlt : k < N
    · obtain ⟨p, hpk⟩ : ∃ p, off[k]? = some p := ⟨_, List.getElem?_eq_getElem (by rw [HN.out]; exact hlt)⟩
      have hs1 := saidL_one (own := own) (login := login) (disc := disc) hpk
      have hvz : p.2.size ≤ 255 := by
        have h := (HRI.out p (List.mem_of_getElem? hpk)).2
        have := valB_len h
        rw [len_of] at this
        exact this
      obtain ⟨b, o, cp, u0, u1, hvv, hbl, q0, q1, c0, c1⟩ := (HV5.out.on hbr).two (k := k) (by rw [HN.out]; exact hlt)
      have hcell := pairCells_at off k p hpk
      rw [hcell.1] at q0
      rw [hcell.2] at q1
      obtain rfl := Option.some.inj q0
      obtain rfl := Option.some.inj q1
      injection hvv with g1 g2 g3
      subst g1
      subst g3
      have hat : ∀ x, saidP own login disc p = [x] → (saidL own login disc off)[(saidL own login disc (off.take k)).length]? = some x := fun x hx => saidL_at hpk hx
      obtain ⟨Q, hQ⟩ : ∃ Q, (saidL own login disc (off.take k)).length = Q := ⟨_, rfl⟩
      rw [hQ] at hat
      have hql : Q ≤ k := by
        have := saidL_len own login disc (off.take k)
        rw [hQ, List.length_take] at this
        omega
      have hs2 : (saidL own login disc (off.take (k + 1))).length = Q + (saidP own login disc p).length := by rw [hs1, List.length_append, hQ]
      rw [hQ]
      obtain ⟨p1, p2⟩ := p
      simp only at c0 c1 hvz hat hs2
      have HAT := Lib.hid hat
      have HS2 := Lib.hid hs2
      have hba : Below wr.heap.size wr (wr.alloc (.cells #[.string p1, .string p2] 52)) := (Below.refl _ _).alloc (Nat.le_refl _) _
      have hBa := Blk.new wr 52 #[.string p1, .string p2]
      obtain ⟨z, hzz⟩ : ∃ z, wr.heap.size = z := ⟨_, rfl⟩
      rw [hzz] at hBa
      have hbaw := below_step hbrw hba
      have hb5a : Below w5.heap.size w5 (wr.alloc (.cells #[.string p1, .string p2] 52)) := below_step hbr hba
      have Va := V.on hbaw
      obtain ⟨wa, hwa⟩ : ∃ wa : World, wr.alloc (.cells #[.string p1, .string p2] 52) = wa := ⟨_, rfl⟩
      rw [hwa] at hBa hbaw hb5a Va hba
      have z0 := hBa.cell 0
      clear hpk hs1 hcell hat hQ hs2 g2
      rcases hr : keyRow p1.data.toList with _ | r
      · obtain ⟨v, hsv, hvn, hvu⟩ := said_loud (own := own) (login := login) (disc := disc) (p := (p1, p2)) (by unfold quietB; show (match keyRow p1.data.toList with | none => false | some r => _) = false; rw [hr])
        have hvu' : v = notU := hvu hr
        subst hvu'
        have hsv : saidP own login disc (p1, p2) = [(p1, ⟨#[78, 111, 116, 85, 110, 100, 101, 114, 115, 116, 111, 111, 100]⟩)] := hsv
        have HR := Lib.hid hr
        have HSV := Lib.hid hsv
        clear hr hsv hvu hvn
        go_wp2_with fail
        refine (of_none p1 _ HR.out Va.T).mono ?_
        rintro e w6 ⟨rfl, hb6⟩
        unfold zeroK
        have hB6 := hBa.below hb6 hBa.lt
        have hb56 := below_step hb5a hb6
        have hbK : Below w6.heap.size w6 (w6.alloc (.cells #[.string ⟨#[]⟩, .int .i64 0, .int .i64 0, .int .i64 0, .string ⟨#[]⟩, .bool false, .bool false] 58)) := (Below.refl _ _).alloc (Nat.le_refl _) _
        have hb57 := below_step hb56 hbK
        have hB7 := hB6.below hbK hB6.lt
        have hx := HAT.out _ HSV.out
        have hQM : Q < M := by rw [← HM.out]; exact (List.getElem?_eq_some_iff.1 hx).1
        obtain ⟨ub, uo, ucp, v0, v1, hvv, hubl, r0, r1, d0, d1⟩ := (HRU.out.on hb57).two (k := Q) (by rw [HM.out]; exact hQM)
        have hcell := pairCells_at _ Q _ hx
        rw [hcell.1] at r0
        rw [hcell.2] at r1
        obtain rfl := Option.some.inj r0
        obtain rfl := Option.some.inj r1
        injection hvv with g1 g2 g3
        subst g1
        subst g3
        have hQd : decide ((M : Int) ≤ (Q : Int)) = false := by simp; omega
        have hQI : (Q : Int) < (M : Int) := by omega
        have y0 := hB7.cell 0
        clear hx hcell g2
        go_wp2_with fail
        go_quiet (fail)
        clear hQd
        go_wp2_with fail
        go_roundw
        all_goals first
          | exact ⟨k + 1, by omega, by go_num, by rw [HS2.out, HSV.out]; go_num, below_dK hb57 _⟩
          | (simp [intOf]; omega)
      · have HR := Lib.hid hr
        obtain ⟨K, hK⟩ : ∃ K : Int, (r.kind : Int) = K := ⟨_, rfl⟩
        obtain ⟨nb, hnb⟩ : ∃ nb, r.noth = nb := ⟨_, rfl⟩
        obtain ⟨lb, hlb⟩ : ∃ lb, r.lonly = lb := ⟨_, rfl⟩
        obtain ⟨D, hD⟩ : ∃ D, ba (dfl r) = D := ⟨_, rfl⟩
        obtain ⟨F, hF⟩ : ∃ F, fitsE p1.data.toList p2.data.toList = F := ⟨_, rfl⟩
        have hq := quiet_of (login := login) (disc := disc) (p := (p1, p2)) hr
        have hk6 : decide (r.kind = 6) = decide (K = 6) := decide_eq_decide.2 (by omega)
        have hk7 : decide (r.kind = 7) = decide (K = 7) := decide_eq_decide.2 (by omega)
        rw [hk6, hk7, hnb, hlb, show fitsE (kB (p1, p2)) (vB (p1, p2)) = F from hF] at hq
        have HK := Lib.hid hK
        have HNB := Lib.hid hnb
        have HLB := Lib.hid hlb
        have HD := Lib.hid hD
        have HF := Lib.hid hF
        have HQ := Lib.hid hq
        clear hr hK hnb hlb hD hF hq hk6 hk7
        go_wp2_with fail
        refine (of_some p1 r K D nb lb _ HR.out HK.out HD.out HNB.out HLB.out Va.T).mono ?_
        rintro e w6 ⟨rfl, hb6⟩
        have hB6 := hBa.below hb6 hBa.lt
        have hb56 := below_step hb5a hb6
        have hbK : Below w6.heap.size w6 (w6.alloc (.cells #[.string ⟨r.name.toArray⟩, .int .i64 K, .int .i64 r.low, .int .i64 r.high, .string D, .bool nb, .bool lb] 58)) := (Below.refl _ _).alloc (Nat.le_refl _) _
        have hBk := Blk.new w6 58 #[.string ⟨r.name.toArray⟩, .int .i64 K, .int .i64 r.low, .int .i64 r.high, .string D, .bool nb, .bool lb]
        have hb57 := below_step hb56 hbK
        have hb7w := below_step hb5w hb57
        have V7 := V.on hb7w
        have hB7 := hB6.below hbK hB6.lt
        obtain ⟨y, hy⟩ : ∃ y, w6.heap.size = y := ⟨_, rfl⟩
        have hzy : z ≠ y := by have := hB6.lt; omega
        rw [hy] at hBk
        have k1 := hBk.cell 1
        by_cases h67 : K = 6 ∨ K = 7
        · rcases h67 with rfl | rfl
          · have p0 := hB7.cell 0
            have p1' := hB7.cell 1
            go_wp2_with fail
            refine (fits_any p1 p2 _ (by omega) V7.T V7.E V7.S).mono ?_
            rintro e w8 ⟨rfl, hb8⟩
            rw [HF.out]
            have hb58 := below_step hb57 hb8
            have hB8 := hB7.below hb8 hB7.lt
            have hBk8 := hBk.below hb8 hBk.lt
            clear p0 p1' k1
            have k5 := hBk8.cell 5
            have k6 := hBk8.cell 6
            rcases Nat.eq_zero_or_pos F with rfl | hpos
            · have he0 : errv 0 = .nilIface := rfl
              rw [he0]
              clear he0
              rcases login with _ | _
              · rcases lb with _ | _
                · rcases disc with _ | _
                  · have hsv := said_quiet (own := own) (p := (p1, p2)) (by rw [HQ.out]; simp)
                    have HSV := Lib.hid hsv
                    clear hsv
                    go_wp2_with fail
                    go_roundw
                    case rel => exact ⟨k + 1, by omega, by go_num, by rw [HS2.out, HSV.out]; first | rfl | go_num, hb58⟩
                    case measure => simp [intOf]; omega
                  · rcases nb with _ | _
                    · have hsv := said_quiet (own := own) (p := (p1, p2)) (by rw [HQ.out]; simp)
                      have HSV := Lib.hid hsv
                      clear hsv
                      go_wp2_with fail
                      go_roundw
                      case rel => exact ⟨k + 1, by omega, by go_num, by rw [HS2.out, HSV.out]; first | rfl | go_num, hb58⟩
                      case measure => simp [intOf]; omega
                    · obtain ⟨v, hsv, hvn, hvu⟩ := said_loud (own := own) (p := (p1, p2)) (by rw [HQ.out]; simp)
                      have HSV := Lib.hid hsv
                      clear hsv hvu hvn
                      have hx := HAT.out _ HSV.out
                      have hQM : Q < M := by rw [← HM.out]; exact (List.getElem?_eq_some_iff.1 hx).1
                      obtain ⟨ub, uo, ucp, v0, v1, hvv, hubl, r0, r1, d0, d1⟩ := (HRU.out.on hb58).two (k := Q) (by rw [HM.out]; exact hQM)
                      have hcell := pairCells_at _ Q _ hx
                      rw [hcell.1] at r0
                      rw [hcell.2] at r1
                      obtain rfl := Option.some.inj r0
                      obtain rfl := Option.some.inj r1
                      injection hvv with g1 g2 g3
                      subst g1
                      subst g3
                      have hQd : decide ((M : Int) ≤ (Q : Int)) = false := by simp; omega
                      have hQI : (Q : Int) < (M : Int) := by omega
                      have y0 := hB8.cell 0
                      clear hx hcell g2
                      go_wp2_with fail
                      go_quiet (fail)
                      clear hQd
                      go_wp2_with fail
                      go_roundw
                      all_goals first
                        | exact ⟨k + 1, by omega, by go_num, by rw [HS2.out, HSV.out]; go_num, below_dK hb58 _⟩
                        | (simp [intOf]; omega)
                · obtain ⟨v, hsv, hvn, hvu⟩ := said_loud (own := own) (p := (p1, p2)) (by rw [HQ.out]; simp)
                  have HSV := Lib.hid hsv
                  clear hsv hvu hvn
                  have hx := HAT.out _ HSV.out
                  have hQM : Q < M := by rw [← HM.out]; exact (List.getElem?_eq_some_iff.1 hx).1
                  obtain ⟨ub, uo, ucp, v0, v1, hvv, hubl, r0, r1, d0, d1⟩ := (HRU.out.on hb58).two (k := Q) (by rw [HM.out]; exact hQM)
                  have hcell := pairCells_at _ Q _ hx
                  rw [hcell.1] at r0
                  rw [hcell.2] at r1
                  obtain rfl := Option.some.inj r0
                  obtain rfl := Option.some.inj r1
                  injection hvv with g1 g2 g3
                  subst g1
                  subst g3
                  have hQd : decide ((M : Int) ≤ (Q : Int)) = false := by simp; omega
                  have hQI : (Q : Int) < (M : Int) := by omega
                  have y0 := hB8.cell 0
                  clear hx hcell g2
                  go_wp2_with fail
                  go_quiet (fail)
                  clear hQd
                  go_wp2_with fail
                  go_roundw
                  all_goals first
                    | exact ⟨k + 1, by omega, by go_num, by rw [HS2.out, HSV.out]; go_num, below_dK hb58 _⟩
                    | (simp [intOf]; omega)
              · rcases disc with _ | _
                · have hsv := said_quiet (own := own) (p := (p1, p2)) (by rw [HQ.out]; simp)
                  have HSV := Lib.hid hsv
                  clear hsv
                  go_wp2_with fail
                  go_roundw
                  case rel => exact ⟨k + 1, by omega, by go_num, by rw [HS2.out, HSV.out]; first | rfl | go_num, hb58⟩
                  case measure => simp [intOf]; omega
                · rcases nb with _ | _
                  · have hsv := said_quiet (own := own) (p := (p1, p2)) (by rw [HQ.out]; simp)
                    have HSV := Lib.hid hsv
                    clear hsv
                    go_wp2_with fail
                    go_roundw
                    case rel => exact ⟨k + 1, by omega, by go_num, by rw [HS2.out, HSV.out]; first | rfl | go_num, hb58⟩
                    case measure => simp [intOf]; omega
                  · obtain ⟨v, hsv, hvn, hvu⟩ := said_loud (own := own) (p := (p1, p2)) (by rw [HQ.out]; simp)
                    have HSV := Lib.hid hsv
                    clear hsv hvu hvn
                    have hx := HAT.out _ HSV.out
                    have hQM : Q < M := by rw [← HM.out]; exact (List.getElem?_eq_some_iff.1 hx).1
                    obtain ⟨ub, uo, ucp, v0, v1, hvv, hubl, r0, r1, d0, d1⟩ := (HRU.out.on hb58).two (k := Q) (by rw [HM.out]; exact hQM)
                    have hcell := pairCells_at _ Q _ hx
                    rw [hcell.1] at r0
                    rw [hcell.2] at r1
                    obtain rfl := Option.some.inj r0
                    obtain rfl := Option.some.inj r1
                    injection hvv with g1 g2 g3
                    subst g1
                    subst g3
                    have hQd : decide ((M : Int) ≤ (Q : Int)) = false := by simp; omega
                    have hQI : (Q : Int) < (M : Int) := by omega
                    have y0 := hB8.cell 0
                    clear hx hcell g2
                    go_wp2_with fail
                    go_quiet (fail)
                    clear hQd
                    go_wp2_with fail
                    go_roundw
                    all_goals first
                      | exact ⟨k + 1, by omega, by go_num, by rw [HS2.out, HSV.out]; go_num, below_dK hb58 _⟩
                      | (simp [intOf]; omega)
            · have hFe : ∃ t x, errv F = .iface t x := by unfold errv; rw [if_neg (by omega)]; exact ⟨_, _, rfl⟩
              obtain ⟨t, x, hFe⟩ := hFe
              rw [hFe]
              obtain ⟨v, hsv, hvn, hvu⟩ := said_loud (own := own) (login := login) (disc := disc) (p := (p1, p2)) (by rw [HQ.out, decide_eq_false (show ¬ F = 0 by omega)]; simp)
              have HSV := Lib.hid hsv
              clear hsv hvu hvn hFe
              have hx := HAT.out _ HSV.out
              have hQM : Q < M := by rw [← HM.out]; exact (List.getElem?_eq_some_iff.1 hx).1
              obtain ⟨ub, uo, ucp, v0, v1, hvv, hubl, r0, r1, d0, d1⟩ := (HRU.out.on hb58).two (k := Q) (by rw [HM.out]; exact hQM)
              have hcell := pairCells_at _ Q _ hx
              rw [hcell.1] at r0
              rw [hcell.2] at r1
              obtain rfl := Option.some.inj r0
              obtain rfl := Option.some.inj r1
              injection hvv with g1 g2 g3
              subst g1
              subst g3
              have hQd : decide ((M : Int) ≤ (Q : Int)) = false := by simp; omega
              have hQI : (Q : Int) < (M : Int) := by omega
              have y0 := hB8.cell 0
              clear hx hcell g2
              go_wp2_with fail
              go_quiet (fail)
              clear hQd
              go_wp2_with fail
              go_roundw
              all_goals first
                | exact ⟨k + 1, by omega, by go_num, by rw [HS2.out, HSV.out]; go_num, below_dK hb58 _⟩
                | (simp [intOf]; omega)
          · have p0 := hB7.cell 0
            have p1' := hB7.cell 1
            go_wp2_with fail
            refine (fits_any p1 p2 _ (by omega) V7.T V7.E V7.S).mono ?_
            rintro e w8 ⟨rfl, hb8⟩
            rw [HF.out]
            have hb58 := below_step hb57 hb8
            have hB8 := hB7.below hb8 hB7.lt
            have hBk8 := hBk.below hb8 hBk.lt
            clear p0 p1' k1
            have k5 := hBk8.cell 5
            have k6 := hBk8.cell 6
            rcases Nat.eq_zero_or_pos F with rfl | hpos
            · have he0 : errv 0 = .nilIface := rfl
              rw [he0]
              clear he0
              rcases login with _ | _
              · rcases lb with _ | _
                · rcases disc with _ | _
                  · have hsv := said_quiet (own := own) (p := (p1, p2)) (by rw [HQ.out]; simp)
                    have HSV := Lib.hid hsv
                    clear hsv
                    go_wp2_with fail
                    go_roundw
                    case rel => exact ⟨k + 1, by omega, by go_num, by rw [HS2.out, HSV.out]; first | rfl | go_num, hb58⟩
                    case measure => simp [intOf]; omega
                  · rcases nb with _ | _
                    · have hsv := said_quiet (own := own) (p := (p1, p2)) (by rw [HQ.out]; simp)
                      have HSV := Lib.hid hsv
                      clear hsv
                      go_wp2_with fail
                      go_roundw
                      case rel => exact ⟨k + 1, by omega, by go_num, by rw [HS2.out, HSV.out]; first | rfl | go_num, hb58⟩
                      case measure => simp [intOf]; omega
                    · obtain ⟨v, hsv, hvn, hvu⟩ := said_loud (own := own) (p := (p1, p2)) (by rw [HQ.out]; simp)
                      have HSV := Lib.hid hsv
                      clear hsv hvu hvn
                      have hx := HAT.out _ HSV.out
                      have hQM : Q < M := by rw [← HM.out]; exact (List.getElem?_eq_some_iff.1 hx).1
                      obtain ⟨ub, uo, ucp, v0, v1, hvv, hubl, r0, r1, d0, d1⟩ := (HRU.out.on hb58).two (k := Q) (by rw [HM.out]; exact hQM)
                      have hcell := pairCells_at _ Q _ hx
                      rw [hcell.1] at r0
                      rw [hcell.2] at r1
                      obtain rfl := Option.some.inj r0
                      obtain rfl := Option.some.inj r1
                      injection hvv with g1 g2 g3
                      subst g1
                      subst g3
                      have hQd : decide ((M : Int) ≤ (Q : Int)) = false := by simp; omega
                      have hQI : (Q : Int) < (M : Int) := by omega
                      have y0 := hB8.cell 0
                      clear hx hcell g2
                      go_wp2_with fail
                      go_quiet (fail)
                      clear hQd
                      go_wp2_with fail
                      go_roundw
                      all_goals first
                        | exact ⟨k + 1, by omega, by go_num, by rw [HS2.out, HSV.out]; go_num, below_dK hb58 _⟩
                        | (simp [intOf]; omega)
                · obtain ⟨v, hsv, hvn, hvu⟩ := said_loud (own := own) (p := (p1, p2)) (by rw [HQ.out]; simp)
                  have HSV := Lib.hid hsv
                  clear hsv hvu hvn
                  have hx := HAT.out _ HSV.out
                  have hQM : Q < M := by rw [← HM.out]; exact (List.getElem?_eq_some_iff.1 hx).1
                  obtain ⟨ub, uo, ucp, v0, v1, hvv, hubl, r0, r1, d0, d1⟩ := (HRU.out.on hb58).two (k := Q) (by rw [HM.out]; exact hQM)
                  have hcell := pairCells_at _ Q _ hx
                  rw [hcell.1] at r0
                  rw [hcell.2] at r1
                  obtain rfl := Option.some.inj r0
                  obtain rfl := Option.some.inj r1
                  injection hvv with g1 g2 g3
                  subst g1
                  subst g3
                  have hQd : decide ((M : Int) ≤ (Q : Int)) = false := by simp; omega
                  have hQI : (Q : Int) < (M : Int) := by omega
                  have y0 := hB8.cell 0
                  clear hx hcell g2
                  go_wp2_with fail
                  go_quiet (fail)
                  clear hQd
                  go_wp2_with fail
                  go_roundw
                  all_goals first
                    | exact ⟨k + 1, by omega, by go_num, by rw [HS2.out, HSV.out]; go_num, below_dK hb58 _⟩
                    | (simp [intOf]; omega)
              · rcases disc with _ | _
                · have hsv := said_quiet (own := own) (p := (p1, p2)) (by rw [HQ.out]; simp)
                  have HSV := Lib.hid hsv
                  clear hsv
                  go_wp2_with fail
                  go_roundw
                  case rel => exact ⟨k + 1, by omega, by go_num, by rw [HS2.out, HSV.out]; first | rfl | go_num, hb58⟩
                  case measure => simp [intOf]; omega
                · rcases nb with _ | _
                  · have hsv := said_quiet (own := own) (p := (p1, p2)) (by rw [HQ.out]; simp)
                    have HSV := Lib.hid hsv
                    clear hsv
                    go_wp2_with fail
                    go_roundw
                    case rel => exact ⟨k + 1, by omega, by go_num, by rw [HS2.out, HSV.out]; first | rfl | go_num, hb58⟩
                    case measure => simp [intOf]; omega
                  · obtain ⟨v, hsv, hvn, hvu⟩ := said_loud (own := own) (p := (p1, p2)) (by rw [HQ.out]; simp)
                    have HSV := Lib.hid hsv
                    clear hsv hvu hvn
                    have hx := HAT.out _ HSV.out
                    have hQM : Q < M := by rw [← HM.out]; exact (List.getElem?_eq_some_iff.1 hx).1
                    obtain ⟨ub, uo, ucp, v0, v1, hvv, hubl, r0, r1, d0, d1⟩ := (HRU.out.on hb58).two (k := Q) (by rw [HM.out]; exact hQM)
                    have hcell := pairCells_at _ Q _ hx
                    rw [hcell.1] at r0
                    rw [hcell.2] at r1
                    obtain rfl := Option.some.inj r0
                    obtain rfl := Option.some.inj r1
                    injection hvv with g1 g2 g3
                    subst g1
                    subst g3
                    have hQd : decide ((M : Int) ≤ (Q : Int)) = false := by simp; omega
                    have hQI : (Q : Int) < (M : Int) := by omega
                    have y0 := hB8.cell 0
                    clear hx hcell g2
                    go_wp2_with fail
                    go_quiet (fail)
                    clear hQd
                    go_wp2_with fail
                    go_roundw
                    all_goals first
                      | exact ⟨k + 1, by omega, by go_num, by rw [HS2.out, HSV.out]; go_num, below_dK hb58 _⟩
                      | (simp [intOf]; omega)
            · have hFe : ∃ t x, errv F = .iface t x := by unfold errv; rw [if_neg (by omega)]; exact ⟨_, _, rfl⟩
              obtain ⟨t, x, hFe⟩ := hFe
              rw [hFe]
              obtain ⟨v, hsv, hvn, hvu⟩ := said_loud (own := own) (login := login) (disc := disc) (p := (p1, p2)) (by rw [HQ.out, decide_eq_false (show ¬ F = 0 by omega)]; simp)
              have HSV := Lib.hid hsv
              clear hsv hvu hvn hFe
              have hx := HAT.out _ HSV.out
              have hQM : Q < M := by rw [← HM.out]; exact (List.getElem?_eq_some_iff.1 hx).1
              obtain ⟨ub, uo, ucp, v0, v1, hvv, hubl, r0, r1, d0, d1⟩ := (HRU.out.on hb58).two (k := Q) (by rw [HM.out]; exact hQM)
              have hcell := pairCells_at _ Q _ hx
              rw [hcell.1] at r0
              rw [hcell.2] at r1
              obtain rfl := Option.some.inj r0
              obtain rfl := Option.some.inj r1
              injection hvv with g1 g2 g3
              subst g1
              subst g3
              have hQd : decide ((M : Int) ≤ (Q : Int)) = false := by simp; omega
              have hQI : (Q : Int) < (M : Int) := by omega
              have y0 := hB8.cell 0
              clear hx hcell g2
              go_wp2_with fail
              go_quiet (fail)
              clear hQd
              go_wp2_with fail
              go_roundw
              all_goals first
                | exact ⟨k + 1, by omega, by go_num, by rw [HS2.out, HSV.out]; go_num, below_dK hb58 _⟩
                | (simp [intOf]; omega)
        · have h6 : ¬ K = 6 := fun h => h67 (.inl h)
          have h7 : ¬ K = 7 := fun h => h67 (.inr h)
          have h6b : (K == 6) = false := by simpa using h6
          have h7b : (K == 7) = false := by simpa using h7
          obtain ⟨v, hsv, hvn, hvu⟩ := said_loud (own := own) (login := login) (disc := disc) (p := (p1, p2)) (by rw [HQ.out]; simp [h6, h7])
          have HSV := Lib.hid hsv
          clear hsv hvu hvn h67
          have hx := HAT.out _ HSV.out
          have hQM : Q < M := by rw [← HM.out]; exact (List.getElem?_eq_some_iff.1 hx).1
          obtain ⟨ub, uo, ucp, v0, v1, hvv, hubl, r0, r1, d0, d1⟩ := (HRU.out.on hb57).two (k := Q) (by rw [HM.out]; exact hQM)
          have hcell := pairCells_at _ Q _ hx
          rw [hcell.1] at r0
          rw [hcell.2] at r1
          obtain rfl := Option.some.inj r0
          obtain rfl := Option.some.inj r1
          injection hvv with g1 g2 g3
          subst g1
          subst g3
          have hQd : decide ((M : Int) ≤ (Q : Int)) = false := by simp; omega
          have hQI : (Q : Int) < (M : Int) := by omega
          have y0 := hB7.cell 0
          clear hx hcell g2
          go_wp2_with fail
          go_quiet (fail)
          clear hQd
          go_wp2_with fail
          go_roundw
          all_goals first
            | exact ⟨k + 1, by omega, by go_num, by rw [HS2.out, HSV.out]; go_num, below_dK hb57 _⟩
            | (simp [intOf]; omega)
    · obtain rfl : N = k := by omega
      have hfin : (saidL own login disc (off.take N)).length = M := by rw [List.take_of_length_le (by rw [HN.out]; exact Nat.le_refl _)]; exact HM.out
      rw [hfin]
      clear hfin
      go_wp2_with fail
      go_ret
      exact ⟨rfl, hbrw⟩
end Go.Proofs.YtadhlnpegigadaaGreatDoor
