/- The contract of Answer, where nothing of the record is told anew. -/
import Derived.Test.YtamlepacljjpiaaGreatDoorNegoAns
import Derived.Test.YtamlepacljjpiaaGreatDoorGnego
import Derived.Deep.RegionHeld3
namespace Go.Proofs.YtamlepacljjpiaaGreatDoor
open Go.ChangeShapes Go.WideShapes Go.ChangeAt Go.RowKit Go.Shelf
set_option linter.unusedVariables false
def AnsIs (w : World) (S : List Nat) (g : Nat) (own rc offers : PairL) (login disc : Bool) (e : Ending) (w' : World) : Option (Nat × Option Nat) → Prop
  | some E => (∃ t x, e = .returned (.tuple #[.slice none 0 0, .iface t x]) ∧ PErr w' w.heap.size (.iface t x) (some E)) ∧ Below w.heap.size w w'
  | none => ∃ S' u, e = .returned (.tuple #[u, .nilIface]) ∧ ORow w' w.heap.size u (saidL own login disc offers) ∧ NegoH w' S' g own (recL own login disc rc offers) ∧ NF S w w' ∧ (∀ k ∈ S', k ∈ S ∨ w.heap.size ≤ k) ∧ ∀ k, u.ownBlock = some k → k ∉ S'
def getE (o : Option ByteArray) : ByteArray := o.getD ⟨#[]⟩
theorem find_two (l : PairL) (v : Value) (key x : ByteArray) (b : Bool) (w : World) (hv : SRd w v 2 l.length (pairCells l)) (hx : getE (findB l key) = x) (hb : (findB l key).isSome = b) : Calls Tryz.prog 62 #[v, .string key] w fun e w' =>
    e = .returned (.tuple #[.string x, .bool b]) ∧ Below w.heap.size w w' := by
  refine (find_any l v key w hv).mono ?_
  rintro e w' ⟨rfl, hb'⟩
  subst hx hb
  rcases findB l key with _ | q
  · exact ⟨rfl, hb'⟩
  · exact ⟨rfl, hb'⟩
theorem perr_iface {w : World} {base : Nat} {er : Value} {l : PairL} {E : Nat × Option Nat} (hp : pRightR l = some E) (he : PErr w base er (some E)) : ∃ t x, er = .iface t x := by
  obtain ⟨c, q⟩ := E
  rcases q with _ | q
  · have hc : c ≠ 0 := by
      intro h
      subst h
      unfold pRightR at hp
      split at hp
      · cases hp
      · rcases hg : pRightGo l 0 with _ | ⟨a, b⟩ <;> rw [hg] at hp <;> cases hp
    have : er = errv c := he
    unfold errv at this
    rw [if_neg hc] at this
    exact ⟨_, _, this⟩
  · obtain ⟨g, _, h, _⟩ := he
    exact ⟨_, _, h⟩
set_option maxRecDepth 20000 in
set_option maxHeartbeats 8000000 in
theorem nanswer_any (g : Nat) (S : List Nat) (own rc offers : PairL) (login disc : Bool) (v : Value) (w w0 : World) (hN : NegoH w S g own rc) (hv : SRd w v 2 offers.length (pairCells offers)) (hvS : 0 < offers.length → ∀ k, v.ownBlock = some k → k ∉ S) (hd : ∀ p ∈ offers, psmall p) (hown : ∀ q ∈ own, q.2.size ≤ 255)
    (hrc : rc.length ≤ 100000) (hfr : login = true ∨ rc = []) (V : Env w0) (h0 : Below w0.heap.size w0 w) (hS : ∀ k ∈ S, w0.heap.size ≤ k) :
    Calls Tryz.prog 46 #[.pointer (some ⟨g, 0, none⟩), v, .bool login, .bool disc] w fun e w' => AnsIs w S g own rc offers login disc e w' (ansE rc offers login) := by
  obtain ⟨A, cap, rfl⟩ : ∃ A cap, v = .slice A offers.length cap := by obtain ⟨_, A, cap, hv, _⟩ := hv; exact ⟨A, cap, hv⟩
  obtain ⟨R, hR⟩ : ∃ R, ansE rc offers login = R := ⟨_, rfl⟩
  rw [hR]
  have HAE := Lib.hid hR
  unfold ansE at hR
  have HD := Lib.hid hd
  have V0 := V.on h0
  go_enter Tryz.func46, Tryz.ntmps46
  go_wp2_with fail
  refine (pRight_any offers _ w hv hd).mono ?_
  rintro e w1 ⟨er, rfl, he, hb1⟩
  rcases hp : pRightR offers with _ | E
  rotate_left
  · rw [hp] at he hR
    have he' := he
    obtain ⟨t, x, rfl⟩ := perr_iface hp he
    subst hR
    clear hp he
    go_wp2_with fail
    go_ret2
    exact ⟨⟨_, _, rfl, he'⟩, hb1⟩
  · rw [hp] at he hR
    obtain rfl : er = .nilIface := he
    obtain ⟨h60, hok⟩ := pRight_none hp
    have V1 := V0.on hb1
    have hv1 := hv.on hb1
    have hN1 := hN.on hb1
    obtain ⟨N, hNN⟩ : ∃ N, offers.length = N := ⟨_, rfl⟩
    rw [hNN] at h60 ⊢
    have HV1 := Lib.hid hv1
    have HOK := Lib.hid hok
    have HR := Lib.hid hR
    have HN := Lib.hid hNN
    have hN60 : (N : Int) ≤ 60 := by omega
    clear hp hR hv hv1 hok hNN hd
    go_wp2_with fail
    go_loopw [29] (fun i wr => ∃ k : Nat, k ≤ N ∧ i = .int .i64 k ∧ R = (twiceGo rc login (offers.take k) (offers.drop k)).map (fun i => (9, some i)) ∧ Below w1.heap.size w1 wr) (fun i _ => N - (intOf i).toNat)
    case atStart => exact ⟨0, Nat.zero_le _, rfl, HR.out.symm, Below.refl _ _⟩
    case round =>
      obtain ⟨k, hk, rfl, hgo, hbw⟩ := hrel
      have hbwr := below_step hb1 hbw
      by_cases hlt : k < N
      · obtain ⟨p, hpk⟩ : ∃ p, offers[k]? = some p := ⟨_, List.getElem?_eq_getElem (by rw [HN.out]; exact hlt)⟩
        have hdr : offers.drop k = p :: offers.drop (k + 1) := by
          obtain ⟨h1, h2⟩ := List.getElem?_eq_some_iff.1 hpk
          rw [List.drop_eq_getElem_cons h1, h2]
        have htk : offers.take (k + 1) = offers.take k ++ [p] := by rw [List.take_add_one, hpk]; rfl
        have hlk : (offers.take k).length = k := by rw [List.length_take, HN.out]; omega
        rw [hdr, twiceGo, hlk, ← htk] at hgo
        have hvr := HV1.out.on hbw
        have hpre := srd_pre hvr k (by rw [HN.out]; exact hk)
        obtain ⟨b, o, cp, u0, u1, hvv, hbl, q0, q1, c0, c1⟩ := hvr.two (k := k) (by rw [HN.out]; exact hlt)
        have hcell := pairCells_at offers k p hpk
        rw [hcell.1] at q0
        rw [hcell.2] at q1
        obtain rfl := Option.some.inj q0
        obtain rfl := Option.some.inj q1
        injection hvv with g1 g2 g3
        subst g1
        subst g3
        obtain ⟨p1, p2⟩ := p
        simp only at c0 c1 hgo
        obtain ⟨wa, hwa⟩ : ∃ wa : World, wr.alloc (.cells #[.string p1, .string p2] 62) = wa := ⟨_, rfl⟩
        have hba : Below wr.heap.size wr wa := by rw [← hwa]; exact (Below.refl _ _).alloc (Nat.le_refl _) _
        have hBa : Blk wa wr.heap.size 62 #[.string p1, .string p2] := by rw [← hwa]; exact Blk.new wr _ _
        obtain ⟨x1, hx1⟩ : ∃ x, getE (findB (offers.take k) p1) = x := ⟨_, rfl⟩
        obtain ⟨b1, hb1'⟩ : ∃ b, (findB (offers.take k) p1).isSome = b := ⟨_, rfl⟩
        obtain ⟨x2, hx2⟩ : ∃ x, getE (findB rc p1) = x := ⟨_, rfl⟩
        obtain ⟨b2, hb2'⟩ : ∃ b, (findB rc p1).isSome = b := ⟨_, rfl⟩
        rw [hb1', hb2'] at hgo
        have HX1 := Lib.hid hx1
        have HX2 := Lib.hid hx2
        have HB1 := Lib.hid hb1'
        have HB2 := Lib.hid hb2'
        have HGO := Lib.hid hgo
        have hkN : (k : Int) ≤ (N : Int) := by omega
        have hkc : (k : Int) ≤ (cap : Int) := by
          obtain ⟨_, A', cap', hx, h2, h3, _⟩ := hvr
          injection hx with _ e2 e3
          have := HN.out
          have h2' : offers.length ≤ cap' := h2
          omega
        have HWA := Lib.hid hwa
        have hNa := (hN1.on hbw).on hba
        clear hdr htk hlk hpk hcell hgo g2 hwa hx1 hx2 hb1' hb2'
        have hwal := hBa.lt
        have hpa := hpre.on hba
        have hbawr := below_step hbwr hba
        have hz := hBa.cell 0
        obtain ⟨z, hzz⟩ : ∃ z, wr.heap.size = z := ⟨_, rfl⟩
        rw [hzz] at hBa hwal hz
        have zz0 : ∀ i : BW wa, i.v.cell? ⟨z, 0, none⟩ = some (.string p1) := fun i => (i.h.cell (p := ⟨z, 0, none⟩) hwal).trans hz
        have hf : ∀ i : BW wa, Calls Tryz.prog 62 #[.slice (some ⟨b, o, none⟩) k cap, .string p1] i.v fun e w' => e = .returned (.tuple #[.string x1, .bool b1]) ∧ Below i.v.heap.size i.v w' := fun i => find_two (offers.take k) _ p1 x1 b1 i.v (hpa.on i.h) HX1.out HB1.out
        go_upto_region 7 with (fail)
        refine wp_worldN HWA.out ?_
        try rw [hzz]
        clear c0 c1
        refine wp_region_quietB (by kernel_rfl) (by kernel_rfl) ?_
        repeat (first | go_big_quiet_skip | (go_big_quiet_want; go_big_quiet_op; first | go_big_quiet_on | (apply Exists.intro; refine ⟨fun _ => ?_, ?_⟩; ((go_at_call 62; with_reducible exact calls_bw (hf _))); go_big_quiet_on)))
        refine wpQuiet_nil ?_
        rintro _ ⟨iq, rfl⟩
        have hbi := below_step hbawr iq.h
        have hb1i : Below w1.heap.size w1 iq.v := below_step (below_step hbw hba) iq.h
        have hBi := hBa.below iq.h hwal
        have hNi := hNa.on iq.h
        generalize iq.v = w2 at *
        clear zz0 hf hNa
        obtain ⟨ov, rv, hBg, hro, hrr, _⟩ := id hNi
        obtain ⟨rA, rcap, rfl⟩ := hrr.form
        have hwi := hBi.lt
        have hgi := hBg.lt
        have hzi := hBi.cell 0
        have hgc := hBg.cell 1
        have hrd := hrr.rd
        have zz0 : ∀ i : BW w2, i.v.cell? ⟨z, 0, none⟩ = some (.string p1) := fun i => (i.h.cell (p := ⟨z, 0, none⟩) hwi).trans hzi
        have zz1 : ∀ i : BW w2, i.v.cell? ⟨g, 1, none⟩ = some (.slice rA rc.length rcap) := fun i => (i.h.cell (p := ⟨g, 1, none⟩) hgi).trans hgc
        have hf : ∀ i : BW w2, Calls Tryz.prog 62 #[.slice rA rc.length rcap, .string p1] i.v fun e w' => e = .returned (.tuple #[.string x2, .bool b2]) ∧ Below i.v.heap.size i.v w' := fun i => find_two rc _ p1 x2 b2 i.v (hrd.on i.h) HX2.out HB2.out
        go_upto_region 8 with (fail)
        refine wp_region_quietB (by kernel_rfl) (by kernel_rfl) ?_
        repeat (first | go_big_quiet_skip | (go_big_quiet_want; go_big_quiet_op; first | go_big_quiet_on | (apply Exists.intro; refine ⟨fun _ => ?_, ?_⟩; ((go_at_call 62; with_reducible exact calls_bw (hf _))); go_big_quiet_on)))
        refine wpQuiet_nil ?_
        rintro _ ⟨iq, rfl⟩
        have hbj := below_step hbi iq.h
        have hb1j : Below w1.heap.size w1 iq.v := below_step hb1i iq.h
        generalize iq.v = w3 at *
        clear zz0 zz1 hf
        rcases b1 with _ | _ <;> rcases b2 with _ | _ <;> rcases login with _ | _
        all_goals
          have hG := HGO.out
          first
          | (rw [if_neg (by simp)] at hG
             have HG := Lib.hid hG
             clear hG
             go_wp2_with fail
             go_roundw
             case rel => exact ⟨k + 1, by omega, by go_num, HG.out, hb1j⟩
             case measure => simp [intOf]; omega)
          | (rw [if_pos (by simp)] at hG
             have hG2 : R = some (9, some k) := hG
             subst hG2
             clear hG
             go_wp2_with fail
             go_ret2
             exact ⟨⟨_, _, rfl, w3.heap.size, hbj.size, rfl, Blk.new w3 _ _⟩, hbj.alloc (by exact hbj.size) _⟩)
      · obtain rfl : N = k := by omega
        obtain ⟨wx, rfl⟩ : ∃ wx : World, wx = wr := ⟨_, rfl⟩
        rw [List.drop_of_length_le (by rw [HN.out]; exact Nat.le_refl _)] at hgo
        have hR0 : R = none := hgo
        subst hR0
        obtain ⟨_, hri, hfr1, hKD⟩ := (ansE_none rc offers login).1 HAE.out
        have hfr2 : ∀ p ∈ offers, findB rc p.1 = none := by
          rcases hfr with h | h
          · exact hfr1 h
          · subst h; exact fun _ _ => rfl
        have HFR := Lib.hid hfr2
        have HKD := Lib.hid hKD
        have HRI := Lib.hid hri
        have hNr := hN1.on hbw
        have hvr := HV1.out.on hbw
        have HVR := Lib.hid hvr
        have hsz := hbwr.size
        clear hgo hri hfr1 hfr2 hKD HR hfr hN hN1 hvr hlt hk
        go_wp2_with fail
        go_loopw [17, 67] (fun u i wr => ∃ (k : Nat) (S' : List Nat) (uu : Value), k ≤ N ∧ i = .int .i64 k ∧ uu = u ∧ ORow wr wx.heap.size uu (saidL own login disc (offers.take k)) ∧ NegoH wr S' g own (recL own login disc rc (offers.take k)) ∧ NF S wx wr ∧ (∀ x ∈ S', x ∈ S ∨ wx.heap.size ≤ x) ∧ ∀ x, uu.ownBlock = some x → x ∉ S') (fun _ i _ => N - (intOf i).toNat)
        case atStart => exact ⟨0, S, _, Nat.zero_le _, rfl, rfl, ORow.nil _ _, hNr, NF.refl _ _, fun x hx => .inl hx, fun x hx => by cases hx⟩
        case round =>
          clear hNr
          obtain ⟨k, S', u, hk, rfl, rfl, hu, hNq, hnf, hS', hdu⟩ := hrel
          by_cases hlt : k < N
          · obtain ⟨p, hpk⟩ : ∃ p, offers[k]? = some p := ⟨_, List.getElem?_eq_getElem (by rw [HN.out]; exact hlt)⟩
            have htk : offers.take (k + 1) = offers.take k ++ [p] := by rw [List.take_add_one, hpk]; rfl
            have hfq := fresh_at (own := own) (login := login) (disc := disc) HKD.out HFR.out hpk
            have hrn : recL own login disc rc (offers.take (k + 1)) = recL own login disc rc (offers.take k) ++ one p.1 (ansP own login disc p).2 := by rw [htk, recL_snoc, addB_fresh hfq]
            have hsn : saidL own login disc (offers.take (k + 1)) = saidL own login disc (offers.take k) ++ one p.1 (ansP own login disc p).1 := by rw [htk, saidL_snoc]
            have hlr := recL_len own login disc (offers.take k) rc
            have hls := saidL_len own login disc (offers.take k)
            have hlk : (offers.take k).length = k := by rw [List.length_take, HN.out]; omega
            rw [hlk] at hlr hls
            have hvz : p.2.size ≤ 255 := by
              have h := (HRI.out p (List.mem_of_getElem? hpk)).2
              have := valB_len h
              rw [len_of] at this
              exact this
            obtain ⟨RQ, hRQ⟩ : ∃ RQ, recL own login disc rc (offers.take k) = RQ := ⟨_, rfl⟩
            obtain ⟨SQ, hSQ⟩ : ∃ SQ, saidL own login disc (offers.take k) = SQ := ⟨_, rfl⟩
            rw [hRQ] at hlr hfq hrn hNq
            rw [hSQ] at hls hsn hu
            have hvq : SRd wr (.slice A offers.length cap) 2 offers.length (pairCells offers) := HVR.out.blks hnf.size fun hpos a ha hl => by
              subst ha
              exact hnf.block a.block hl (hvS hpos _ rfl)
            obtain ⟨b, o, cp, u0, u1, hvv, hbl, q0, q1, c0, c1⟩ := hvq.two (k := k) (by rw [HN.out]; exact hlt)
            have hcell := pairCells_at offers k p hpk
            rw [hcell.1] at q0
            rw [hcell.2] at q1
            obtain rfl := Option.some.inj q0
            obtain rfl := Option.some.inj q1
            injection hvv with g1 g2 g3
            subst g1
            subst g3
            obtain ⟨p1, p2⟩ := p
            simp only at c0 c1 hvz hfq hrn hsn
            have hw0q : Below w0.heap.size w0 wr := below_nf (below_step h0 hbwr) hnf hS
            obtain ⟨a1, ha1⟩ : ∃ a, (ansP own login disc (p1, p2)).1 = a := ⟨_, rfl⟩
            obtain ⟨a2, ha2⟩ : ∃ a, (ansP own login disc (p1, p2)).2 = a := ⟨_, rfl⟩
            rw [ha1] at hsn
            rw [ha2] at hrn
            have HA1 := Lib.hid ha1
            have HA2 := Lib.hid ha2
            have HSN := Lib.hid hsn
            have HRN := Lib.hid hrn
            have HFQ := Lib.hid hfq
            have hba : Below wr.heap.size wr (wr.alloc (.cells #[.string p1, .string p2] 62)) := (Below.refl _ _).alloc (Nat.le_refl _) _
            have hBa := Blk.new wr 62 #[.string p1, .string p2]
            have hNa := hNq.on hba
            have hua := hu.on hba
            have hw0a := hw0q.trans (hba.mono hw0q.size)
            have Va := V.on hw0a
            have hnfa := hnf.then_below hba
            obtain ⟨z, hzz⟩ : ∃ z, wr.heap.size = z := ⟨_, rfl⟩
            have hult := fun x hx => (hu.lt x hx).2
            have hSz := hNq.lt
            rw [hzz] at hBa hult hSz
            obtain ⟨wa, hwa⟩ : ∃ wa : World, wr.alloc (.cells #[.string p1, .string p2] 62) = wa := ⟨_, rfl⟩
            rw [hwa] at hba hBa hNa hua hw0a Va hnfa
            clear hpk htk hfq hrn hsn hlk hRQ hSQ hcell ha1 ha2 hvq hNq hu hw0q g2
            have z0 := hBa.cell 0
            have z1 := hBa.cell 1
            go_wp2_with fail
            refine (nans_any g S' own RQ p1 p2 login disc _ hNa hvz hown Va).mono ?_
            rintro e w2 ⟨rfl, hb2⟩
            rw [HA1.out, HA2.out]
            clear z0 z1 c0 c1 hwa
            have hB2 := hBa.below hb2 hBa.lt
            have hN2 := hNa.on hb2
            have hu2 := hua.on hb2
            have hnf2 := hnfa.then_below hb2
            have hz2 := hB2.lt
            obtain ⟨ov, rv, hX2⟩ := hN2
            have hX2 : NegoX w2 S' g own RQ ov rv := hX2
            obtain ⟨s1, hs1⟩ : ∃ s, ba a1 = s := ⟨_, rfl⟩
            obtain ⟨s2, hs2⟩ : ∃ s, ba a2 = s := ⟨_, rfl⟩
            have hl1 : s1.data.toList = a1 := by rw [← hs1]; rfl
            have hl2 : s2.data.toList = a2 := by rw [← hs2]; rfl
            have HS1 := Lib.hid hs1
            have HS2 := Lib.hid hs2
            have HL1 := Lib.hid hl1
            have HL2 := Lib.hid hl2
            rw [hs1, hs2]
            clear hs1 hs2 hl1 hl2 hNa hua hba hnfa Va hw0a hBa
            have eg : ∀ args w, (callFunc 78 args).run Tryz.prog w = .ok (.enter 78 args) w := enters_of Tryz.func78 (by kernel_rfl) rfl
            by_cases e1 : a1 = []
            · have f1 : s1.toList = [] := by rw [toList_of, HL1.out, e1]
              have f2 : s1.toList.isEmpty = true := by rw [f1]; rfl
              have hU : ORow w2 wx.heap.size u (saidL own login disc (offers.take (k + 1))) := by rw [HSN.out, e1, one_nil, List.append_nil]; exact hu2
              clear e1
              by_cases e2 : a2 = []
              · have f3 : s2.toList = [] := by rw [toList_of, HL2.out, e2]
                have f4 : s2.toList.isEmpty = true := by rw [f3]; rfl
                have hRf : NegoH w2 S' g own (recL own login disc rc (offers.take (k + 1))) := by rw [HRN.out, e2, one_nil, List.append_nil]; exact NegoX.h hX2
                go_wp2_with fail
                go_roundw
                case rel => exact ⟨k + 1, S', _, by omega, by go_num, rfl, hU, hRf, hnf2, hS', hdu⟩
                case measure => simp [intOf]; omega
              · have f3 : ¬ s2.toList = [] := by rw [toList_of, HL2.out]; exact e2
                have f4 : s2.toList.isEmpty = false := by
                  rcases hl : s2.toList with _ | ⟨y, l⟩
                  · exact absurd hl f3
                  · rfl
                have hone2 : one p1 a2 = [(p1, s2)] := by rw [one_some _ e2, HS2.out]
                clear e2
                have hrow := hX2.2.2.1
                obtain ⟨rA, rcap, rfl⟩ := hrow.form
                have hBg := hX2.1
                have hgc := hBg.cell 1
                have hzc := hB2.cell 0
                have hzl := hB2.lt
                have hno : ∀ q ∈ RQ, sameK p1 q = false := fun q hq => decide_eq_false (findB_none.1 HFQ.out q hq)
                have hdel := delf_none 78 #[.pointer (some ⟨z, 0, none⟩)] eg (sameK p1) RQ (.slice rA RQ.length rcap) w2 hrow.rd (by omega) (fun W' hb q hq => clos_any z p1 q.1 q.2 W' ((hb.cell (p := ⟨z, 0, none⟩) hzl).trans hzc) (Nat.lt_of_lt_of_le hzl hb.size)) hno
                go_wp2_with fail
                refine hdel.mono ?_
                rintro e w4 ⟨rfl, hb4⟩
                have hX4 := hX2.on hb4
                have hB4 := hB2.below hb4 hB2.lt
                have hU4 := hU.on hb4
                have hnf4 := hnf2.then_below hb4
                clear hdel hgc hBg
                have hBg := hX4.1
                have hgc := hBg.cell 1
                have hgf := hBg.frozen 1
                go_upto_region 21 with (fail)
                obtain ⟨wd, hwd⟩ : ∃ W : World, w4.setCell ⟨g, 1, none⟩ (.slice rA RQ.length rcap) = W := ⟨_, rfl⟩
                have hgS := hX4.2.2.2.1
                have hgz : g ≠ z := Nat.ne_of_lt (hSz g hgS)
                have hXd : NegoX wd S' g own RQ ov (.slice rA RQ.length rcap) := by rw [← hwd]; exact hX4.put hX4.2.2.1 rfl
                have hUd : ORow wd wx.heap.size u (saidL own login disc (offers.take (k + 1))) := by rw [← hwd]; exact hU4.put (fun e => hdu _ e hgS) _ _
                have hnfd : NF S wx wd := by rw [← hwd]; exact hnf4.put (hS' g hgS) _ _
                have hBd : Blk wd z 62 #[.string p1, .string p2] := by rw [← hwd]; exact hB4.far (fun e => hgz e.symm) _
                rw [hwd]
                clear hwd hX4 hU4 hnf4 hB4 hBg hgc hgf hb4
                have q1 := hXd.1.cell 1
                have q2 := hBd.cell 0
                have qf := hXd.1.frozen 1
                have hbb : Below wd.heap.size wd ((wd.alloc (.cells #[.string p1, .string s2] 62)).drew) := ((Below.refl _ _).alloc (Nat.le_refl _) _).drew
                have hXb := hXd.on hbb
                have hBb := hBd.below hbb hBd.lt
                have hUb := hUd.on hbb
                have hnfb := hnfd.then_below hbb
                have hcb0 : ((wd.alloc (.cells #[.string p1, .string s2] 62)).drew).cell? ((⟨wd.heap.size, 0, none⟩ : Addr).add 0) = some (.string p1) := (Blk.new wd 62 #[.string p1, .string s2]).cell 0
                have hcb1 : ((wd.alloc (.cells #[.string p1, .string s2] 62)).drew).cell? ((⟨wd.heap.size, 0, none⟩ : Addr).add 1) = some (.string s2) := (Blk.new wd 62 #[.string p1, .string s2]).cell 1
                have hrne : ∀ y, y ∉ S' → some y ≠ (Value.slice rA RQ.length rcap).ownBlock := fun y hy e => hy (hXb.2.2.2.2.2.1 y e.symm).1
                have hgr : some g ≠ (Value.slice rA RQ.length rcap).ownBlock := fun e => (hXb.2.2.2.2.2.1 g e.symm).2 rfl
                have hzr := hrne z (fun hm => Nat.lt_irrefl _ (hSz z hm))
                have hlen2 : (RQ.length + 1) * 32 ≤ 140737488355328 := by omega
                have hrb := hXb.2.2.1
                have hBgb := hXb.1
                have q1b := hXb.1.cell 1
                have q2b := hBb.cell 0
                have q1c := (Blk.alloc hXd.1 (.cells #[.string p1, .string s2] 62)).cell 1
                have q2c := (Blk.alloc hBd (.cells #[.string p1, .string s2] 62)).cell 0
                have hUne : (u).ownBlock = none ∨ (u).ownBlock ≠ (Value.slice rA RQ.length rcap).ownBlock := by
                  rcases h : (u).ownBlock with _ | x
                  · exact .inl rfl
                  · exact .inr fun e => hdu x h (hXb.2.2.2.2.2.1 x e.symm).1
                have HL : Hid ((RQ ++ [(p1, s2)]).length = RQ.length + 1) := Lib.hid (by simp)
                have HO2 := Lib.hid hone2
                clear hone2
                go_region_law (refine step_append_po _ rfl _ _ rfl 0 _ RQ rfl (by first | exact (ORow.alloc hXd.2.2.1 _).drew | exact ORow.alloc hXd.2.2.1 _ | exact (ORow.alloc hXd.2.2.1 _).drewN _ | exact ORow.alloc (ORow.drew hXd.2.2.1) _ | exact ORow.alloc (ORow.drewN hXd.2.2.1 _) _) ⟨wd.heap.size, 0, none⟩ 1 (p1, s2) rfl (by first | exact hcb0 | simp) (by first | exact hcb1 | simp) hlen2 (Nat.zero_le _) ?_; intro rv5 w5 ho5 hg5 hat5; obtain ⟨rA5, rcap5, rfl⟩ := ho5.form; have hB5g := Blk.grown (by first | exact Blk.alloc hXd.1 _ | exact (Blk.alloc hXd.1 _).drew | exact Blk.alloc hXd.1.drew _ | exact (Blk.alloc hXd.1 _).drewN _) hg5 hgr; have kc := hB5g.cell 1; have kf := hB5g.frozen 1)
                all_goals
                  rw [HL.out] at ho5 hat5
                  have hg5' : ((wd.alloc (.cells #[.string p1, .string s2] 62)).drew).grownBy w5 (Value.slice rA RQ.length rcap).ownBlock := hg5
                  have hat5' : (Value.slice rA5 (RQ.length + 1) rcap5).ownBlock = (Value.slice rA RQ.length rcap).ownBlock ∨ (Value.slice rA5 (RQ.length + 1) rcap5).ownBlock = some ((wd.alloc (.cells #[.string p1, .string s2] 62)).drew).heap.size := hat5
                  obtain ⟨S5, hX5, hnf5, hS5, hd5⟩ := hXb.push ho5 hg5' hat5'
                  have hU5 := (hUb.grown hg5' hUne).put (fun e => hdu g e hgS) 1 (.slice rA5 (RQ.length + 1) rcap5)
                  have hnf6 := hnfb.trans hnf5 hS'
                  have hS6 : ∀ x ∈ S5, x ∈ S ∨ wx.heap.size ≤ x := fun x hx => by
                    rcases hS5 x hx with h | h
                    · exact hS' x h
                    · exact .inr (Nat.le_trans hnfb.size h)
                  have hD6 : ∀ x, (u).ownBlock = some x → x ∉ S5 := fun x hx => hd5 x (hdu x hx) (hUb.lt x hx).2
                  have hR5 : NegoH (w5.setCell ⟨g, 1, none⟩ (.slice rA5 (RQ.length + 1) rcap5)) S5 g own (recL own login disc rc (offers.take (k + 1))) := by rw [HRN.out, HO2.out]; exact NegoX.h hX5
                  clear hg5 hat5 hg5' hat5'
                  go_wp2_with fail
                  go_roundw
                  case rel => exact ⟨k + 1, S5, _, by omega, by go_num, rfl, hU5, hR5, hnf6, hS6, hD6⟩
                  case measure => simp [intOf]; omega
            · have f1 : ¬ s1.toList = [] := by rw [toList_of, HL1.out]; exact e1
              have f2 : s1.toList.isEmpty = false := by
                rcases hl : s1.toList with _ | ⟨y, l⟩
                · exact absurd hl f1
                · rfl
              have hone : one p1 a1 = [(p1, s1)] := by rw [one_some _ e1, HS1.out]
              have z0 := hB2.cell 0
              have hlen : (SQ.length + 1) * 32 ≤ 140737488355328 := by omega
              have hul := hu2.row.lt
              clear e1
              go_wp2_with (at_builtin; refine wpList_append_po _ rfl _ _ rfl wx.heap.size _ SQ rfl (hu2.alloc _) ⟨w2.heap.size, 0, none⟩ 1 (p1, s1) rfl ((Blk.new w2 62 #[.string p1, .string s1]).cell 0) ((Blk.new w2 62 #[.string p1, .string s1]).cell 1) hlen (by simp; exact Nat.le_succ_of_le hnf2.size) ?_)
              intro u3 w3 ho3 hg3 hat3
              have hb3a : Below w2.heap.size w2 (w2.alloc (.cells #[.string p1, .string s1] 62)) := (Below.refl _ _).alloc (Nat.le_refl _) _
              have hX3 := (hX2.on hb3a).grown hg3 hdu
              have hnf3 := (hnf2.then_below hb3a).grown hg3 fun x hx => .inr (hu2.lt x hx).1
              have hB3 := (hB2.below hb3a hB2.lt).grown hg3 fun e => by have := hult z e.symm; omega
              have hdu3 : ∀ x, u3.ownBlock = some x → x ∉ S' := by
                rcases hat3 with h | h
                · rw [h]; exact hdu
                · intro x hx hm
                  rw [h] at hx
                  injection hx with hx
                  have hl := hX2.lt x hm
                  rw [← hx] at hl
                  exact absurd hl (by simp)
              have hU3 : ORow w3 wx.heap.size u3 (saidL own login disc (offers.take (k + 1))) := by rw [HSN.out, hone]; exact ho3
              clear z0 hone hat3
              by_cases e2 : a2 = []
              · have f3 : s2.toList = [] := by rw [toList_of, HL2.out, e2]
                have f4 : s2.toList.isEmpty = true := by rw [f3]; rfl
                have hRf : NegoH w3 S' g own (recL own login disc rc (offers.take (k + 1))) := by rw [HRN.out, e2, one_nil, List.append_nil]; exact NegoX.h hX3
                go_wp2_with fail
                go_roundw
                case rel => exact ⟨k + 1, S', _, by omega, by go_num, rfl, hU3, hRf, hnf3, hS', hdu3⟩
                case measure => simp [intOf]; omega
              · have f3 : ¬ s2.toList = [] := by rw [toList_of, HL2.out]; exact e2
                have f4 : s2.toList.isEmpty = false := by
                  rcases hl : s2.toList with _ | ⟨y, l⟩
                  · exact absurd hl f3
                  · rfl
                have hone2 : one p1 a2 = [(p1, s2)] := by rw [one_some _ e2, HS2.out]
                clear e2
                have hrow := hX3.2.2.1
                obtain ⟨rA, rcap, rfl⟩ := hrow.form
                have hBg := hX3.1
                have hgc := hBg.cell 1
                have hzc := hB3.cell 0
                have hzl := hB3.lt
                have hno : ∀ q ∈ RQ, sameK p1 q = false := fun q hq => decide_eq_false (findB_none.1 HFQ.out q hq)
                have hdel := delf_none 78 #[.pointer (some ⟨z, 0, none⟩)] eg (sameK p1) RQ (.slice rA RQ.length rcap) w3 hrow.rd (by omega) (fun W' hb q hq => clos_any z p1 q.1 q.2 W' ((hb.cell (p := ⟨z, 0, none⟩) hzl).trans hzc) (Nat.lt_of_lt_of_le hzl hb.size)) hno
                go_wp2_with fail
                refine hdel.mono ?_
                rintro e w4 ⟨rfl, hb4⟩
                have hX4 := hX3.on hb4
                have hB4 := hB3.below hb4 hB3.lt
                have hU4 := hU3.on hb4
                have hnf4 := hnf3.then_below hb4
                clear hdel hgc hBg
                have hBg := hX4.1
                have hgc := hBg.cell 1
                have hgf := hBg.frozen 1
                go_upto_region 21 with (fail)
                obtain ⟨wd, hwd⟩ : ∃ W : World, w4.setCell ⟨g, 1, none⟩ (.slice rA RQ.length rcap) = W := ⟨_, rfl⟩
                have hgS := hX4.2.2.2.1
                have hgz : g ≠ z := Nat.ne_of_lt (hSz g hgS)
                have hXd : NegoX wd S' g own RQ ov (.slice rA RQ.length rcap) := by rw [← hwd]; exact hX4.put hX4.2.2.1 rfl
                have hUd : ORow wd wx.heap.size u3 (saidL own login disc (offers.take (k + 1))) := by rw [← hwd]; exact hU4.put (fun e => hdu3 _ e hgS) _ _
                have hnfd : NF S wx wd := by rw [← hwd]; exact hnf4.put (hS' g hgS) _ _
                have hBd : Blk wd z 62 #[.string p1, .string p2] := by rw [← hwd]; exact hB4.far (fun e => hgz e.symm) _
                rw [hwd]
                clear hwd hX4 hU4 hnf4 hB4 hBg hgc hgf hb4
                have q1 := hXd.1.cell 1
                have q2 := hBd.cell 0
                have qf := hXd.1.frozen 1
                have hbb : Below wd.heap.size wd ((wd.alloc (.cells #[.string p1, .string s2] 62)).drew) := ((Below.refl _ _).alloc (Nat.le_refl _) _).drew
                have hXb := hXd.on hbb
                have hBb := hBd.below hbb hBd.lt
                have hUb := hUd.on hbb
                have hnfb := hnfd.then_below hbb
                have hcb0 : ((wd.alloc (.cells #[.string p1, .string s2] 62)).drew).cell? ((⟨wd.heap.size, 0, none⟩ : Addr).add 0) = some (.string p1) := (Blk.new wd 62 #[.string p1, .string s2]).cell 0
                have hcb1 : ((wd.alloc (.cells #[.string p1, .string s2] 62)).drew).cell? ((⟨wd.heap.size, 0, none⟩ : Addr).add 1) = some (.string s2) := (Blk.new wd 62 #[.string p1, .string s2]).cell 1
                have hrne : ∀ y, y ∉ S' → some y ≠ (Value.slice rA RQ.length rcap).ownBlock := fun y hy e => hy (hXb.2.2.2.2.2.1 y e.symm).1
                have hgr : some g ≠ (Value.slice rA RQ.length rcap).ownBlock := fun e => (hXb.2.2.2.2.2.1 g e.symm).2 rfl
                have hzr := hrne z (fun hm => Nat.lt_irrefl _ (hSz z hm))
                have hlen2 : (RQ.length + 1) * 32 ≤ 140737488355328 := by omega
                have hrb := hXb.2.2.1
                have hBgb := hXb.1
                have q1b := hXb.1.cell 1
                have q2b := hBb.cell 0
                have q1c := (Blk.alloc hXd.1 (.cells #[.string p1, .string s2] 62)).cell 1
                have q2c := (Blk.alloc hBd (.cells #[.string p1, .string s2] 62)).cell 0
                have hUne : (u3).ownBlock = none ∨ (u3).ownBlock ≠ (Value.slice rA RQ.length rcap).ownBlock := by
                  rcases h : (u3).ownBlock with _ | x
                  · exact .inl rfl
                  · exact .inr fun e => hdu3 x h (hXb.2.2.2.2.2.1 x e.symm).1
                have HL : Hid ((RQ ++ [(p1, s2)]).length = RQ.length + 1) := Lib.hid (by simp)
                have HO2 := Lib.hid hone2
                clear hone2
                go_region_law (refine step_append_po _ rfl _ _ rfl 0 _ RQ rfl (by first | exact (ORow.alloc hXd.2.2.1 _).drew | exact ORow.alloc hXd.2.2.1 _ | exact (ORow.alloc hXd.2.2.1 _).drewN _ | exact ORow.alloc (ORow.drew hXd.2.2.1) _ | exact ORow.alloc (ORow.drewN hXd.2.2.1 _) _) ⟨wd.heap.size, 0, none⟩ 1 (p1, s2) rfl (by first | exact hcb0 | simp) (by first | exact hcb1 | simp) hlen2 (Nat.zero_le _) ?_; intro rv5 w5 ho5 hg5 hat5; obtain ⟨rA5, rcap5, rfl⟩ := ho5.form; have hB5g := Blk.grown (by first | exact Blk.alloc hXd.1 _ | exact (Blk.alloc hXd.1 _).drew | exact Blk.alloc hXd.1.drew _ | exact (Blk.alloc hXd.1 _).drewN _) hg5 hgr; have kc := hB5g.cell 1; have kf := hB5g.frozen 1)
                all_goals
                  rw [HL.out] at ho5 hat5
                  have hg5' : ((wd.alloc (.cells #[.string p1, .string s2] 62)).drew).grownBy w5 (Value.slice rA RQ.length rcap).ownBlock := hg5
                  have hat5' : (Value.slice rA5 (RQ.length + 1) rcap5).ownBlock = (Value.slice rA RQ.length rcap).ownBlock ∨ (Value.slice rA5 (RQ.length + 1) rcap5).ownBlock = some ((wd.alloc (.cells #[.string p1, .string s2] 62)).drew).heap.size := hat5
                  obtain ⟨S5, hX5, hnf5, hS5, hd5⟩ := hXb.push ho5 hg5' hat5'
                  have hU5 := (hUb.grown hg5' hUne).put (fun e => hdu3 g e hgS) 1 (.slice rA5 (RQ.length + 1) rcap5)
                  have hnf6 := hnfb.trans hnf5 hS'
                  have hS6 : ∀ x ∈ S5, x ∈ S ∨ wx.heap.size ≤ x := fun x hx => by
                    rcases hS5 x hx with h | h
                    · exact hS' x h
                    · exact .inr (Nat.le_trans hnfb.size h)
                  have hD6 : ∀ x, (u3).ownBlock = some x → x ∉ S5 := fun x hx => hd5 x (hdu3 x hx) (hUb.lt x hx).2
                  have hR5 : NegoH (w5.setCell ⟨g, 1, none⟩ (.slice rA5 (RQ.length + 1) rcap5)) S5 g own (recL own login disc rc (offers.take (k + 1))) := by rw [HRN.out, HO2.out]; exact NegoX.h hX5
                  clear hg5 hat5 hg5' hat5'
                  go_wp2_with fail
                  go_roundw
                  case rel => exact ⟨k + 1, S5, _, by omega, by go_num, rfl, hU5, hR5, hnf6, hS6, hD6⟩
                  case measure => simp [intOf]; omega
          · obtain rfl : N = k := by omega
            rw [List.take_of_length_le (by rw [HN.out]; exact Nat.le_refl _)] at hu hNq
            have hu9 := hu.more hbwr.size
            have hnf9 := (NF.of_below (S := S) hbwr).trans hnf fun x hx => .inl hx
            have hS9 : ∀ x ∈ S', x ∈ S ∨ w.heap.size ≤ x := fun x hx => by
              rcases hS' x hx with h | h
              · exact .inl h
              · exact .inr (Nat.le_trans hbwr.size h)
            obtain ⟨uA, ucap, rfl⟩ := hu.form
            clear hu
            go_wp2_with fail
            go_ret2
            exact ⟨S', _, rfl, hu9, hNq, hnf9, hS9, hdu⟩
end Go.Proofs.YtamlepacljjpiaaGreatDoor
