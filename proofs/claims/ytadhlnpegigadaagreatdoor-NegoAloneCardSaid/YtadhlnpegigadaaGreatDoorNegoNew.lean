/- The contract of nego.New. -/
import Derived.Test.YtadhlnpegigadaaGreatDoorEnvK
import Derived.Test.YtadhlnpegigadaaGreatDoorGpairs
import Derived.Deep.RegionHeld3
namespace Go.Proofs.YtadhlnpegigadaaGreatDoor
open Go.ChangeShapes Go.WideShapes Go.ChangeAt Go.RowKit Go.Shelf
set_option linter.unusedVariables false
def fitsB (p : ByteArray × ByteArray) : Nat := fitsE p.1.data.toList p.2.data.toList
/- what is wrong with what one has, behind what is right -/
def nNewGo (pre : PairL) : PairL → Option (Nat × Nat)
  | [] => none
  | p :: r => if (findB pre p.1).isSome = true then some (9, pre.length) else if fitsB p ≠ 0 then some (fitsB p, pre.length) else nNewGo (pre ++ [p]) r
def nNewR (own : PairL) : Option (Nat × Option Nat) := match pRightR own with
  | some e => some e
  | none => (nNewGo [] own).map fun r => (r.1, some r.2)
def NegoAt (w : World) (g : Nat) (ov rv : Value) : Prop := Blk w g 99 #[ov, rv]
def newIs (w : World) (base : Nat) (own : PairL) (e : Ending) : Option (Nat × Option Nat) → Prop
  | some E => ∃ er, e = .returned (.tuple #[.pointer none, er]) ∧ PErr w base er (some E)
  | none => ∃ g ov, e = .returned (.tuple #[.pointer (some ⟨g, 0, none⟩), .nilIface]) ∧ base ≤ g ∧ NegoAt w g ov (.slice none 0 0) ∧ PRow w base ov own ∧ (∀ k, ov.ownBlock = some k → k ≠ g)
theorem wp_worldN {P : Program} {c : Code} {Q : Exit → Act → World → Prop} {a : Act} {w w' : World} (h : w = w') (hw : c.wp P Q a w') : c.wp P Q a w := by rw [h]; exact hw
theorem srd_pre {w : World} {A : Option Addr} {cap : Nat} {l : PairL} (h : SRd w (.slice A l.length cap) 2 l.length (pairCells l)) (k : Nat) (hk : k ≤ l.length) : SRd w (.slice A k cap) 2 (l.take k).length (pairCells (l.take k)) := by
  obtain ⟨h1, A', cap', hv, h2, h3, h4⟩ := h
  injection hv with e1 _ e3
  subst e1
  subst e3
  have hl : (l.take k).length = k := by rw [List.length_take]; omega
  refine ⟨by rw [pairCells_len]; omega, A, cap, by rw [hl], by omega, h3, fun hpos => ?_⟩
  obtain ⟨b, o, hA, hb, hc⟩ := h4 (by omega)
  refine ⟨b, o, hA, hb, fun j u hu => hc j u ?_⟩
  have hj : j < 2 * k := by
    have := (List.getElem?_eq_some_iff.1 hu).1
    rw [pairCells_len, hl] at this
    exact this
  have : pairCells l = pairCells (l.take k) ++ pairCells (l.drop k) := by rw [← pairCells_append, List.take_append_drop]
  rw [this, List.getElem?_append_left (by rw [pairCells_len, hl]; exact hj)]
  exact hu
set_option maxRecDepth 20000 in
set_option maxHeartbeats 4000000 in
theorem nnew_any (own : PairL) (v : Value) (w : World) (hv : SRd w v 2 own.length (pairCells own)) (hd : ∀ p ∈ own, psmall p) (V : Env w) :
    Calls Tryz.prog 52 #[v] w fun e w' => newIs w' w.heap.size own e (nNewR own) ∧ Below w.heap.size w w' := by
  obtain ⟨A, cap, rfl⟩ : ∃ A cap, v = .slice A own.length cap := by obtain ⟨_, A, cap, hv, _⟩ := hv; exact ⟨A, cap, hv⟩
  obtain ⟨R, hR⟩ : ∃ R, nNewR own = R := ⟨_, rfl⟩
  rw [hR]
  unfold nNewR at hR
  have HD := Lib.hid hd
  go_enter Tryz.func52, Tryz.ntmps52
  go_wp2_with fail
  refine (pRight_any own _ w hv hd).mono ?_
  rintro e w1 ⟨er, rfl, he, hb1⟩
  rcases hp : pRightR own with _ | E
  rotate_left
  · rw [hp] at he hR
    have he' := he
    obtain ⟨t, x, rfl⟩ : ∃ t x, er = .iface t x := by
      obtain ⟨c, q⟩ := E
      rcases q with _ | q
      · have hc : c ≠ 0 := by
          intro h
          subst h
          unfold pRightR at hp
          split at hp
          · cases hp
          · rcases hg : pRightGo own 0 with _ | ⟨a, b⟩ <;> rw [hg] at hp <;> cases hp
        have : er = errv c := he
        unfold errv at this
        rw [if_neg hc] at this
        exact ⟨_, _, this⟩
      · obtain ⟨g, _, h, _⟩ := he
        exact ⟨_, _, h⟩
    subst hR
    clear hp he
    go_wp2_with fail
    go_ret2
    exact ⟨⟨_, rfl, he'⟩, hb1⟩
  · rw [hp] at he hR
    obtain rfl : er = .nilIface := he
    obtain ⟨h60, hok⟩ := pRight_none hp
    have V1 := V.on hb1
    have hv1 := hv.on hb1
    obtain ⟨N, hN⟩ : ∃ N, own.length = N := ⟨_, rfl⟩
    rw [hN] at h60 ⊢
    have HV1 := Lib.hid hv1
    have HOK := Lib.hid hok
    have HR := Lib.hid hR
    have HN := Lib.hid hN
    have hN60 : (N : Int) ≤ 60 := by omega
    clear hp hR hv hv1 hok hN hd
    go_wp2_with fail
    go_loopw [17] (fun i wr => ∃ k : Nat, k ≤ N ∧ i = .int .i64 k ∧ R = (nNewGo (own.take k) (own.drop k)).map (fun r => (r.1, some r.2)) ∧ Below w1.heap.size w1 wr) (fun i _ => N - (intOf i).toNat)
    case atStart => exact ⟨0, Nat.zero_le _, rfl, HR.out.symm, Below.refl _ _⟩
    case round =>
      obtain ⟨k, hk, rfl, hgo, hbw⟩ := hrel
      have hbwr := below_step hb1 hbw
      by_cases hlt : k < N
      · obtain ⟨p, hpk⟩ : ∃ p, own[k]? = some p := ⟨_, List.getElem?_eq_getElem (by rw [HN.out]; exact hlt)⟩
        have hdr : own.drop k = p :: own.drop (k + 1) := by
          obtain ⟨h1, h2⟩ := List.getElem?_eq_some_iff.1 hpk
          rw [List.drop_eq_getElem_cons h1, h2]
        have htk : own.take (k + 1) = own.take k ++ [p] := by rw [List.take_add_one, hpk]; rfl
        have hlk : (own.take k).length = k := by rw [List.length_take, HN.out]; omega
        rw [hdr, nNewGo, hlk, ← htk] at hgo
        have hvr := HV1.out.on hbw
        have hpre := srd_pre hvr k (by rw [HN.out]; exact hk)
        obtain ⟨b, o, cp, u0, u1, hvv, hbl, q0, q1, c0, c1⟩ := hvr.two (k := k) (by rw [HN.out]; exact hlt)
        have hcell := pairCells_at own k p hpk
        rw [hcell.1] at q0
        rw [hcell.2] at q1
        obtain rfl := Option.some.inj q0
        obtain rfl := Option.some.inj q1
        injection hvv with g1 g2 g3
        subst g1
        subst g3
        have hsz := HOK.out p (List.mem_of_getElem? hpk)
        obtain ⟨p1, p2⟩ := p
        simp only at c0 c1 hsz
        have hvz : p2.size ≤ 255 := by have := valB_len hsz.2; rw [len_of] at this; exact this
        obtain ⟨wa, hwa⟩ : ∃ wa : World, wr.alloc (.cells #[.string p1, .string p2] 52) = wa := ⟨_, rfl⟩
        have hba : Below wr.heap.size wr wa := by rw [← hwa]; exact (Below.refl _ _).alloc (Nat.le_refl _) _
        have hBa : Blk wa wr.heap.size 52 #[.string p1, .string p2] := by rw [← hwa]; exact Blk.new wr _ _
        obtain ⟨Q, hQ⟩ : ∃ Q, findB (own.take k) p1 = Q := ⟨_, rfl⟩
        rw [hQ] at hgo
        have HQ := Lib.hid hQ
        have HGO := Lib.hid hgo
        have hkN : (k : Int) ≤ (N : Int) := by omega
        have hkc : (k : Int) ≤ (cap : Int) := by
          obtain ⟨_, A', cap', hx, h2, h3, _⟩ := hvr
          injection hx with _ e2 e3
          have := HN.out
          have h2' : own.length ≤ cap' := h2
          omega
        have HWA := Lib.hid hwa
        clear hdr htk hlk hpk hcell hQ hgo g2 hwa
        have hwal := hBa.lt
        have hpa := hpre.on hba
        have hbawr := below_step hbwr hba
        have hz := hBa.cell 0
        have hz1 := hBa.cell 1
        have hda : Below wa.heap.size wa wa.drew := (Below.refl _ _).drew
        obtain ⟨g, hg⟩ : ∃ g, wr.heap.size = g := ⟨_, rfl⟩
        rw [hg] at hBa hwal hz hz1
        have zz0 : ∀ i : BW wa, i.v.cell? ⟨g, 0, none⟩ = some (.string p1) := fun i => (i.h.cell (p := ⟨g, 0, none⟩) hwal).trans hz
        have zz1 : ∀ i : BW wa, i.v.cell? ⟨g, 1, none⟩ = some (.string p2) := fun i => (i.h.cell (p := ⟨g, 1, none⟩) hwal).trans hz1
        rcases Q with _ | q
        · rw [if_neg (by simp)] at HGO
          have hf : ∀ i : BW wa, Calls Tryz.prog 46 #[.slice (some ⟨b, o, none⟩) k cap, .string p1] i.v fun e w' => e = .returned (.tuple #[.string ⟨#[]⟩, .bool false]) ∧ Below i.v.heap.size i.v w' := fun i => by
            have := find_any (own.take k) _ p1 i.v (hpa.on i.h)
            rw [HQ.out] at this
            exact this
          go_upto_region 7 with (fail)
          refine wp_worldN HWA.out ?_
          try rw [hg]
          clear c0 c1
          refine wp_region_quietB (by kernel_rfl) (by kernel_rfl) ?_
          repeat (first | go_big_quiet_skip | (go_big_quiet_want; go_big_quiet_op; first | go_big_quiet_on | (apply Exists.intro; refine ⟨fun _ => ?_, ?_⟩; ((go_at_call 46; with_reducible exact calls_bw (hf _))); go_big_quiet_on)))
          refine wpQuiet_nil ?_
          rintro _ ⟨iq, rfl⟩
          have hbi := below_step hbawr iq.h
          have hb1i : Below w1.heap.size w1 iq.v := below_step (below_step hbw hba) iq.h
          have V2 := V.on hbi
          have y0 := zz0 iq
          have y1 := zz1 iq
          generalize iq.v = w2 at *
          obtain ⟨F, hF⟩ : ∃ F, fitsB (p1, p2) = F := ⟨_, rfl⟩
          rw [hF] at HGO
          have hF' : fitsE p1.data.toList p2.data.toList = F := hF
          go_wp2_with fail
          refine (fits_any p1 p2 _ (by omega) V2.T V2.E V2.S).mono ?_
          rintro e w3 ⟨rfl, hb3⟩
          rw [hF']
          have hb3w := below_step hbi hb3
          have V3 := V2.on hb3
          rcases Nat.eq_zero_or_pos F with rfl | hpos
          · rw [if_neg (by simp)] at HGO
            have he0 : errv 0 = .nilIface := rfl
            rw [he0]
            have hb1r : Below w1.heap.size w1 w3 := below_step hb1i hb3
            go_wp2_with fail
            go_roundw
            · exact ⟨k + 1, by omega, by first | rfl | simp, HGO.out, hb1r⟩
            · show N - ((k : Int) + 1).toNat < N - (k : Int).toNat
              omega
          · rw [if_pos (by omega)] at HGO
            have HF := Lib.hid hF
            have hFe : ∃ t x, errv F = .iface t x := by unfold errv; rw [if_neg (by omega)]; exact ⟨_, _, rfl⟩
            obtain ⟨t, x, hFe⟩ := hFe
            have htell := tell_errv F
            rw [hFe] at htell
            rw [hFe]
            go_wp2_with fail
            refine (htell _ V3.L).mono ?_
            rintro e w4 ⟨rfl, hb4⟩
            have hb4w := below_step hb3w hb4
            go_wp2_with fail
            go_ret2
            have HGO' := HGO.out
            subst HGO'
            refine ⟨⟨_, rfl, w4.heap.size, hb4w.size, rfl, ?_⟩, hb4w.alloc (by exact hb4w.size) _⟩
            exact Blk.new w4 _ _
        · rw [if_pos (by simp)] at HGO
          have hf : ∀ i : BW wa, Calls Tryz.prog 46 #[.slice (some ⟨b, o, none⟩) k cap, .string p1] i.v fun e w' => e = .returned (.tuple #[.string q, .bool true]) ∧ Below i.v.heap.size i.v w' := fun i => by
            have := find_any (own.take k) _ p1 i.v (hpa.on i.h)
            rw [HQ.out] at this
            exact this
          go_upto_region 7 with (fail)
          refine wp_worldN HWA.out ?_
          try rw [hg]
          clear c0 c1
          refine wp_region_quietB (by kernel_rfl) (by kernel_rfl) ?_
          repeat (first | go_big_quiet_skip | (go_big_quiet_want; go_big_quiet_op; first | go_big_quiet_on | (apply Exists.intro; refine ⟨fun _ => ?_, ?_⟩; ((go_at_call 46; with_reducible exact calls_bw (hf _))); go_big_quiet_on)))
          refine wpQuiet_nil ?_
          rintro _ ⟨iq, rfl⟩
          have hbi := below_step hbawr iq.h
          generalize iq.v = w2 at *
          go_wp2_with fail
          go_ret2
          have HGO' := HGO.out
          subst HGO'
          refine ⟨⟨_, rfl, w2.heap.size, hbi.size, rfl, ?_⟩, hbi.alloc (by exact hbi.size) _⟩
          exact Blk.new w2 _ _
      · obtain rfl : k = N := by omega
        rw [List.drop_of_length_le (by rw [HN.out]; exact Nat.le_refl _)] at hgo
        have hR : R = none := by rw [hgo]; rfl
        subst hR
        have hvr := HV1.out.on hbw
        go_wp2_with fail
        have hcl := clone_pair own _ _ hvr (by rw [HN.out]; omega)
        rw [HN.out] at hcl
        refine hcl.mono ?_
        rintro e w2 ⟨u, rfl, hu, hb2⟩
        obtain ⟨uA, ucap, rfl, _⟩ := hu.form
        have hb2w := below_step hbwr hb2
        go_wp2_with fail
        go_ret2
        refine ⟨⟨w2.heap.size, _, rfl, hb2w.size, Blk.new w2 _ _, ?_, fun j hj => ?_⟩, hb2w.alloc (by exact hb2w.size) _⟩
        · exact MRow.more (MRow.alloc hu _) hbwr.size
        · have := (hu.lt j hj).2
          omega
end Go.Proofs.YtadhlnpegigadaaGreatDoor
