/- NegoNew NegoP NegoL NegoS NegoS2 NegoDel. -/
import Derived.Test.YtamlepacljjpiaaGreatDoorGkeysb
import Derived.Test.YtamlepacljjpiaaGreatDoorGpairs
import Derived.Deep.RegionHeld3
import Derived.Test.YtamlepacljjpiaaGreatDoorGkeys
import Derived.Maps.AppendAt
/- The contract of nego.New. -/
namespace Go.Proofs.YtamlepacljjpiaaGreatDoor
open Go.ChangeShapes Go.WideShapes Go.ChangeAt Go.RowKit Go.Shelf
set_option linter.unusedVariables false
def fitsB (p : ByteArray × ByteArray) : Nat := fitsE p.1.data.toList p.2.data.toList
/- what is wrong with what one has, behind what is right -/
def nNewGo (pre : PairL) : PairL → Option (Nat × Nat)
  | [] => none
  | p :: r => if (findB pre p.1).isSome = true then some (9, pre.length) else if fitsB p ≠ 0 then some (fitsB p, pre.length) else nNewGo (pre ++ [p]) r
def nNewR (own : PairL) : Option (Nat × Option Nat) := match pRightR own with
  | some e => some e
  | none => (nNewGo [] own).map fun r => (r.1, some r.2)
def NegoAt (w : World) (g : Nat) (ov rv : Value) : Prop := Blk w g 130 #[ov, rv]
def newIs (w : World) (base : Nat) (own : PairL) (e : Ending) : Option (Nat × Option Nat) → Prop
  | some E => ∃ er, e = .returned (.tuple #[.pointer none, er]) ∧ PErr w base er (some E)
  | none => ∃ g ov, e = .returned (.tuple #[.pointer (some ⟨g, 0, none⟩), .nilIface]) ∧ base ≤ g ∧ NegoAt w g ov (.slice none 0 0) ∧ PRow w base ov own ∧ (∀ k, ov.ownBlock = some k → k ≠ g)
theorem wp_worldN {P : Program} {c : Code} {Q : Exit → Act → World → Prop} {a : Act} {w w' : World} (h : w = w') (hw : c.wp P Q a w') : c.wp P Q a w := by rw [h]; exact hw
theorem srd_pre {w : World} {A : Option Addr} {cap : Nat} {l : PairL} (h : SRd w (.slice A l.length cap) 2 l.length (pairCells l)) (k : Nat) (hk : k ≤ l.length) : SRd w (.slice A k cap) 2 (l.take k).length (pairCells (l.take k)) := by
  obtain ⟨h1, A', cap', hv, h2, h3, h4⟩ := h
  injection hv with e1 _ e3
  subst e1
  subst e3
  have hl : (l.take k).length = k := by rw [List.length_take]; omega
  refine ⟨by rw [pairCells_len]; omega, A, cap, by rw [hl], by omega, h3, fun hpos => ?_⟩
  obtain ⟨b, o, hA, hb, hc⟩ := h4 (by omega)
  refine ⟨b, o, hA, hb, fun j u hu => hc j u ?_⟩
  have hj : j < 2 * k := by
    have := (List.getElem?_eq_some_iff.1 hu).1
    rw [pairCells_len, hl] at this
    exact this
  have : pairCells l = pairCells (l.take k) ++ pairCells (l.drop k) := by rw [← pairCells_append, List.take_append_drop]
  rw [this, List.getElem?_append_left (by rw [pairCells_len, hl]; exact hj)]
  exact hu
set_option maxRecDepth 20000 in
set_option maxHeartbeats 4000000 in
theorem nnew_any (own : PairL) (v : Value) (w : World) (hv : SRd w v 2 own.length (pairCells own)) (hd : ∀ p ∈ own, psmall p) (V : Env w) :
    Calls Tryz.prog 45 #[v] w fun e w' => newIs w' w.heap.size own e (nNewR own) ∧ Below w.heap.size w w' := by
  obtain ⟨A, cap, rfl⟩ : ∃ A cap, v = .slice A own.length cap := by obtain ⟨_, A, cap, hv, _⟩ := hv; exact ⟨A, cap, hv⟩
  obtain ⟨R, hR⟩ : ∃ R, nNewR own = R := ⟨_, rfl⟩
  rw [hR]
  unfold nNewR at hR
  have HD := Lib.hid hd
  go_enter Tryz.func45, Tryz.ntmps45
  go_wp2_with fail
  refine (pRight_any own _ w hv hd).mono ?_
  rintro e w1 ⟨er, rfl, he, hb1⟩
  rcases hp : pRightR own with _ | E
  rotate_left
  · rw [hp] at he hR
    have he' := he
    obtain ⟨t, x, rfl⟩ : ∃ t x, er = .iface t x := by
      obtain ⟨c, q⟩ := E
      rcases q with _ | q
      · have hc : c ≠ 0 := by
          intro h
          subst h
          unfold pRightR at hp
          split at hp
          · cases hp
          · rcases hg : pRightGo own 0 with _ | ⟨a, b⟩ <;> rw [hg] at hp <;> cases hp
        have : er = errv c := he
        unfold errv at this
        rw [if_neg hc] at this
        exact ⟨_, _, this⟩
      · obtain ⟨g, _, h, _⟩ := he
        exact ⟨_, _, h⟩
    subst hR
    clear hp he
    go_wp2_with fail
    go_ret2
    exact ⟨⟨_, rfl, he'⟩, hb1⟩
  · rw [hp] at he hR
    obtain rfl : er = .nilIface := he
    obtain ⟨h60, hok⟩ := pRight_none hp
    have V1 := V.on hb1
    have hv1 := hv.on hb1
    obtain ⟨N, hN⟩ : ∃ N, own.length = N := ⟨_, rfl⟩
    rw [hN] at h60 ⊢
    have HV1 := Lib.hid hv1
    have HOK := Lib.hid hok
    have HR := Lib.hid hR
    have HN := Lib.hid hN
    have hN60 : (N : Int) ≤ 60 := by omega
    clear hp hR hv hv1 hok hN hd
    go_wp2_with fail
    go_loopw [17] (fun i wr => ∃ k : Nat, k ≤ N ∧ i = .int .i64 k ∧ R = (nNewGo (own.take k) (own.drop k)).map (fun r => (r.1, some r.2)) ∧ Below w1.heap.size w1 wr) (fun i _ => N - (intOf i).toNat)
    case atStart => exact ⟨0, Nat.zero_le _, rfl, HR.out.symm, Below.refl _ _⟩
    case round =>
      obtain ⟨k, hk, rfl, hgo, hbw⟩ := hrel
      have hbwr := below_step hb1 hbw
      by_cases hlt : k < N
      · obtain ⟨p, hpk⟩ : ∃ p, own[k]? = some p := ⟨_, List.getElem?_eq_getElem (by rw [HN.out]; exact hlt)⟩
        have hdr : own.drop k = p :: own.drop (k + 1) := by
          obtain ⟨h1, h2⟩ := List.getElem?_eq_some_iff.1 hpk
          rw [List.drop_eq_getElem_cons h1, h2]
        have htk : own.take (k + 1) = own.take k ++ [p] := by rw [List.take_add_one, hpk]; rfl
        have hlk : (own.take k).length = k := by rw [List.length_take, HN.out]; omega
        rw [hdr, nNewGo, hlk, ← htk] at hgo
        have hvr := HV1.out.on hbw
        have hpre := srd_pre hvr k (by rw [HN.out]; exact hk)
        obtain ⟨b, o, cp, u0, u1, hvv, hbl, q0, q1, c0, c1⟩ := hvr.two (k := k) (by rw [HN.out]; exact hlt)
        have hcell := pairCells_at own k p hpk
        rw [hcell.1] at q0
        rw [hcell.2] at q1
        obtain rfl := Option.some.inj q0
        obtain rfl := Option.some.inj q1
        injection hvv with g1 g2 g3
        subst g1
        subst g3
        have hsz := HOK.out p (List.mem_of_getElem? hpk)
        obtain ⟨p1, p2⟩ := p
        simp only at c0 c1 hsz
        have hvz : p2.size ≤ 255 := by have := valB_len hsz.2; rw [len_of] at this; exact this
        obtain ⟨wa, hwa⟩ : ∃ wa : World, wr.alloc (.cells #[.string p1, .string p2] 62) = wa := ⟨_, rfl⟩
        have hba : Below wr.heap.size wr wa := by rw [← hwa]; exact (Below.refl _ _).alloc (Nat.le_refl _) _
        have hBa : Blk wa wr.heap.size 62 #[.string p1, .string p2] := by rw [← hwa]; exact Blk.new wr _ _
        obtain ⟨Q, hQ⟩ : ∃ Q, findB (own.take k) p1 = Q := ⟨_, rfl⟩
        rw [hQ] at hgo
        have HQ := Lib.hid hQ
        have HGO := Lib.hid hgo
        have hkN : (k : Int) ≤ (N : Int) := by omega
        have hkc : (k : Int) ≤ (cap : Int) := by
          obtain ⟨_, A', cap', hx, h2, h3, _⟩ := hvr
          injection hx with _ e2 e3
          have := HN.out
          have h2' : own.length ≤ cap' := h2
          omega
        have HWA := Lib.hid hwa
        clear hdr htk hlk hpk hcell hQ hgo g2 hwa
        have hwal := hBa.lt
        have hpa := hpre.on hba
        have hbawr := below_step hbwr hba
        have hz := hBa.cell 0
        have hz1 := hBa.cell 1
        have hda : Below wa.heap.size wa wa.drew := (Below.refl _ _).drew
        obtain ⟨g, hg⟩ : ∃ g, wr.heap.size = g := ⟨_, rfl⟩
        rw [hg] at hBa hwal hz hz1
        have zz0 : ∀ i : BW wa, i.v.cell? ⟨g, 0, none⟩ = some (.string p1) := fun i => (i.h.cell (p := ⟨g, 0, none⟩) hwal).trans hz
        have zz1 : ∀ i : BW wa, i.v.cell? ⟨g, 1, none⟩ = some (.string p2) := fun i => (i.h.cell (p := ⟨g, 1, none⟩) hwal).trans hz1
        rcases Q with _ | q
        · rw [if_neg (by simp)] at HGO
          have hf : ∀ i : BW wa, Calls Tryz.prog 62 #[.slice (some ⟨b, o, none⟩) k cap, .string p1] i.v fun e w' => e = .returned (.tuple #[.string ⟨#[]⟩, .bool false]) ∧ Below i.v.heap.size i.v w' := fun i => by
            have := find_any (own.take k) _ p1 i.v (hpa.on i.h)
            rw [HQ.out] at this
            exact this
          go_upto_region 7 with (fail)
          refine wp_worldN HWA.out ?_
          try rw [hg]
          clear c0 c1
          refine wp_region_quietB (by kernel_rfl) (by kernel_rfl) ?_
          repeat (first | go_big_quiet_skip | (go_big_quiet_want; go_big_quiet_op; first | go_big_quiet_on | (apply Exists.intro; refine ⟨fun _ => ?_, ?_⟩; ((go_at_call 62; with_reducible exact calls_bw (hf _))); go_big_quiet_on)))
          refine wpQuiet_nil ?_
          rintro _ ⟨iq, rfl⟩
          have hbi := below_step hbawr iq.h
          have hb1i : Below w1.heap.size w1 iq.v := below_step (below_step hbw hba) iq.h
          have V2 := V.on hbi
          have y0 := zz0 iq
          have y1 := zz1 iq
          generalize iq.v = w2 at *
          obtain ⟨F, hF⟩ : ∃ F, fitsB (p1, p2) = F := ⟨_, rfl⟩
          rw [hF] at HGO
          have hF' : fitsE p1.data.toList p2.data.toList = F := hF
          go_wp2_with fail
          refine (fits_any p1 p2 _ (by omega) V2.T V2.E V2.S).mono ?_
          rintro e w3 ⟨rfl, hb3⟩
          rw [hF']
          have hb3w := below_step hbi hb3
          have V3 := V2.on hb3
          rcases Nat.eq_zero_or_pos F with rfl | hpos
          · rw [if_neg (by simp)] at HGO
            have he0 : errv 0 = .nilIface := rfl
            rw [he0]
            have hb1r : Below w1.heap.size w1 w3 := below_step hb1i hb3
            go_wp2_with fail
            go_roundw
            · exact ⟨k + 1, by omega, by first | rfl | simp, HGO.out, hb1r⟩
            · show N - ((k : Int) + 1).toNat < N - (k : Int).toNat
              omega
          · rw [if_pos (by omega)] at HGO
            have HF := Lib.hid hF
            have hFe : ∃ t x, errv F = .iface t x := by unfold errv; rw [if_neg (by omega)]; exact ⟨_, _, rfl⟩
            obtain ⟨t, x, hFe⟩ := hFe
            have htell := tell_errv F
            rw [hFe] at htell
            rw [hFe]
            go_wp2_with fail
            refine (htell _ V3.L).mono ?_
            rintro e w4 ⟨rfl, hb4⟩
            have hb4w := below_step hb3w hb4
            go_wp2_with fail
            go_ret2
            have HGO' := HGO.out
            subst HGO'
            refine ⟨⟨_, rfl, w4.heap.size, hb4w.size, rfl, ?_⟩, hb4w.alloc (by exact hb4w.size) _⟩
            exact Blk.new w4 _ _
        · rw [if_pos (by simp)] at HGO
          have hf : ∀ i : BW wa, Calls Tryz.prog 62 #[.slice (some ⟨b, o, none⟩) k cap, .string p1] i.v fun e w' => e = .returned (.tuple #[.string q, .bool true]) ∧ Below i.v.heap.size i.v w' := fun i => by
            have := find_any (own.take k) _ p1 i.v (hpa.on i.h)
            rw [HQ.out] at this
            exact this
          go_upto_region 7 with (fail)
          refine wp_worldN HWA.out ?_
          try rw [hg]
          clear c0 c1
          refine wp_region_quietB (by kernel_rfl) (by kernel_rfl) ?_
          repeat (first | go_big_quiet_skip | (go_big_quiet_want; go_big_quiet_op; first | go_big_quiet_on | (apply Exists.intro; refine ⟨fun _ => ?_, ?_⟩; ((go_at_call 62; with_reducible exact calls_bw (hf _))); go_big_quiet_on)))
          refine wpQuiet_nil ?_
          rintro _ ⟨iq, rfl⟩
          have hbi := below_step hbawr iq.h
          generalize iq.v = w2 at *
          go_wp2_with fail
          go_ret2
          have HGO' := HGO.out
          subst HGO'
          refine ⟨⟨_, rfl, w2.heap.size, hbi.size, rfl, ?_⟩, hbi.alloc (by exact hbi.size) _⟩
          exact Blk.new w2 _ _
      · obtain rfl : k = N := by omega
        rw [List.drop_of_length_le (by rw [HN.out]; exact Nat.le_refl _)] at hgo
        have hR : R = none := by rw [hgo]; rfl
        subst hR
        have hvr := HV1.out.on hbw
        go_wp2_with fail
        have hcl := clone_pair own _ _ hvr (by rw [HN.out]; omega)
        rw [HN.out] at hcl
        refine hcl.mono ?_
        rintro e w2 ⟨u, rfl, hu, hb2⟩
        obtain ⟨uA, ucap, rfl, _⟩ := hu.form
        have hb2w := below_step hbwr hb2
        go_wp2_with fail
        go_ret2
        refine ⟨⟨w2.heap.size, _, rfl, hb2w.size, Blk.new w2 _ _, ?_, fun j hj => ?_⟩, hb2w.alloc (by exact hb2w.size) _⟩
        · exact MRow.more (MRow.alloc hu _) hbwr.size
        · have := (hu.lt j hj).2
          omega
end Go.Proofs.YtamlepacljjpiaaGreatDoor

/- What is said to offers, and what comes of them: plain functions and their laws. -/
namespace Go.Proofs.YtamlepacljjpiaaGreatDoor
set_option linter.unusedVariables false
def ba (l : List UInt8) : ByteArray := ⟨l.toArray⟩
def kB (p : ByteArray × ByteArray) : List UInt8 := p.1.data.toList
def vB (p : ByteArray × ByteArray) : List UInt8 := p.2.data.toList
theorem ba_list (l : List UInt8) : (ba l).data.toList = l := rfl
theorem ba_of (x : ByteArray) : ba x.data.toList = x := by unfold ba; simp
def notU : List UInt8 := [78, 111, 116, 85, 110, 100, 101, 114, 115, 116, 111, 111, 100]
def rejB : List UInt8 := [82, 101, 106, 101, 99, 116]
def irrB : List UInt8 := [73, 114, 114, 101, 108, 101, 118, 97, 110, 116]
def dflOf (k : List UInt8) : List UInt8 := match keyRow k with
  | none => []
  | some r => dfl r
def ownL (own : PairL) (k : ByteArray) : List UInt8 := match findB own k with
  | some v => v.data.toList
  | none => dflOf k.data.toList
/- what is said to an offer, and what comes of it -/
def ansR (own : PairL) (login disc : Bool) (r : KeyR) (p : ByteArray × ByteArray) : List UInt8 × List UInt8 :=
  if r.lonly = true ∧ login = false then (rejB, []) else
  if r.noth = true ∧ disc = true then (irrB, []) else
  if fitsE (kB p) (vB p) ≠ 0 then (rejB, []) else
  if r.kind = 6 ∨ r.kind = 7 then ([], vB p) else
  match resE (kB p) (vB p) (ownL own p.1) with
  | .inl _ => (rejB, [])
  | .inr s => (s, s)
def ansP (own : PairL) (login disc : Bool) (p : ByteArray × ByteArray) : List UInt8 × List UInt8 := match keyRow (kB p) with
  | none => (notU, [])
  | some r => ansR own login disc r p
def one (k : ByteArray) (v : List UInt8) : PairL := if v = [] then [] else [(k, ba v)]
def addB (rc : PairL) (k : ByteArray) (v : List UInt8) : PairL := if v = [] then rc else rc.filter (fun q => decide (kB q ≠ k.data.toList)) ++ [(k, ba v)]
def saidP (own : PairL) (login disc : Bool) (p : ByteArray × ByteArray) : PairL := one p.1 (ansP own login disc p).1
def recP (own : PairL) (login disc : Bool) (p : ByteArray × ByteArray) : PairL := one p.1 (ansP own login disc p).2
def saidL (own : PairL) (login disc : Bool) (l : PairL) : PairL := l.flatMap (saidP own login disc)
def recN (own : PairL) (login disc : Bool) (l : PairL) : PairL := l.flatMap (recP own login disc)
def recL (own : PairL) (login disc : Bool) : PairL → PairL → PairL
  | rc, [] => rc
  | rc, p :: l => recL own login disc (addB rc p.1 (ansP own login disc p).2) l
def twiceGo (rc : PairL) (login : Bool) : PairL → PairL → Option Nat
  | _, [] => none
  | pre, p :: l => if (findB pre p.1).isSome = true ∨ ((findB rc p.1).isSome = true ∧ login = true) then some pre.length else twiceGo rc login (pre ++ [p]) l
def ansE (rc offers : PairL) (login : Bool) : Option (Nat × Option Nat) := match pRightR offers with
  | some e => some e
  | none => (twiceGo rc login [] offers).map fun i => (9, some i)
/- keys -/
def KD (l : PairL) : Prop := (l.map kB).Nodup
theorem findB_none {l : PairL} {k : ByteArray} : findB l k = none ↔ ∀ q ∈ l, kB q ≠ k.data.toList := by
  induction l with
  | nil => simp [findB]
  | cons q l ih =>
    rw [findB]
    by_cases h : q.1.data.toList = k.data.toList
    · rw [if_pos h]
      constructor
      · intro hh; cases hh
      · intro hh; exact absurd h (hh q (by simp))
    · rw [if_neg h, ih]
      constructor
      · intro hh x hx
        rcases List.mem_cons.1 hx with rfl | hx
        · exact h
        · exact hh x hx
      · intro hh x hx
        exact hh x (List.mem_cons_of_mem _ hx)
theorem findB_some {l : PairL} {k v : ByteArray} (h : findB l k = some v) : ∃ q ∈ l, kB q = k.data.toList ∧ q.2 = v := by
  induction l with
  | nil => cases h
  | cons q l ih =>
    rw [findB] at h
    by_cases hq : q.1.data.toList = k.data.toList
    · rw [if_pos hq] at h
      cases h
      exact ⟨q, by simp, hq, rfl⟩
    · rw [if_neg hq] at h
      obtain ⟨x, hx, h1⟩ := ih h
      exact ⟨x, List.mem_cons_of_mem _ hx, h1⟩
theorem findB_app (l m : PairL) (k : ByteArray) : findB (l ++ m) k = match findB l k with | some v => some v | none => findB m k := by
  induction l with
  | nil => rfl
  | cons q l ih =>
    rw [List.cons_append, findB, findB]
    split
    · rfl
    · exact ih
theorem findB_key (l : PairL) {k k' : ByteArray} (h : k.data.toList = k'.data.toList) : findB l k = findB l k' := by
  have : k = k' := by rw [← ba_of k, ← ba_of k', h]
  rw [this]
theorem findB_mem {l : PairL} (hd : KD l) {q : ByteArray × ByteArray} (hq : q ∈ l) : findB l q.1 = some q.2 := by
  induction l with
  | nil => cases hq
  | cons x l ih =>
    unfold KD at hd
    rw [List.map_cons, List.nodup_cons] at hd
    rw [findB]
    rcases List.mem_cons.1 hq with rfl | hq
    · rw [if_pos rfl]
    · rw [if_neg (fun e => hd.1 (List.mem_map.2 ⟨q, hq, e.symm⟩))]
      exact ih hd.2 hq
theorem twiceGo_none (rc : PairL) (login : Bool) : ∀ (l pre : PairL), twiceGo rc login pre l = none ↔ (login = true → ∀ p ∈ l, findB rc p.1 = none) ∧ (∀ p ∈ l, ∀ q ∈ pre, kB q ≠ kB p) ∧ KD l
  | [], pre => by simp [twiceGo, KD]
  | p :: l, pre => by
    have ih := twiceGo_none rc login l (pre ++ [p])
    rw [twiceGo]
    by_cases h : (findB pre p.1).isSome = true ∨ ((findB rc p.1).isSome = true ∧ login = true)
    · rw [if_pos h]
      refine ⟨fun hh => by (cases hh), fun hh => ?_⟩
      exfalso
      rcases h with h | ⟨h, hl⟩
      · obtain ⟨v, hv⟩ := Option.isSome_iff_exists.1 h
        obtain ⟨q, hq, hk, _⟩ := findB_some hv
        exact hh.2.1 p (by simp) q hq hk
      · rw [hh.1 hl p (by simp)] at h
        cases h
    · rw [if_neg h, ih]
      have hp : findB pre p.1 = none := by
        rcases hx : findB pre p.1 with _ | v
        · rfl
        · exact absurd (.inl (by rw [hx]; rfl)) h
      have hr : login = true → findB rc p.1 = none := fun hl => by
        rcases hx : findB rc p.1 with _ | v
        · rfl
        · exact absurd (.inr ⟨by rw [hx]; rfl, hl⟩) h
      have hpn := findB_none.1 hp
      unfold KD
      rw [List.map_cons, List.nodup_cons]
      constructor
      · rintro ⟨h1, h2, h3⟩
        refine ⟨fun hl x hx => ?_, fun x hx q hq => ?_, fun hm => ?_, h3⟩
        · rcases List.mem_cons.1 hx with rfl | hx
          · exact hr hl
          · exact h1 hl x hx
        · rcases List.mem_cons.1 hx with rfl | hx
          · exact hpn q hq
          · exact h2 x hx q (by simp [hq])
        · obtain ⟨x, hx, e⟩ := List.mem_map.1 hm
          exact h2 x hx p (by simp) e.symm
      · rintro ⟨h1, h2, h3, h4⟩
        refine ⟨fun hl x hx => h1 hl x (List.mem_cons_of_mem _ hx), fun x hx q hq => ?_, h4⟩
        rcases List.mem_append.1 hq with hq | hq
        · exact h2 x (List.mem_cons_of_mem _ hx) q hq
        · obtain rfl := List.mem_singleton.1 hq
          exact fun e => h3 (List.mem_map.2 ⟨x, hx, e.symm⟩)
theorem pRightGo_iff : ∀ (l : PairL) (i : Nat), pRightGo l i = none ↔ rightP l
  | [], i => by simp [pRightGo, rightP]
  | p :: l, i => by
    have ih := pRightGo_iff l (i + 1)
    rw [pRightGo]
    constructor
    · intro h
      split at h
      · cases h
      · split at h
        · cases h
        · rename_i h1 h2
          intro x hx
          rcases List.mem_cons.1 hx with rfl | hx
          · exact ⟨by simpa using h1, by simpa using h2⟩
          · exact ih.1 h x hx
    · intro h
      have hp := h p (by simp)
      rw [if_neg (by simp [hp.1]), if_neg (by simp [hp.2])]
      exact ih.2 fun x hx => h x (List.mem_cons_of_mem _ hx)
theorem pRightR_iff (l : PairL) : pRightR l = none ↔ l.length ≤ 60 ∧ rightP l := by
  unfold pRightR
  by_cases h : 60 < l.length
  · rw [if_pos h]
    exact ⟨fun hh => by (cases hh), fun hh => by omega⟩
  · rw [if_neg h, Option.map_eq_none_iff, pRightGo_iff]
    exact ⟨fun hh => ⟨by omega, hh⟩, fun hh => hh.2⟩
theorem ansE_none (rc l : PairL) (login : Bool) : ansE rc l login = none ↔ l.length ≤ 60 ∧ rightP l ∧ (login = true → ∀ p ∈ l, findB rc p.1 = none) ∧ KD l := by
  unfold ansE
  rcases h : pRightR l with _ | e
  · have := (pRightR_iff l).1 h
    show (twiceGo rc login [] l).map _ = none ↔ _
    rw [Option.map_eq_none_iff, twiceGo_none]
    exact ⟨fun hh => ⟨this.1, this.2, hh.1, hh.2.2⟩, fun hh => ⟨hh.2.2.1, by simp, hh.2.2.2⟩⟩
  · refine ⟨fun hh => by (cases hh), fun hh => ?_⟩
    rw [(pRightR_iff l).2 ⟨hh.1, hh.2.1⟩] at h
    cases h
/- what comes of an offer -/
theorem fits_ne {k x : List UInt8} (h : fitsE k x = 0) : x ≠ [] := by
  rintro rfl
  unfold fitsE at h
  split at h
  · cases h
  · unfold fitsR at h
    have h1 : isYN [] = false := rfl
    have h2 : numeralE [] = fun _ _ => 3 := by funext a b; rfl
    have h3 : listP [] = none := rfl
    rw [h1, h2, h3] at h
    split at h
    · simp at h
    · split at h
      · simp at h
      · split at h
        · simp at h
        · simp at h
theorem one_nil (k : ByteArray) : one k [] = [] := rfl
theorem one_mem {k : ByteArray} {v : List UInt8} {q : ByteArray × ByteArray} (h : q ∈ one k v) : q = (k, ba v) ∧ v ≠ [] := by
  unfold one at h
  split at h
  · cases h
  · rename_i hv
    exact ⟨List.mem_singleton.1 h, hv⟩
/- the ways of an answer -/
theorem ans_cases (own : PairL) (login disc : Bool) (p : ByteArray × ByteArray) : (keyRow (kB p) = none ∧ ansP own login disc p = (notU, [])) ∨ (∃ r, keyRow (kB p) = some r ∧ ((ansP own login disc p = (rejB, []) ∧ (fitsE (kB p) (vB p) = 0 → (r.lonly = true → login = true) → ¬ (r.kind = 6 ∨ r.kind = 7))) ∨
    (r.noth = true ∧ disc = true ∧ ansP own login disc p = (irrB, [])) ∨ (fitsE (kB p) (vB p) = 0 ∧ (r.lonly = true → login = true) ∧ (r.noth = true → disc = false) ∧ ((r.kind = 6 ∨ r.kind = 7) ∧ ansP own login disc p = ([], vB p) ∨ ¬ (r.kind = 6 ∨ r.kind = 7) ∧ ∃ s, resE (kB p) (vB p) (ownL own p.1) = .inr s ∧ ansP own login disc p = (s, s))))) := by
  rcases h : keyRow (kB p) with _ | r
  · refine .inl ⟨rfl, ?_⟩
    unfold ansP
    rw [h]
  · refine .inr ⟨r, rfl, ?_⟩
    have e0 : ansP own login disc p = ansR own login disc r p := by unfold ansP; rw [h]
    rw [e0]
    clear e0
    unfold ansR
    by_cases h1 : r.lonly = true ∧ login = false
    · rw [if_pos h1]
      refine .inl ⟨rfl, fun _ h3 => ?_⟩
      have := h3 h1.1
      rw [h1.2] at this
      cases this
    · rw [if_neg h1]
      have g1 : r.lonly = true → login = true := fun hl => by
        cases login
        · exact absurd ⟨hl, rfl⟩ h1
        · rfl
      by_cases h2 : r.noth = true ∧ disc = true
      · rw [if_pos h2]
        exact .inr (.inl ⟨h2.1, h2.2, rfl⟩)
      · rw [if_neg h2]
        have g2 : r.noth = true → disc = false := fun hl => by
          cases disc
          · rfl
          · exact absurd ⟨hl, rfl⟩ h2
        by_cases h3 : fitsE (kB p) (vB p) = 0
        · rw [if_neg (by simp [h3])]
          by_cases h4 : r.kind = 6 ∨ r.kind = 7
          · rw [if_pos h4]
            exact .inr (.inr ⟨h3, g1, g2, .inl ⟨h4, rfl⟩⟩)
          · rw [if_neg h4]
            rcases h5 : resE (kB p) (vB p) (ownL own p.1) with c | s
            · exact .inl ⟨rfl, fun _ _ => h4⟩
            · exact .inr (.inr ⟨h3, g1, g2, .inr ⟨h4, s, rfl, rfl⟩⟩)
        · rw [if_pos h3]
          exact .inl ⟨rfl, fun h => absurd h h3⟩
theorem valB_iff (l : List UInt8) : valB l = true ↔ (∀ c ∈ l, valC c = true) ∧ l.length ≤ 255 := by unfold valB; simp
theorem dgs_val (n : Nat) : valB (dgs n) = true := by
  rw [valB_iff]
  refine ⟨?_, by have := dgF_len 20 n; unfold dgs; omega⟩
  unfold dgs
  have : ∀ (f n : Nat), ∀ c ∈ dgF f n, 48 ≤ c.toNat ∧ c.toNat ≤ 57 := by
    intro f
    induction f with
    | zero => intro n c hc; rw [dgF] at hc; obtain rfl := List.mem_singleton.1 hc; have := dig_ten ⟨n % 10, by omega⟩; exact ⟨this.2.1, this.2.2.1⟩
    | succ f ih =>
      intro n c hc
      rw [dgF] at hc
      have hd := dig_ten ⟨n % 10, by omega⟩
      split at hc
      · rename_i hlt
        obtain rfl := List.mem_singleton.1 hc
        have := dig_ten ⟨n, hlt⟩
        exact ⟨this.2.1, this.2.2.1⟩
      · rcases List.mem_append.1 hc with hc | hc
        · exact ih _ c hc
        · obtain rfl := List.mem_singleton.1 hc
          exact ⟨hd.2.1, hd.2.2.1⟩
  intro c hc
  have := this 20 n c hc
  unfold valC
  simp
  omega
theorem yesB_val (t : Bool) : valB (yesB t) = true := by cases t <;> decide
theorem splitC_mem (c : UInt8) : ∀ (l : List UInt8), ∀ x ∈ splitC c l, ∀ y ∈ x, y ∈ l
  | [], x, hx, y, hy => by simp [splitC] at hx; subst hx; cases hy
  | b :: l, x, hx, y, hy => by
    have ih := splitC_mem c l
    rw [splitC] at hx
    split at hx
    · rcases List.mem_cons.1 hx with rfl | hx
      · cases hy
      · exact List.mem_cons_of_mem _ (ih x hx y hy)
    · rcases hs : splitC c l with _ | ⟨p, ps⟩ <;> rw [hs] at hx
      · simp at hx
        subst hx
        simp at hy
        subst hy
        simp
      · rcases List.mem_cons.1 hx with rfl | hx
        · rcases List.mem_cons.1 hy with rfl | hy
          · simp
          · exact List.mem_cons_of_mem _ (ih p (by rw [hs]; simp) y hy)
        · exact List.mem_cons_of_mem _ (ih x (by rw [hs]; exact List.mem_cons_of_mem _ hx) y hy)
theorem res_val {k a b s : List UInt8} (h : resE k a b = .inr s) (ha : valB a = true) : valB s = true := by
  obtain ⟨r, hk, h1, h2, h3⟩ := resE_inv h
  unfold resR at h3
  split at h3
  · cases h3; exact yesB_val _
  · split at h3
    · cases h3; exact yesB_val _
    · split at h3
      · cases h3; exact dgs_val _
      · split at h3
        · cases h3; exact dgs_val _
        · split at h3
          · split at h3
            · rename_i x hx
              cases h3
              have hm := (firstBoth_mem hx).1
              have ha' := (valB_iff a).1 ha
              rw [valB_iff]
              have := splitC_short 44 a s hm
              exact ⟨fun c hc => ha'.1 c (splitC_mem 44 a s hm c hc), by omega⟩
            · cases h3
          · cases h3; exact ha
theorem ans_is (own : PairL) (login disc : Bool) (p : ByteArray × ByteArray) (s : List UInt8) (h : (ansP own login disc p).2 = s) (hs : s ≠ []) : ∃ r, keyRow (kB p) = some r ∧ fitsE (kB p) s = 0 ∧ fitsE (kB p) (vB p) = 0 ∧ (r.lonly = true → login = true) ∧ (r.noth = true → disc = false) ∧ (valB (vB p) = true → valB s = true) := by
  rcases ans_cases own login disc p with ⟨_, e⟩ | ⟨r, hr, ⟨e, _⟩ | ⟨_, _, e⟩ | ⟨h1, h2, h3, ⟨_, e⟩ | ⟨_, x, hx, e⟩⟩⟩
  · rw [e] at h; exact absurd h.symm hs
  · rw [e] at h; exact absurd h.symm hs
  · rw [e] at h; exact absurd h.symm hs
  · rw [e] at h
    obtain rfl : vB p = s := h
    exact ⟨r, hr, h1, h1, h2, h3, fun h => h⟩
  · rw [e] at h
    obtain rfl : x = s := h
    exact ⟨r, hr, (resE_again hx).1, h1, h2, h3, fun h => res_val hx h⟩
theorem recP_mem {own : PairL} {login disc : Bool} {p q : ByteArray × ByteArray} (h : q ∈ recP own login disc p) : q.1 = p.1 ∧ vB q = (ansP own login disc p).2 ∧ vB q ≠ [] := by
  obtain ⟨rfl, hn⟩ := one_mem h
  exact ⟨rfl, rfl, hn⟩
theorem recN_mem {own : PairL} {login disc : Bool} {l : PairL} {q : ByteArray × ByteArray} (h : q ∈ recN own login disc l) : ∃ p ∈ l, q.1 = p.1 ∧ vB q = (ansP own login disc p).2 ∧ vB q ≠ [] := by
  obtain ⟨p, hp, hq⟩ := List.mem_flatMap.1 h
  exact ⟨p, hp, recP_mem hq⟩
theorem recN_keys (own : PairL) (login disc : Bool) : ∀ (l : PairL), KD l → KD (recN own login disc l)
  | [], _ => by simp [recN, KD]
  | p :: l, h => by
    unfold KD at h
    rw [List.map_cons, List.nodup_cons] at h
    have ih := recN_keys own login disc l h.2
    show ((recP own login disc p ++ recN own login disc l).map kB).Nodup
    rw [List.map_append, List.nodup_append]
    refine ⟨?_, ih, ?_⟩
    · unfold recP one
      split <;> simp
    · intro a ha b hb
      obtain ⟨x, hx, rfl⟩ := List.mem_map.1 ha
      obtain ⟨y, hy, rfl⟩ := List.mem_map.1 hb
      obtain ⟨z, hz, e, _⟩ := recN_mem hy
      have e1 := (recP_mem hx).1
      intro e2
      apply h.1
      refine List.mem_map.2 ⟨z, hz, ?_⟩
      unfold kB at e2 ⊢
      rw [← e, ← e2, e1]
theorem addB_fresh {rc : PairL} {k : ByteArray} {v : List UInt8} (h : findB rc k = none) : addB rc k v = rc ++ one k v := by
  unfold addB one
  split
  · simp
  · rw [List.filter_eq_self.2 (fun q hq => by simpa using findB_none.1 h q hq)]
theorem findB_one {k k' : ByteArray} (h : k.data.toList ≠ k'.data.toList) (v : List UInt8) : findB (one k v) k' = none := by
  rw [findB_none]
  intro q hq
  obtain ⟨rfl, _⟩ := one_mem hq
  exact h
theorem recL_fresh (own : PairL) (login disc : Bool) : ∀ (l rc : PairL), KD l → (∀ p ∈ l, findB rc p.1 = none) → recL own login disc rc l = rc ++ recN own login disc l
  | [], rc, _, _ => by simp [recL, recN]
  | p :: l, rc, h, hf => by
    unfold KD at h
    rw [List.map_cons, List.nodup_cons] at h
    rw [recL, addB_fresh (hf p (by simp))]
    rw [recL_fresh own login disc l _ h.2]
    · show _ = rc ++ (recP own login disc p ++ recN own login disc l)
      rw [List.append_assoc]
      rfl
    · intro x hx
      rw [findB_app, hf x (List.mem_cons_of_mem _ hx)]
      exact findB_one (fun e => h.1 (List.mem_map.2 ⟨x, hx, e.symm⟩)) _
theorem recL_app (own : PairL) (login disc : Bool) : ∀ (l m rc : PairL), recL own login disc rc (l ++ m) = recL own login disc (recL own login disc rc l) m
  | [], m, rc => rfl
  | p :: l, m, rc => recL_app own login disc l m _
end Go.Proofs.YtamlepacljjpiaaGreatDoor

/- Offers: what the claims say, in plain words. -/
namespace Go.Proofs.YtamlepacljjpiaaGreatDoor
set_option linter.unusedVariables false
theorem KD.sub {l m : PairL} (h : KD l) (hs : m.Sublist l) : KD m := (hs.map kB).nodup h
theorem KD.ne {l m : PairL} (h : KD (l ++ m)) {p q : ByteArray × ByteArray} (hp : p ∈ l) (hq : q ∈ m) : kB p ≠ kB q := by
  unfold KD at h
  rw [List.map_append, List.nodup_append] at h
  exact h.2.2 _ (List.mem_map.2 ⟨p, hp, rfl⟩) _ (List.mem_map.2 ⟨q, hq, rfl⟩)
theorem findB_nil (k : ByteArray) : findB [] k = none := rfl
theorem recL_nil {own : PairL} {login disc : Bool} {l : PairL} (h : KD l) : recL own login disc [] l = recN own login disc l := by
  rw [recL_fresh own login disc l [] h (fun _ _ => rfl)]
  rfl
theorem ansE_nil {l : PairL} {login : Bool} (h : ansE [] l login = none) : l.length ≤ 60 ∧ rightP l ∧ KD l := by
  have := (ansE_none [] l login).1 h
  exact ⟨this.1, this.2.1, this.2.2.2⟩
theorem ans_parts (own : PairL) (disc : Bool) (l : PairL) (k : Nat) (h : ansE [] l true = none) : ansE [] (l.take k) true = none ∧ ansE (recL own true disc [] (l.take k)) (l.drop k) true = none ∧
    saidL own true disc (l.take k) ++ saidL own true disc (l.drop k) = saidL own true disc l ∧ recL own true disc (recL own true disc [] (l.take k)) (l.drop k) = recL own true disc [] l := by
  obtain ⟨h1, h2, h3⟩ := ansE_nil h
  have ht := h3.sub (List.take_sublist k l)
  refine ⟨(ansE_none _ _ _).2 ⟨by rw [List.length_take]; omega, fun p hp => h2 p (List.mem_of_mem_take hp), fun _ _ _ => rfl, ht⟩, (ansE_none _ _ _).2 ⟨by rw [List.length_drop]; omega, fun p hp => h2 p (List.mem_of_mem_drop hp), fun _ p hp => ?_, h3.sub (List.drop_sublist k l)⟩, ?_, ?_⟩
  · rw [recL_nil ht, findB_none]
    intro q hq
    obtain ⟨x, hx, e, _⟩ := recN_mem hq
    rw [← List.take_append_drop k l] at h3
    have := h3.ne hx hp
    unfold kB at this ⊢
    rw [e]
    exact this
  · unfold saidL
    rw [← List.flatMap_append, List.take_append_drop]
  · rw [← recL_app, List.take_append_drop]
theorem ans_twice (own : PairL) (disc : Bool) (l : PairL) (h : ansE [] l true = none) (q : ByteArray × ByteArray) (hq : q ∈ recL own true disc [] l) : ansE (recL own true disc [] l) [q] true = some (9, some 0) := by
  obtain ⟨h1, h2, h3⟩ := ansE_nil h
  have hq' := hq
  rw [recL_nil h3] at hq'
  obtain ⟨p, hp, e1, e2, e3⟩ := recN_mem hq'
  obtain ⟨r, _, _, _, _, _, hv⟩ := ans_is own true disc p (vB q) e2.symm e3
  have hr : pRightR [q] = none := by
    rw [pRightR_iff]
    refine ⟨by simp, fun x hx => ?_⟩
    obtain rfl := List.mem_singleton.1 hx
    refine ⟨by rw [e1]; exact (h2 p hp).1, hv (h2 p hp).2⟩
  unfold ansE
  rw [hr]
  show (twiceGo _ true [] [q]).map _ = _
  rw [twiceGo, if_pos]
  · rfl
  · refine .inr ⟨?_, rfl⟩
    rcases hf : findB (recL own true disc [] l) q.1 with _ | v
    · exact absurd rfl (findB_none.1 hf q hq)
    · rfl
/- which offers nothing is said to -/
def quietB (login disc : Bool) (p : ByteArray × ByteArray) : Bool := match keyRow (kB p) with
  | none => false
  | some r => (decide (r.kind = 6) || decide (r.kind = 7)) && decide (fitsE (kB p) (vB p) = 0) && (login || !r.lonly) && (!disc || !r.noth)
theorem notU_ne : notU ≠ [] := by decide
theorem rejB_ne : rejB ≠ [] := by decide
theorem irrB_ne : irrB ≠ [] := by decide
theorem one_some (k : ByteArray) {v : List UInt8} (h : v ≠ []) : one k v = [(k, ba v)] := by unfold one; rw [if_neg h]
theorem said_quiet {own : PairL} {login disc : Bool} {p : ByteArray × ByteArray} (h : quietB login disc p = true) : saidP own login disc p = [] := by
  unfold quietB at h
  unfold saidP
  rcases ans_cases own login disc p with ⟨hk, e⟩ | ⟨r, hr, ⟨e, hn⟩ | ⟨g1, g2, e⟩ | ⟨h1, h2, h3, ⟨_, e⟩ | ⟨h4, x, hx, e⟩⟩⟩
  · rw [hk] at h; cases h
  · rw [hr] at h
    simp at h
    exfalso
    refine hn h.1.1.2 (fun hl => ?_) h.1.1.1
    rcases h.1.2 with h | h
    · exact h
    · rw [hl] at h; cases h
  · rw [hr] at h
    simp at h
    rw [g1, g2] at h
    simp at h
  · rw [e]; rfl
  · rw [hr] at h
    simp at h
    exact absurd h.1.1.1 h4
theorem said_loud {own : PairL} {login disc : Bool} {p : ByteArray × ByteArray} (h : quietB login disc p = false) : ∃ v, saidP own login disc p = [(p.1, ba v)] ∧ v ≠ [] ∧ (keyRow (kB p) = none → v = notU) := by
  unfold quietB at h
  unfold saidP
  rcases ans_cases own login disc p with ⟨hk, e⟩ | ⟨r, hr, ⟨e, hn⟩ | ⟨g1, g2, e⟩ | ⟨h1, h2, h3, ⟨h4, e⟩ | ⟨h4, x, hx, e⟩⟩⟩
  · exact ⟨notU, by rw [e]; exact one_some _ notU_ne, notU_ne, fun _ => rfl⟩
  · exact ⟨rejB, by rw [e]; exact one_some _ rejB_ne, rejB_ne, fun hh => by rw [hr] at hh; cases hh⟩
  · exact ⟨irrB, by rw [e]; exact one_some _ irrB_ne, irrB_ne, fun hh => by rw [hr] at hh; cases hh⟩
  · exfalso
    rw [hr] at h
    have : ((decide (r.kind = 6) || decide (r.kind = 7)) && decide (fitsE (kB p) (vB p) = 0) && (login || !r.lonly) && (!disc || !r.noth)) = true := by
      simp
      refine ⟨⟨⟨h4, h1⟩, ?_⟩, ?_⟩
      · rcases hl : r.lonly with _ | _
        · exact .inr rfl
        · exact .inl (h2 hl)
      · rcases hl : r.noth with _ | _
        · exact .inr rfl
        · exact .inl (h3 hl)
    exact absurd (this.symm.trans h) (by simp)
  · have hne := fits_ne (resE_again hx).1
    exact ⟨x, by rw [e]; exact one_some _ hne, hne, fun hh => by rw [hr] at hh; cases hh⟩
/- in a discovery -/
def countsB (q : ByteArray × ByteArray) : Bool := match keyRow (kB q) with
  | none => false
  | some r => !r.noth
theorem rec_disc (own : PairL) (p : ByteArray × ByteArray) : (recP own true false p).filter countsB = recP own true true p := by
  unfold recP
  unfold ansP
  rcases hk : keyRow (kB p) with _ | r
  · rfl
  · show (one p.1 (ansR own true false r p).2).filter countsB = one p.1 (ansR own true true r p).2
    rcases hn : r.noth with _ | _
    · have e : ansR own true true r p = ansR own true false r p := by unfold ansR; rw [hn]; simp
      rw [e, List.filter_eq_self]
      intro q hq
      obtain ⟨rfl, _⟩ := one_mem hq
      unfold countsB
      show (match keyRow (kB p) with | none => false | some r => !r.noth) = true
      rw [hk]
      simp [hn]
    · have e : (ansR own true true r p).2 = [] := by unfold ansR; rw [hn]; simp
      rw [e, one_nil, List.filter_eq_nil_iff]
      intro q hq
      obtain ⟨rfl, _⟩ := one_mem hq
      unfold countsB
      show ¬ (match keyRow (kB p) with | none => false | some r => !r.noth) = true
      rw [hk]
      simp [hn]
theorem ans_disc (own : PairL) (l : PairL) (h : ansE [] l true = none) : (recL own true false [] l).filter countsB = recL own true true [] l := by
  obtain ⟨_, _, h3⟩ := ansE_nil h
  rw [recL_nil h3, recL_nil h3]
  unfold recN
  induction l with
  | nil => rfl
  | cons p l ih =>
    rw [List.flatMap_cons, List.flatMap_cons, List.filter_append, rec_disc]
    congr 1
    have : ∀ l : PairL, (l.flatMap (recP own true false)).filter countsB = l.flatMap (recP own true true) := by
      intro l
      induction l with
      | nil => rfl
      | cons p l ih => rw [List.flatMap_cons, List.flatMap_cons, List.filter_append, rec_disc, ih]
    exact this l
/- what is recorded is so -/
def RecOk (rc : PairL) : Prop := KD rc ∧ ∀ q ∈ rc, (∃ r, keyRow (kB q) = some r) ∧ fitsE (kB q) (vB q) = 0 ∧ vB q ≠ [] ∧ keyB (kB q) = true ∧ valB (vB q) = true
theorem RecOk.nil : RecOk [] := ⟨by simp [KD], fun q hq => by cases hq⟩
theorem RecOk.add {own rc : PairL} {login disc : Bool} {p : ByteArray × ByteArray} (h : RecOk rc) (hk : keyB (kB p) = true) (hv : valB (vB p) = true) : RecOk (addB rc p.1 (ansP own login disc p).2) := by
  unfold addB
  split
  · exact h
  · rename_i hs
    obtain ⟨r, h1, h2, _, _, _, h3⟩ := ans_is own login disc p _ rfl hs
    refine ⟨?_, fun q hq => ?_⟩
    · unfold KD
      rw [List.map_append, List.nodup_append]
      refine ⟨h.1.sub (List.filter_sublist), by simp, fun a ha b hb => ?_⟩
      obtain ⟨x, hx, rfl⟩ := List.mem_map.1 ha
      simp at hb
      subst hb
      have := (List.mem_filter.1 hx).2
      exact of_decide_eq_true this
    · rcases List.mem_append.1 hq with hq | hq
      · exact h.2 q (List.mem_filter.1 hq).1
      · obtain rfl := List.mem_singleton.1 hq
        exact ⟨⟨r, h1⟩, h2, hs, hk, h3 hv⟩
theorem RecOk.all (own : PairL) (login disc : Bool) : ∀ (l rc : PairL), RecOk rc → rightP l → RecOk (recL own login disc rc l)
  | [], rc, h, _ => h
  | p :: l, rc, h, hr => by
    rw [recL]
    exact RecOk.all own login disc l _ (h.add (hr p (by simp)).1 (hr p (by simp)).2) fun x hx => hr x (List.mem_cons_of_mem _ hx)
theorem addB_lonly {own rc : PairL} {disc : Bool} {p : ByteArray × ByteArray} (h : ∀ q ∈ rc, ∃ r, keyRow (kB q) = some r ∧ r.lonly = false) : ∀ q ∈ addB rc p.1 (ansP own false disc p).2, ∃ r, keyRow (kB q) = some r ∧ r.lonly = false := by
  intro q hq
  unfold addB at hq
  split at hq
  · exact h q hq
  · rename_i hs
    obtain ⟨r, h1, _, _, h4, _⟩ := ans_is own false disc p _ rfl hs
    rcases List.mem_append.1 hq with hq | hq
    · exact h q (List.mem_filter.1 hq).1
    · obtain rfl := List.mem_singleton.1 hq
      refine ⟨r, h1, ?_⟩
      rcases hl : r.lonly with _ | _
      · rfl
      · cases h4 hl
theorem recL_lonly (own : PairL) (disc : Bool) : ∀ (l rc : PairL), (∀ q ∈ rc, ∃ r, keyRow (kB q) = some r ∧ r.lonly = false) → ∀ q ∈ recL own false disc rc l, ∃ r, keyRow (kB q) = some r ∧ r.lonly = false
  | [], rc, h => h
  | p :: l, rc, h => by
    rw [recL]
    exact recL_lonly own disc l _ (addB_lonly h)
theorem findB_add (rc : PairL) (k : ByteArray) {v : List UInt8} (h : v ≠ []) : findB (addB rc k v) k = some (ba v) := by
  unfold addB
  rw [if_neg h, findB_app, findB_none.2 (fun q hq => by simpa using (List.mem_filter.1 hq).2)]
  show (if _ then _ else _) = _
  rw [if_pos rfl]
/- in whichever order -/
theorem KD.rev {l : PairL} (h : KD l) : KD l.reverse := by
  unfold KD
  rw [List.map_reverse]
  exact List.pairwise_reverse.2 (h.imp fun hab => fun e => hab e.symm)
theorem ansE_rev (l : PairL) : ansE [] l.reverse true = none ↔ ansE [] l true = none := by
  have h : ∀ l : PairL, ansE [] l true = none → ansE [] l.reverse true = none := fun l h => by
    obtain ⟨h1, h2, h3⟩ := ansE_nil h
    exact (ansE_none _ _ _).2 ⟨by rw [List.length_reverse]; exact h1, fun p hp => h2 p (List.mem_reverse.1 hp), fun _ _ _ => rfl, h3.rev⟩
  exact ⟨fun hh => by have := h _ hh; rwa [List.reverse_reverse] at this, h l⟩
theorem findB_same {l m : PairL} (hl : KD l) (hm : KD m) (h : ∀ q, q ∈ l ↔ q ∈ m) (k : ByteArray) : findB l k = findB m k := by
  rcases h1 : findB l k with _ | v
  · symm
    rw [findB_none] at h1 ⊢
    exact fun q hq => h1 q ((h q).2 hq)
  · obtain ⟨q, hq, hk, hv⟩ := findB_some h1
    rw [← findB_key m hk, findB_mem hm ((h q).1 hq), hv]
theorem rec_rev (own : PairL) (disc : Bool) (l : PairL) (h : ansE [] l true = none) (k : ByteArray) : findB (recL own true disc [] l) k = findB (recL own true disc [] l.reverse) k := by
  obtain ⟨_, _, h3⟩ := ansE_nil h
  rw [recL_nil h3, recL_nil h3.rev]
  refine findB_same (recN_keys _ _ _ _ h3) (recN_keys _ _ _ _ h3.rev) (fun q => ?_) k
  unfold recN
  rw [List.mem_flatMap, List.mem_flatMap]
  simp
/- one behind what one has -/
theorem nNewGo_snoc (p : ByteArray × ByteArray) : ∀ (l pre : PairL), nNewGo pre l = none → nNewGo pre (l ++ [p]) = if (findB (pre ++ l) p.1).isSome = true then some (9, (pre ++ l).length) else if fitsB p ≠ 0 then some (fitsB p, (pre ++ l).length) else none
  | [], pre, _ => by simp [nNewGo]
  | x :: l, pre, h => by
    rw [List.cons_append, nNewGo]
    rw [nNewGo] at h
    split at h
    · cases h
    · split at h
      · cases h
      · rename_i h1 h2
        rw [if_neg h1, if_neg h2, nNewGo_snoc p l _ h, List.append_assoc]
        rfl
end Go.Proofs.YtamlepacljjpiaaGreatDoor

/- One's things (own, record) in memory, and what a call may change of them. -/
namespace Go.Proofs.YtamlepacljjpiaaGreatDoor
open Go.ChangeShapes Go.WideShapes Go.ChangeAt Go.RowKit Go.Shelf
set_option linter.unusedVariables false
structure NF (S : List Nat) (A C : World) : Prop where
  os : C.os = A.os
  tape : C.tape = A.tape
  output : C.output = A.output
  size : A.heap.size ≤ C.heap.size
  block : ∀ k, k < A.heap.size → k ∉ S → C.heap[k]? = A.heap[k]?
theorem NF.of_below {S : List Nat} {A C : World} (h : Below A.heap.size A C) : NF S A C := ⟨h.os, h.tape, h.output, h.size, fun k hk _ => h.block k hk⟩
theorem NF.refl (S : List Nat) (A : World) : NF S A A := ⟨rfl, rfl, rfl, Nat.le_refl _, fun _ _ _ => rfl⟩
theorem NF.trans {S S' : List Nat} {A B C : World} (h : NF S A B) (k : NF S' B C) (hs : ∀ x ∈ S', x ∈ S ∨ A.heap.size ≤ x) : NF S A C :=
  ⟨k.os.trans h.os, k.tape.trans h.tape, k.output.trans h.output, Nat.le_trans h.size k.size, fun x hx hn => by
    refine (k.block x (Nat.lt_of_lt_of_le hx h.size) fun hm => ?_).trans (h.block x hx hn)
    rcases hs x hm with h1 | h1
    · exact hn h1
    · omega⟩
theorem NF.then_below {S : List Nat} {A B C : World} (h : NF S A B) (k : Below B.heap.size B C) : NF S A C := h.trans (NF.of_below (S := []) k) (by simp)
theorem NF.below {S : List Nat} {A C : World} {n : Nat} (h : NF S A C) (hS : ∀ x ∈ S, n ≤ x) (hn : n ≤ A.heap.size) : Below n A C :=
  ⟨h.os, h.tape, h.output, h.size, fun k hk => h.block k (by omega) fun hm => by have := hS k hm; omega⟩
theorem below_nf {S : List Nat} {w0 A C : World} (h0 : Below w0.heap.size w0 A) (h : NF S A C) (hS : ∀ x ∈ S, w0.heap.size ≤ x) : Below w0.heap.size w0 C := h0.trans (h.below hS h0.size)
/- rows of pairs of one's own -/
def ORow (w : World) (base : Nat) (v : Value) (l : PairL) : Prop := w.ownsRow base 62 2 v l.length (pairCells l)
theorem ORow.keep {w w' : World} {base : Nat} {v : Value} {l : PairL} (h : ORow w base v l) (hk : ∀ k, v.ownBlock = some k → w'.heap[k]? = w.heap[k]?) : ORow w' base v l := by
  refine ⟨h.1, ?_⟩
  rcases h.2 with hn | ⟨g, cap, cur, rfl, h2, h3, h4⟩
  · exact .inl hn
  · exact .inr ⟨g, cap, cur, rfl, h2, (hk g rfl).trans h3, h4⟩
theorem ORow.lt {w : World} {base : Nat} {v : Value} {l : PairL} (h : ORow w base v l) : ∀ k, v.ownBlock = some k → base ≤ k ∧ k < w.heap.size := World.ownsRow.lt h
theorem ORow.row {w : World} {base : Nat} {v : Value} {l : PairL} (h : ORow w base v l) : PRow w base v l := MRow.of_own h
theorem ORow.rd {w : World} {base : Nat} {v : Value} {l : PairL} (h : ORow w base v l) : SRd w v 2 l.length (pairCells l) := SRd.of_m h.row
theorem ORow.nil (w : World) (base : Nat) : ORow w base (.slice none 0 0) [] := World.ownsRow_nil w base _ _
theorem ORow.form {w : World} {base : Nat} {v : Value} {l : PairL} (h : ORow w base v l) : ∃ A cap, v = .slice A l.length cap := by
  obtain ⟨A, cap, h1, _⟩ := h.row.form
  exact ⟨A, cap, h1⟩
theorem ORow.alloc {w : World} {base : Nat} {v : Value} {l : PairL} (h : ORow w base v l) (o : Obj) : ORow (w.alloc o) base v l := h.keep fun k hk => Below.heap_alloc _ _ _ (h.lt k hk).2
theorem ORow.drew {w : World} {base : Nat} {v : Value} {l : PairL} (h : ORow w base v l) : ORow w.drew base v l := h
theorem ORow.drewN {w : World} {base : Nat} {v : Value} {l : PairL} (h : ORow w base v l) (k : Nat) : ORow (w.drewN k) base v l := h
theorem ORow.on {w w' : World} {base : Nat} {v : Value} {l : PairL} (h : ORow w base v l) (hb : Below w.heap.size w w') : ORow w' base v l := h.keep fun k hk => hb.block k (h.lt k hk).2
theorem wpList_append_po (w : World) {ops : Array Oper} {rest : List Oper} {o : Oper} {a : Act} {Q : Exit → Act → World → Prop} (hgd : o.guard = none) (s x : Operand)
    (ho : o.op = .call { callee := .builtin .append, args := #[s, x], argTypes := #[27, 27] })
    (base : Nat) (v : Value) (l : PairL) (hs : a.eval s = v) (hown : ORow w base v l)
    (ad : Addr) (c : Nat) (p : ByteArray × ByteArray) (hx : a.eval x = .slice (some ad) 1 c) (h0 : w.cell? (ad.add 0) = some (.string p.1)) (h1 : w.cell? (ad.add 1) = some (.string p.2)) (hlen : (l.length + 1) * 32 ≤ 140737488355328) (hbase : base ≤ w.heap.size)
    (h : ∀ v' w', ORow w' base v' (l ++ [p]) → w.grownBy w' v.ownBlock → (v'.ownBlock = v.ownBlock ∨ v'.ownBlock = some w.heap.size) → wpList Tryz.prog ops Q rest (a.put o.dst v') w') : wpList Tryz.prog ops Q (o :: rest) a w := by
  obtain ⟨i0, hi, hz0, hz1, hz2⟩ := info_parts infoPair
  refine wpList_append_own_at w hgd s x _ ho base 62 i0 _ 2 32 Tryz.underlying27 hi hz0 hz1 hz2 rfl (by decide) v l.length _ hs hown ad 1 c [.string p.1, .string p.2] hx (by simp) ?_ ?_ (by unfold maxLen; omega) (by omega) hbase ?_
  · intro j u hu
    match j with
    | 0 => cases hu; exact h0
    | 1 => cases hu; exact h1
    | j + 2 => simp at hu
  · intro u hu
    simp at hu
    rcases hu with rfl | rfl <;> rfl
  · intro v' w' r1 r2 _ r4
    refine h v' w' ?_ r2 r4
    unfold ORow
    rw [List.length_append, pairCells_snoc]
    exact r1
theorem step_append_po (w : World) {ops : Array Oper} {o : Oper} {a : Act} {K : Act → World → Prop} {Q : Exit → Act → World → Prop} {E : Prop} (hgd : o.guard = none) (s x : Operand)
    (ho : o.op = .call { callee := .builtin .append, args := #[s, x], argTypes := #[27, 27] })
    (base : Nat) (v : Value) (l : PairL) (hs : a.eval s = v) (hown : ORow w base v l)
    (ad : Addr) (c : Nat) (p : ByteArray × ByteArray) (hx : a.eval x = .slice (some ad) 1 c) (h0 : w.cell? (ad.add 0) = some (.string p.1)) (h1 : w.cell? (ad.add 1) = some (.string p.2)) (hlen : (l.length + 1) * 32 ≤ 140737488355328) (hbase : base ≤ w.heap.size)
    (h : ∀ v' w', ORow w' base v' (l ++ [p]) → w.grownBy w' v.ownBlock → (v'.ownBlock = v.ownBlock ∨ v'.ownBlock = some w.heap.size) → K (a.put o.dst v') w') : if Region.wanted o (yielded ops a.tmps) = true then Oper.wp Tryz.prog o a w K Q else E := by
  rw [if_pos (by simp [Region.wanted, hgd])]
  obtain ⟨i0, hi, hz0, hz1, hz2⟩ := info_parts infoPair
  obtain ⟨v', w', hr, h2, h3, _, h5⟩ := run_append_own_at (P := Tryz.prog) w base 27 o.type 62 i0 _ 2 32 Tryz.underlying27 hi hz0 hz1 hz2 rfl (by decide) v l.length _ hown ad 1 c [.string p.1, .string p.2] (by simp) (by
    intro j u hu
    match j with
    | 0 => cases hu; exact h0
    | 1 => cases hu; exact h1
    | j + 2 => simp at hu) (by
    intro u hu
    simp at hu
    rcases hu with rfl | rfl <;> rfl) (by unfold maxLen; omega) (by omega) hbase
  unfold Oper.wp execOp
  simp only [ho, resolve, invoke, builtin, Sem.run_bind, Sem.run_pure, Result.andThen_ok, List.map_toArray, List.map_cons, List.map_nil, hs, hx, hr]
  refine h v' w' ?_ h3 h5
  unfold ORow
  rw [List.length_append, pairCells_snoc]
  exact h2
/- one's things: the blocks of S are its own -/
def NegoH (w : World) (S : List Nat) (g : Nat) (own rc : PairL) : Prop := ∃ ov rv, Blk w g 130 #[ov, rv] ∧ PRow w 0 ov own ∧ ORow w 0 rv rc ∧ g ∈ S ∧ (∀ k, ov.ownBlock = some k → k ∈ S ∧ k ≠ g ∧ rv.ownBlock ≠ some k) ∧ (∀ k, rv.ownBlock = some k → k ∈ S ∧ k ≠ g) ∧ ∀ k ∈ S, k < w.heap.size
theorem NegoH.keep {w w' : World} {S : List Nat} {g : Nat} {own rc : PairL} (h : NegoH w S g own rc) (hz : w.heap.size ≤ w'.heap.size) (hk : ∀ k ∈ S, w'.heap[k]? = w.heap[k]?) : NegoH w' S g own rc := by
  obtain ⟨ov, rv, h1, h2, h3, h4, h5, h6, h7⟩ := h
  exact ⟨ov, rv, (hk g h4).trans h1, h2.keep fun k hb => hk k (h5 k hb).1, h3.keep fun k hb => hk k (h6 k hb).1, h4, h5, h6, fun k hm => Nat.lt_of_lt_of_le (h7 k hm) hz⟩
theorem NegoH.on {w w' : World} {S : List Nat} {g : Nat} {own rc : PairL} (h : NegoH w S g own rc) (hb : Below w.heap.size w w') : NegoH w' S g own rc := by
  obtain ⟨ov, rv, _, _, _, _, _, _, h7⟩ := id h
  exact h.keep hb.size fun k hm => hb.block k (h7 k hm)
theorem NegoH.lt {w : World} {S : List Nat} {g : Nat} {own rc : PairL} (h : NegoH w S g own rc) : ∀ k ∈ S, k < w.heap.size := by
  obtain ⟨ov, rv, _, _, _, _, _, _, h7⟩ := h
  exact h7
theorem NegoH.other {w w' : World} {S S' : List Nat} {g : Nat} {own rc : PairL} (h : NegoH w S g own rc) (hf : NF S' w w') (hd : ∀ k ∈ S, k ∉ S') : NegoH w' S g own rc :=
  h.keep hf.size fun k hm => hf.block k (h.lt k hm) (hd k hm)
theorem NegoH.new {w : World} {base g : Nat} {ov : Value} {own : PairL} (hg : base ≤ g) (hB : NegoAt w g ov (.slice none 0 0)) (hr : PRow w base ov own) (hne : ∀ k, ov.ownBlock = some k → k ≠ g) : ∃ S, NegoH w S g own [] ∧ ∀ k ∈ S, base ≤ k := by
  rcases ho : ov.ownBlock with _ | b
  · refine ⟨[g], ⟨ov, _, hB, hr.more (Nat.zero_le _), ORow.nil _ _, by simp, fun k hk => (by rw [ho] at hk; cases hk), fun k hk => (by cases hk), fun k hk => by obtain rfl := List.mem_singleton.1 hk; exact hB.lt⟩, fun k hk => by obtain rfl := List.mem_singleton.1 hk; exact hg⟩
  · have hb := hr.lt b ho
    have hn := hne b ho
    refine ⟨[g, b], ⟨ov, _, hB, hr.more (Nat.zero_le _), ORow.nil _ _, by simp, fun k hk => ?_, fun k hk => (by cases hk), fun k hk => ?_⟩, fun k hk => ?_⟩
    · rw [ho] at hk
      cases hk
      exact ⟨by simp, hn, by simp [Value.ownBlock]⟩
    · simp at hk
      rcases hk with rfl | rfl
      · exact hB.lt
      · exact hb.2
    · simp at hk
      rcases hk with rfl | rfl
      · exact hg
      · exact hb.1
end Go.Proofs.YtamlepacljjpiaaGreatDoor

/- One's things in memory: the record with one row more. -/
namespace Go.Proofs.YtamlepacljjpiaaGreatDoor
open Go.ChangeShapes Go.WideShapes Go.ChangeAt Go.RowKit Go.Shelf
set_option linter.unusedVariables false
theorem NF.grown {S : List Nat} {A B C : World} {row : Option Nat} (h : NF S A B) (k : B.grownBy C row) (hr : ∀ x, row = some x → x ∈ S ∨ A.heap.size ≤ x) : NF S A C :=
  ⟨k.os.trans h.os, k.tape.trans h.tape, k.output.trans h.output, Nat.le_trans h.size k.size, fun x hx hn => (k.block x (Nat.lt_of_lt_of_le hx h.size) (fun e => by
    rcases hr x e.symm with h1 | h1
    · exact hn h1
    · omega)).trans (h.block x hx hn)⟩
theorem NF.put {S : List Nat} {A B : World} (h : NF S A B) {g : Nat} (hg : g ∈ S ∨ A.heap.size ≤ g) (i : Nat) (u : Value) : NF S A (B.setCell ⟨g, i, none⟩ u) :=
  ⟨h.os, h.tape, h.output, by simpa using h.size, fun x hx hn => (Below.heap_setCell _ _ _ _ (by
    rintro rfl
    rcases hg with h1 | h1
    · exact hn h1
    · exact absurd (show x < A.heap.size from hx) (by show ¬ x < A.heap.size; simpa using h1))).trans (h.block x hx hn)⟩
theorem NF.more {S S' : List Nat} {A B : World} (h : NF S A B) (hs : ∀ x ∈ S, x ∈ S' ∨ A.heap.size ≤ x) : NF S' A B :=
  ⟨h.os, h.tape, h.output, h.size, fun x hx hn => h.block x hx fun hm => by
    rcases hs x hm with h1 | h1
    · exact hn h1
    · omega⟩
theorem ORow.more {w : World} {base base' : Nat} {v : Value} {l : PairL} (h : ORow w base v l) (hb : base' ≤ base) : ORow w base' v l := by
  refine ⟨h.1, ?_⟩
  rcases h.2 with hn | ⟨g, cap, cur, rfl, h2, h3⟩
  · exact .inl hn
  · exact .inr ⟨g, cap, cur, rfl, Nat.le_trans hb h2, h3⟩
theorem ORow.put {w : World} {base g : Nat} {v : Value} {l : PairL} (h : ORow w base v l) (hg : v.ownBlock ≠ some g) (i : Nat) (u : Value) : ORow (w.setCell ⟨g, i, none⟩ u) base v l :=
  h.keep fun k hk => Below.heap_setCell _ _ _ _ (by rintro rfl; exact hg hk)
theorem ORow.grown {w w' : World} {base : Nat} {v : Value} {l : PairL} {row : Option Nat} (h : ORow w base v l) (hg : w.grownBy w' row) (hne : v.ownBlock = none ∨ v.ownBlock ≠ row) : ORow w' base v l :=
  h.keep fun k hk => hg.block k (h.lt k hk).2 (by
    rcases hne with h1 | h1
    · rw [hk] at h1; cases h1
    · rw [hk] at h1; exact h1)
def NegoX (w : World) (S : List Nat) (g : Nat) (own rc : PairL) (ov rv : Value) : Prop := Blk w g 130 #[ov, rv] ∧ PRow w 0 ov own ∧ ORow w 0 rv rc ∧ g ∈ S ∧ (∀ k, ov.ownBlock = some k → k ∈ S ∧ k ≠ g ∧ rv.ownBlock ≠ some k) ∧ (∀ k, rv.ownBlock = some k → k ∈ S ∧ k ≠ g) ∧ ∀ k ∈ S, k < w.heap.size
theorem NegoX.h {w : World} {S : List Nat} {g : Nat} {own rc : PairL} {ov rv : Value} (h : NegoX w S g own rc ov rv) : NegoH w S g own rc := ⟨ov, rv, h⟩
theorem NegoX.keep {w w' : World} {S : List Nat} {g : Nat} {own rc : PairL} {ov rv : Value} (h : NegoX w S g own rc ov rv) (hz : w.heap.size ≤ w'.heap.size) (hk : ∀ k ∈ S, w'.heap[k]? = w.heap[k]?) : NegoX w' S g own rc ov rv := by
  obtain ⟨h1, h2, h3, h4, h5, h6, h7⟩ := h
  exact ⟨(hk g h4).trans h1, h2.keep fun k hb => hk k (h5 k hb).1, h3.keep fun k hb => hk k (h6 k hb).1, h4, h5, h6, fun k hm => Nat.lt_of_lt_of_le (h7 k hm) hz⟩
theorem NegoX.lt {w : World} {S : List Nat} {g : Nat} {own rc : PairL} {ov rv : Value} (h : NegoX w S g own rc ov rv) : ∀ k ∈ S, k < w.heap.size := h.2.2.2.2.2.2
theorem NegoX.on {w w' : World} {S : List Nat} {g : Nat} {own rc : PairL} {ov rv : Value} (h : NegoX w S g own rc ov rv) (hb : Below w.heap.size w w') : NegoX w' S g own rc ov rv :=
  h.keep hb.size fun k hm => hb.block k (h.lt k hm)
theorem NegoX.grown {w w' : World} {S : List Nat} {g : Nat} {own rc : PairL} {ov rv : Value} {row : Option Nat} (h : NegoX w S g own rc ov rv) (hg : w.grownBy w' row) (hr : ∀ x, row = some x → x ∉ S) : NegoX w' S g own rc ov rv :=
  h.keep hg.size fun k hm => hg.block k (h.lt k hm) fun e => hr k e.symm hm
/- the record's cell put anew: a row of the same block -/
theorem NegoX.put {w : World} {S : List Nat} {g : Nat} {own rc rc' : PairL} {ov rv rv' : Value} (h : NegoX w S g own rc ov rv) (ho : ORow w 0 rv' rc') (hs : rv'.ownBlock = rv.ownBlock) : NegoX (w.setCell ⟨g, 1, none⟩ rv') S g own rc' ov rv' := by
  obtain ⟨h1, h2, h3, h4, h5, h6, h7⟩ := h
  refine ⟨?_, h2.keep fun k hb => Below.heap_setCell _ _ _ _ (by rintro rfl; exact (h5 _ hb).2.1 rfl), ho.keep fun k hb => Below.heap_setCell _ _ _ _ (by rintro rfl; exact (h6 _ (hs ▸ hb)).2 rfl), h4, fun k hk => ⟨(h5 k hk).1, (h5 k hk).2.1, by rw [hs]; exact (h5 k hk).2.2⟩, fun k hk => h6 k (hs ▸ hk), fun k hm => by simpa using h7 k hm⟩
  exact h1.put 1 rv'
/- the record with one row more: the row's block the same, or a new one -/
theorem NegoX.push {w w5 : World} {S : List Nat} {g : Nat} {own rc rc' : PairL} {ov rv rv' : Value} (h : NegoX w S g own rc ov rv) (ho : ORow w5 0 rv' rc') (hg : w.grownBy w5 rv.ownBlock) (hat : rv'.ownBlock = rv.ownBlock ∨ rv'.ownBlock = some w.heap.size) :
    ∃ S', NegoX (w5.setCell ⟨g, 1, none⟩ rv') S' g own rc' ov rv' ∧ NF S w (w5.setCell ⟨g, 1, none⟩ rv') ∧ (∀ x ∈ S', x ∈ S ∨ w.heap.size ≤ x) ∧ ∀ x, x ∉ S → x < w.heap.size → x ∉ S' := by
  obtain ⟨h1, h2, h3, h4, h5, h6, h7⟩ := id h
  have hgl := h7 g h4
  have hgr : some g ≠ rv.ownBlock := fun e => (h6 g e.symm).2 rfl
  have hB5 : Blk w5 g 130 #[ov, rv] := (hg.block g hgl hgr).trans h1
  have hgne : rv'.ownBlock ≠ some g := by
    rcases hat with e | e
    · rw [e]; exact fun e' => hgr e'.symm
    · rw [e]
      intro e'
      injection e' with e'
      omega
  have hnf : NF S w (w5.setCell ⟨g, 1, none⟩ rv') := (((NF.refl S w).grown hg fun x hx => .inl (h6 x hx).1)).put (.inl h4) _ _
  have ho2 : ORow (w5.setCell ⟨g, 1, none⟩ rv') 0 rv' rc' := ho.put hgne _ _
  have hov : PRow (w5.setCell ⟨g, 1, none⟩ rv') 0 ov own := h2.keep fun k hb => (Below.heap_setCell _ _ _ _ (by rintro rfl; exact (h5 _ hb).2.1 rfl)).trans (hg.block k (h7 k (h5 k hb).1) fun e => (h5 k hb).2.2 e.symm)
  have hBf : Blk (w5.setCell ⟨g, 1, none⟩ rv') g 130 #[ov, rv'] := hB5.put 1 rv'
  have hsz : w5.heap.size = (w5.setCell ⟨g, 1, none⟩ rv').heap.size := by simp
  rcases hat with e | e
  · refine ⟨S, ⟨hBf, hov, ho2, h4, fun k hk => ⟨(h5 k hk).1, (h5 k hk).2.1, by rw [e]; exact (h5 k hk).2.2⟩, fun k hk => h6 k (e ▸ hk), fun k hm => by rw [← hsz]; exact Nat.lt_of_lt_of_le (h7 k hm) hg.size⟩, hnf, fun x hx => .inl hx, fun x hx _ => hx⟩
  · refine ⟨w.heap.size :: S, ⟨hBf, hov, ho2, List.mem_cons_of_mem _ h4, fun k hk => ⟨List.mem_cons_of_mem _ (h5 k hk).1, (h5 k hk).2.1, ?_⟩, fun k hk => ?_, fun k hm => ?_⟩, hnf, fun x hx => ?_, fun x hx hl => ?_⟩
    · rw [e]
      have := h7 k (h5 k hk).1
      intro e'
      injection e' with e'
      omega
    · rw [e] at hk
      injection hk with hk
      subst hk
      exact ⟨by simp, by omega⟩
    · rw [← hsz]
      rcases List.mem_cons.1 hm with rfl | hm
      · exact (ho.lt _ e).2
      · exact Nat.lt_of_lt_of_le (h7 k hm) hg.size
    · rcases List.mem_cons.1 hx with rfl | hx
      · exact .inr (Nat.le_refl _)
      · exact .inl hx
    · intro hm
      rcases List.mem_cons.1 hm with rfl | hm
      · omega
      · exact hx hm
theorem SRd.blks {w w' : World} {A : Option Addr} {n cap size : Nat} {xs : List Value} (h : SRd w (.slice A n cap) size n xs) (hz : w.heap.size ≤ w'.heap.size) (hb : 0 < n → ∀ a, A = some a → a.block < w.heap.size → w'.heap[a.block]? = w.heap[a.block]?) : SRd w' (.slice A n cap) size n xs := by
  obtain ⟨h1, A', cap', hv, h2, h3, h4⟩ := h
  refine ⟨h1, A', cap', hv, h2, h3, fun hn => ?_⟩
  obtain ⟨b, o, hA, hlt, hc⟩ := h4 hn
  injection hv with e1 e2 e3
  refine ⟨b, o, hA, by omega, fun j u hu => ?_⟩
  rw [← hc j u hu]
  exact World.cell?_of_block (hb hn ⟨b, o, none⟩ (e1.trans hA) hlt)
/- plain: what was recorded, in a round -/
theorem recL_len (own : PairL) (login disc : Bool) : ∀ (l rc : PairL), (recL own login disc rc l).length ≤ rc.length + l.length
  | [], rc => by simp [recL]
  | p :: l, rc => by
    have ih := recL_len own login disc l (addB rc p.1 (ansP own login disc p).2)
    rw [recL, List.length_cons]
    have : (addB rc p.1 (ansP own login disc p).2).length ≤ rc.length + 1 := by
      unfold addB
      split
      · omega
      · rw [List.length_append]
        exact Nat.add_le_add (List.length_filter_le _ _) (Nat.le_refl _)
    omega
theorem saidL_len (own : PairL) (login disc : Bool) : ∀ (l : PairL), (saidL own login disc l).length ≤ l.length
  | [] => by simp [saidL]
  | p :: l => by
    have ih := saidL_len own login disc l
    show (saidP own login disc p ++ saidL own login disc l).length ≤ _
    rw [List.length_append, List.length_cons]
    have : (saidP own login disc p).length ≤ 1 := by
      unfold saidP one
      split <;> simp
    omega
theorem recL_snoc (own : PairL) (login disc : Bool) (l rc : PairL) (p : ByteArray × ByteArray) : recL own login disc rc (l ++ [p]) = addB (recL own login disc rc l) p.1 (ansP own login disc p).2 := by
  rw [recL_app]
  rfl
theorem saidL_snoc (own : PairL) (login disc : Bool) (l : PairL) (p : ByteArray × ByteArray) : saidL own login disc (l ++ [p]) = saidL own login disc l ++ one p.1 (ansP own login disc p).1 := by
  unfold saidL
  rw [List.flatMap_append]
  simp [saidP]
theorem fresh_at {own rc l : PairL} {login disc : Bool} (hk : KD l) (hf : ∀ p ∈ l, findB rc p.1 = none) {k : Nat} {p : ByteArray × ByteArray} (hp : l[k]? = some p) : findB (recL own login disc rc (l.take k)) p.1 = none := by
  rw [recL_fresh own login disc (l.take k) rc (hk.sub (List.take_sublist k l)) (fun x hx => hf x (List.mem_of_mem_take hx)), findB_app, hf p (List.mem_of_getElem? hp)]
  show findB (recN own login disc (l.take k)) p.1 = none
  rw [findB_none]
  intro q hq
  obtain ⟨x, hx, e, _⟩ := recN_mem hq
  have hpd : p ∈ l.drop k := by
    obtain ⟨h1, h2⟩ := List.getElem?_eq_some_iff.1 hp
    rw [List.drop_eq_getElem_cons h1, h2]
    simp
  rw [← List.take_append_drop k l] at hk
  have := hk.ne hx hpd
  unfold kB at this ⊢
  rw [e]
  exact this
end Go.Proofs.YtamlepacljjpiaaGreatDoor

/- slices.IndexFunc and slices.DeleteFunc of pairs, where nothing is struck. -/
namespace Go.Proofs.YtamlepacljjpiaaGreatDoor
open Go.ChangeShapes Go.WideShapes Go.ChangeAt Go.RowKit Go.Shelf
set_option linter.unusedVariables false
def idxG (pr : ByteArray × ByteArray → Bool) : PairL → Nat → Int
  | [], _ => -1
  | q :: r, k => if pr q = true then (k : Int) else idxG pr r (k + 1)
def PredP (fid : Nat) (lb : Array Value) (pr : ByteArray × ByteArray → Bool) (l : PairL) (W : World) : Prop := ∀ q ∈ l, Calls Tryz.prog fid (#[.agg #[.string q.1, .string q.2]] ++ lb) W fun e w' => e = .returned (.bool (pr q)) ∧ Below W.heap.size W w'
set_option maxRecDepth 20000 in
set_option maxHeartbeats 4000000 in
theorem idxf_any (fid : Nat) (lb : Array Value) (eg : ∀ args w, (callFunc fid args).run Tryz.prog w = .ok (.enter fid args) w) (pr : ByteArray × ByteArray → Bool) (l : PairL) (v : Value) (w : World) (hv : SRd w v 2 l.length (pairCells l)) (hn : l.length ≤ 1000000)
    (hf : ∀ W, Below w.heap.size w W → PredP fid lb pr l W) :
    Calls Tryz.prog 73 #[v, .func (.func fid) #[] lb] w fun e w' => e = .returned (.int .i64 (idxG pr l 0)) ∧ Below w.heap.size w w' := by
  obtain ⟨A, cap, rfl⟩ : ∃ A cap, v = .slice A l.length cap := by obtain ⟨_, A, cap, hv, _⟩ := hv; exact ⟨A, cap, hv⟩
  obtain ⟨N, hN⟩ : ∃ N, l.length = N := ⟨_, rfl⟩
  obtain ⟨R, hR⟩ : ∃ R, idxG pr l 0 = R := ⟨_, rfl⟩
  rw [hR]
  rw [hN] at hn ⊢
  have HV := Lib.hid hv
  have HN := Lib.hid hN
  have HR := Lib.hid hR
  have HF := Lib.hid hf
  clear hv hN hR hf
  go_enter Tryz.func73, Tryz.ntmps73
  go_wp2_with fail
  go_loopw [5, 8] (fun _ i wr => ∃ k : Nat, k ≤ N ∧ i = .int .i64 k ∧ idxG pr (l.drop k) k = R ∧ Below w.heap.size w wr) (fun _ i _ => N - (intOf i).toNat)
  case atStart => exact ⟨0, Nat.zero_le _, rfl, HR.out, Below.refl _ _⟩
  case round =>
    obtain ⟨k, hk, rfl, hgo, hbw⟩ := hrel
    by_cases hlt : k < N
    · obtain ⟨q, hq⟩ : ∃ q, l[k]? = some q := ⟨_, List.getElem?_eq_getElem (by rw [HN.out]; exact hlt)⟩
      have hdr : l.drop k = q :: l.drop (k + 1) := by
        obtain ⟨h1, h2⟩ := List.getElem?_eq_some_iff.1 hq
        rw [List.drop_eq_getElem_cons h1, h2]
      rw [hdr, idxG] at hgo
      have hvr := HV.out.on hbw
      obtain ⟨b, o, cp, u0, u1, hvv, hbl, q0, q1, c0, c1⟩ := hvr.two (k := k) (by rw [HN.out]; exact hlt)
      have hcell := pairCells_at l k q hq
      rw [hcell.1] at q0
      rw [hcell.2] at q1
      obtain rfl := Option.some.inj q0
      obtain rfl := Option.some.inj q1
      injection hvv with g1 g2 g3
      subst g1
      subst g3
      have hcall := HF.out wr hbw q (List.mem_of_getElem? hq)
      obtain ⟨p1, p2⟩ := q
      simp only at c0 c1 hcall
      obtain ⟨B, hB⟩ : ∃ B, pr (p1, p2) = B := ⟨_, rfl⟩
      rw [hB] at hcall hgo
      have HGO := Lib.hid hgo
      clear hdr hq hcell hB hgo g2
      rcases B with _ | _
      · have hG := HGO.out
        rw [if_neg (by simp)] at hG
        have HG := Lib.hid hG
        clear hG
        go_wp2_with (go_at_fn fid; refine hcall.mono ?_; rintro e w' ⟨rfl, hb'⟩)
        go_roundw
        case rel => exact ⟨k + 1, by omega, by go_num, HG.out, below_step hbw hb'⟩
        case measure => simp [intOf]; omega
      · have hG := HGO.out
        rw [if_pos rfl] at hG
        subst hG
        go_wp2_with (go_at_fn fid; refine hcall.mono ?_; rintro e w' ⟨rfl, hb'⟩)
        go_ret
        exact ⟨rfl, below_step hbw hb'⟩
    · obtain rfl : k = N := by omega
      rw [List.drop_of_length_le (by rw [HN.out]; exact Nat.le_refl _)] at hgo
      have hG : R = -1 := hgo.symm
      subst hG
      go_wp2_with fail
      go_ret
      exact ⟨rfl, hbw⟩
theorem idxG_none {pr : ByteArray × ByteArray → Bool} : ∀ (l : PairL) (k : Nat), (∀ q ∈ l, pr q = false) → idxG pr l k = -1
  | [], k, _ => rfl
  | q :: l, k, h => by
    rw [idxG, if_neg (by rw [h q (by simp)]; simp)]
    exact idxG_none l _ fun x hx => h x (List.mem_cons_of_mem _ hx)
set_option maxRecDepth 20000 in
set_option maxHeartbeats 4000000 in
theorem delf_none (fid : Nat) (lb : Array Value) (eg : ∀ args w, (callFunc fid args).run Tryz.prog w = .ok (.enter fid args) w) (pr : ByteArray × ByteArray → Bool) (l : PairL) (v : Value) (w : World) (hv : SRd w v 2 l.length (pairCells l)) (hn : l.length ≤ 1000000)
    (hf : ∀ W, Below w.heap.size w W → PredP fid lb pr l W) (hno : ∀ q ∈ l, pr q = false) :
    Calls Tryz.prog 41 #[v, .func (.func fid) #[] lb] w fun e w' => e = .returned v ∧ Below w.heap.size w w' := by
  have hi := idxf_any fid lb eg pr l v w hv hn hf
  rw [idxG_none l 0 hno] at hi
  obtain ⟨A, cap, rfl⟩ : ∃ A cap, v = .slice A l.length cap := by obtain ⟨_, A, cap, hv, _⟩ := hv; exact ⟨A, cap, hv⟩
  clear hf hv hno
  go_enter Tryz.func41, Tryz.ntmps41
  go_wp2_with fail
  refine hi.mono ?_
  rintro e w1 ⟨rfl, hb1⟩
  go_wp2_with fail
  go_ret
  exact ⟨rfl, hb1⟩
/- the same key -/
def sameK (k : ByteArray) (q : ByteArray × ByteArray) : Bool := decide (kB q = k.data.toList)
set_option maxRecDepth 20000 in
theorem clos_any (z : Nat) (k a b : ByteArray) (w : World) (hc : w.cell? ⟨z, 0, none⟩ = some (.string k)) (hz : z < w.heap.size) :
    Calls Tryz.prog 78 #[.agg #[.string a, .string b], .pointer (some ⟨z, 0, none⟩)] w fun e w' => e = .returned (.bool (sameK k (a, b))) ∧ Below w.heap.size w w' := by
  have hb0 : Below w.heap.size w (w.alloc (.cells #[.string a, .string b] 62)) := (Below.refl _ _).alloc (Nat.le_refl _) _
  have hB0 := Blk.new w 62 #[.string a, .string b]
  have hc2 := (hb0.cell (p := ⟨z, 0, none⟩) hz).trans hc
  have c0 := hB0.cell 0
  obtain ⟨B, hB⟩ : ∃ B, sameK k (a, b) = B := ⟨_, rfl⟩
  have hse : (a.toList == k.toList) = B := by
    rw [toList_of, toList_of, ← hB]
    unfold sameK kB
    by_cases h : a.data.toList = k.data.toList
    · rw [h]; simp
    · rw [decide_eq_false (by exact h)]
      exact beq_eq_false_iff_ne.2 h
  rw [hB]
  clear hB
  go_enter Tryz.func78, Tryz.ntmps78
  go_wp2_with fail
  go_ret
  exact ⟨rfl, hb0⟩
end Go.Proofs.YtamlepacljjpiaaGreatDoor
