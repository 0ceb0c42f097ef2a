/- Digests; made; the fact of offers. -/
import Derived.Test.YtamlepacljjpiaaGreatDoorNegoAnswer
namespace Go.Proofs.YtamlepacljjpiaaGreatDoor
open Go.ChangeShapes Go.WideShapes Go.ChangeAt Go.RowKit Go.Shelf
set_option linter.unusedVariables false
theorem nval_some (g : Nat) (S : List Nat) (own rc : PairL) (n D : ByteArray) (r : KeyR) (w : World) (hN : NegoH w S g own rc) (hr : keyRow n.data.toList = some r) (hD : ba (ownL rc n) = D) (V : Env w) : Calls Tryz.prog 71 #[.pointer (some ⟨g, 0, none⟩), .string n] w fun e w' =>
    e = .returned (.tuple #[.string D, .nilIface]) ∧ Below w.heap.size w w' := by
  refine (nval_any g S own rc n w hN V).mono ?_
  rintro e w' ⟨rfl, hb⟩
  rw [hr, ← hD]
  exact ⟨rfl, hb⟩
def hdB : ByteArray := ⟨#[72, 101, 97, 100, 101, 114, 68, 105, 103, 101, 115, 116]⟩
def ddB : ByteArray := ⟨#[68, 97, 116, 97, 68, 105, 103, 101, 115, 116]⟩
def crcL : List UInt8 := [67, 82, 67, 51, 50, 67]
def isCrc (l : List UInt8) : Bool := l == crcL
def digN (a b : Bool) : Nat := (if a then 1 else 0) + if b then 2 else 0
def digOf (rc : PairL) : Nat := digN (isCrc (ownL rc hdB)) (isCrc (ownL rc ddB))
def modeK (a b : Bool) : Nat → Int
  | 0 => 0
  | 1 => if a then 1 else 0
  | _ => (digN a b : Nat)
theorem hd_row : ∃ r, keyRow hdB.data.toList = some r := Option.isSome_iff_exists.1 (by decide +kernel)
theorem dd_row : ∃ r, keyRow ddB.data.toList = some r := Option.isSome_iff_exists.1 (by decide +kernel)
set_option maxRecDepth 20000 in
set_option maxHeartbeats 4000000 in
theorem ndig_any (g : Nat) (S : List Nat) (own rc : PairL) (w : World) (hN : NegoH w S g own rc) (V : Env w) : Calls Tryz.prog 72 #[.pointer (some ⟨g, 0, none⟩)] w fun e w' =>
    e = .returned (.int .i64 (digOf rc)) ∧ Below w.heap.size w w' := by
  have h0 := ixs0
  have h1 := ixs1
  obtain ⟨r1, hr1⟩ := hd_row
  obtain ⟨r2, hr2⟩ := dd_row
  obtain ⟨D1, hD1⟩ : ∃ D, ba (ownL rc hdB) = D := ⟨_, rfl⟩
  obtain ⟨D2, hD2⟩ : ∃ D, ba (ownL rc ddB) = D := ⟨_, rfl⟩
  obtain ⟨a, ha⟩ : ∃ a, isCrc (ownL rc hdB) = a := ⟨_, rfl⟩
  obtain ⟨b, hb⟩ : ∃ b, isCrc (ownL rc ddB) = b := ⟨_, rfl⟩
  unfold digOf
  rw [ha, hb]
  have e1 : (D1.toList == [67, 82, 67, 51, 50, 67]) = a := by rw [toList_of, ← hD1]; exact ha
  have e2 : (D2.toList == [67, 82, 67, 51, 50, 67]) = b := by rw [toList_of, ← hD2]; exact hb
  have HR1 := Lib.hid hr1
  have HR2 := Lib.hid hr2
  have HD1 := Lib.hid hD1
  have HD2 := Lib.hid hD2
  clear hr1 hr2 hD1 hD2 ha hb
  go_enter Tryz.func72, Tryz.ntmps72
  go_wp2_with fail
  go_loopw [3, 9] (fun m i wr => ∃ k : Nat, k ≤ 2 ∧ i = .int .i64 k ∧ m = .int .i64 (modeK a b k) ∧ Below w.heap.size w wr) (fun _ i _ => 2 - (intOf i).toNat)
  case atStart => exact ⟨0, by omega, rfl, rfl, Below.refl _ _⟩
  case round =>
    obtain ⟨k, hk, rfl, rfl, hbw⟩ := hrel
    match k, hk with
    | 0, _ =>
      have hm0 : modeK a b 0 = 0 := rfl
      have hm : modeK a b 1 = if a then 1 else 0 := rfl
      have HM := Lib.hid hm
      rw [hm0]
      clear hm0 hm
      go_wp2_with fail
      refine (nval_some g S own rc hdB D1 r1 _ (hN.on hbw) HR1.out HD1.out (V.on hbw)).mono ?_
      rintro e w1 ⟨rfl, hb1⟩
      rcases a with _ | _
      · go_wp2_with fail
        go_roundw
        case rel => exact ⟨1, by omega, by go_num, by first | (rw [HM.out]; done) | (rw [HM.out]; rfl), below_step hbw hb1⟩
        case measure => simp [intOf]
      · go_wp2_with fail
        go_roundw
        case rel => exact ⟨1, by omega, by go_num, by first | (rw [HM.out]; done) | (rw [HM.out]; rfl), below_step hbw hb1⟩
        case measure => simp [intOf]
    | 1, _ =>
      rcases a with _ | _ <;> rcases b with _ | _
      · have hm0 : modeK false false 1 = 0 := rfl
        have HM : Hid (modeK false false 2 = 0) := Lib.hid rfl
        rw [hm0]
        clear hm0
        go_wp2_with fail
        refine (nval_some g S own rc ddB D2 r2 _ (hN.on hbw) HR2.out HD2.out (V.on hbw)).mono ?_
        rintro e w1 ⟨rfl, hb1⟩
        go_wp2_with fail
        go_roundw
        case rel => exact ⟨2, by omega, by go_num, by first | (rw [HM.out]; done) | (rw [HM.out]; rfl), below_step hbw hb1⟩
        case measure => simp [intOf]
      · have hm0 : modeK false true 1 = 0 := rfl
        have HM : Hid (modeK false true 2 = 2) := Lib.hid rfl
        rw [hm0]
        clear hm0
        go_wp2_with fail
        refine (nval_some g S own rc ddB D2 r2 _ (hN.on hbw) HR2.out HD2.out (V.on hbw)).mono ?_
        rintro e w1 ⟨rfl, hb1⟩
        go_wp2_with fail
        go_roundw
        case rel => exact ⟨2, by omega, by go_num, by first | (rw [HM.out]; done) | (rw [HM.out]; rfl), below_step hbw hb1⟩
        case measure => simp [intOf]
      · have hm0 : modeK true false 1 = 1 := rfl
        have HM : Hid (modeK true false 2 = 1) := Lib.hid rfl
        rw [hm0]
        clear hm0
        go_wp2_with fail
        refine (nval_some g S own rc ddB D2 r2 _ (hN.on hbw) HR2.out HD2.out (V.on hbw)).mono ?_
        rintro e w1 ⟨rfl, hb1⟩
        go_wp2_with fail
        go_roundw
        case rel => exact ⟨2, by omega, by go_num, by first | (rw [HM.out]; done) | (rw [HM.out]; rfl), below_step hbw hb1⟩
        case measure => simp [intOf]
      · have hm0 : modeK true true 1 = 1 := rfl
        have HM : Hid (modeK true true 2 = 3) := Lib.hid rfl
        rw [hm0]
        clear hm0
        go_wp2_with fail
        refine (nval_some g S own rc ddB D2 r2 _ (hN.on hbw) HR2.out HD2.out (V.on hbw)).mono ?_
        rintro e w1 ⟨rfl, hb1⟩
        go_wp2_with fail
        go_roundw
        case rel => exact ⟨2, by omega, by go_num, by first | (rw [HM.out]; done) | (rw [HM.out]; rfl), below_step hbw hb1⟩
        case measure => simp [intOf]
    | 2, _ =>
      go_wp2_with fail
      go_ret
      exact ⟨rfl, hbw⟩
theorem nnew_iface {w : World} {base : Nat} {er : Value} {own : PairL} {E : Nat × Option Nat} (h : nNewR own = some E) (he : PErr w base er (some E)) : ∃ t x, er = .iface t x := by
  unfold nNewR at h
  rcases hp : pRightR own with _ | E'
  · rw [hp] at h
    rcases hg : nNewGo [] own with _ | ⟨c, q⟩
    · rw [hg] at h; cases h
    · rw [hg] at h
      have h2 : (c, some q) = E := Option.some.inj h
      subst h2
      obtain ⟨g, _, h3, _⟩ := he
      exact ⟨_, _, h3⟩
  · rw [hp] at h
    have h2 : E' = E := Option.some.inj h
    subst h2
    exact perr_iface hp he
def MadeIs (base : Nat) (own : PairL) (w' : World) (e : Ending) : Prop := e = .returned (.pointer none) ∨ ∃ S g, e = .returned (.pointer (some ⟨g, 0, none⟩)) ∧ NegoH w' S g own [] ∧ (∀ k ∈ S, base ≤ k) ∧ nNewR own = none
def ownF : PairL := [(⟨#[72, 101, 97, 100, 101, 114, 68, 105, 103, 101, 115, 116]⟩, ⟨#[67, 82, 67, 51, 50, 67, 44, 78, 111, 110, 101]⟩)]
def offF : PairL := [(⟨#[72, 101, 97, 100, 101, 114, 68, 105, 103, 101, 115, 116]⟩, ⟨#[78, 111, 110, 101, 44, 67, 82, 67, 51, 50, 67]⟩), (⟨#[88, 45, 97]⟩, ⟨#[49]⟩), (⟨#[73, 110, 105, 116, 105, 97, 116, 111, 114, 78, 97, 109, 101]⟩, ⟨#[109, 101]⟩), (⟨#[77, 97, 120, 67, 111, 110, 110, 101, 99, 116, 105, 111, 110, 115]⟩, ⟨#[48]⟩)]
def saidF : PairL := [(⟨#[72, 101, 97, 100, 101, 114, 68, 105, 103, 101, 115, 116]⟩, ⟨#[78, 111, 110, 101]⟩), (⟨#[88, 45, 97]⟩, ⟨#[78, 111, 116, 85, 110, 100, 101, 114, 115, 116, 111, 111, 100]⟩), (⟨#[77, 97, 120, 67, 111, 110, 110, 101, 99, 116, 105, 111, 110, 115]⟩, ⟨#[82, 101, 106, 101, 99, 116]⟩)]
theorem ownF_new : nNewR ownF = none := by decide +kernel
theorem ansF_none : ansE [] offF true = none := by decide +kernel
theorem saidF_eq : saidL ownF true false offF = saidF := by decide +kernel
theorem recF_len : (recL ownF true false [] offF).length = 2 := by decide +kernel
theorem recF_dd : ownL (recL ownF true false [] offF) ddB = [78, 111, 110, 101] := by decide +kernel
theorem recF_dig : digOf (recL ownF true false [] offF) = 0 := by decide +kernel
theorem psmallF : (∀ p ∈ ownF, psmall p) ∧ (∀ p ∈ offF, psmall p) ∧ ∀ q ∈ ownF, q.2.size ≤ 255 := by
  refine ⟨fun p hp => ?_, fun p hp => ?_, fun p hp => ?_⟩
  · simp [ownF] at hp
    subst hp
    exact ⟨by decide, by decide⟩
  · simp [offF] at hp
    rcases hp with rfl | rfl | rfl | rfl <;> exact ⟨by decide, by decide⟩
  · simp [ownF] at hp
    subst hp
    decide
theorem SRd.litp {w : World} {g n : Nat} {t : TypeId} {cs : Array Value} {xs : List Value} (h : Blk w g t cs) (hx : cs.toList = xs) (hn : xs.length = n * 2) (hm : n ≤ maxLen) : SRd w (.slice (some ⟨g, 0, none⟩) n n) 2 n xs := by
  refine ⟨hn, _, n, rfl, Nat.le_refl _, hm, fun _ => ⟨g, 0, rfl, h.lt, fun j u hu => ?_⟩⟩
  rw [Nat.zero_add, h.cell j, ← Array.getElem?_toList, hx]
  exact hu
set_option maxRecDepth 20000 in
set_option maxHeartbeats 8000000 in
theorem settled_fact (w : World) (V : Env w) : Calls Tryz.prog 39 #[] w fun e w' => e = .returned (.bool true) ∧ Below w.heap.size w w' := by
  obtain ⟨r2, hr2⟩ := dd_row
  have HR2 := Lib.hid hr2
  clear hr2
  go_enter Tryz.func39, Tryz.ntmps39
  go_wp2_with fail
  refine (nnew_any ownF _ _ (SRd.litp (Blk.new w _ _) rfl (by decide) (by decide)) psmallF.1 (V.on ((Below.refl _ _).alloc (Nat.le_refl _) _))).mono ?_
  rw [ownF_new]
  rintro e w1 ⟨⟨g, ov, rfl, hg, hB, hr, hne⟩, hb1⟩
  obtain ⟨S, hN, hS⟩ := NegoH.new hg hB hr hne
  have hbw1 : Below w.heap.size w w1 := ((Below.refl _ _).alloc (Nat.le_refl _) _).trans (hb1.mono (by simp))
  have hS0 : ∀ k ∈ S, w.heap.size ≤ k := fun k hk => Nat.le_trans (by simp) (hS k hk)
  have V1 := V.on hbw1
  clear hB hr hne hg
  have hz1 := hN.lt
  have hgl := hz1 g (by obtain ⟨_, _, _, _, _, h, _⟩ := id hN; exact h)
  have HN := Lib.hid hN
  clear hN
  go_wp2_with fail
  refine (nanswer_any g S ownF [] offF true false _ _ w (HN.out.on ((Below.refl _ _).alloc (Nat.le_refl _) _)) (SRd.litp (Blk.new w1 _ _) rfl (by decide) (by decide)) (fun _ k hk hm => by have := hz1 k hm; injection hk with hk; subst hk; exact Nat.lt_irrefl _ this) psmallF.2.1 psmallF.2.2 (by simp) (.inl rfl) V (hbw1.alloc (by exact hbw1.size) _) hS0).mono ?_
  rw [ansF_none]
  rintro e w2 ⟨S2, u, rfl, hu, hN2, hnf, hS2, hdu⟩
  rw [saidF_eq] at hu
  have hbw2 : Below w.heap.size w w2 := below_nf (hbw1.alloc (by exact hbw1.size) _) hnf hS0
  have V2 := V.on hbw2
  obtain ⟨uA, ucap, rfl⟩ := hu.form
  have hrd := hu.rd
  obtain ⟨RF, hRF⟩ : ∃ RF, recL ownF true false [] offF = RF := ⟨_, rfl⟩
  have k1 := recF_len
  have k2 := recF_dd
  have k3 := recF_dig
  rw [hRF] at hN2 k1 k2 k3
  have K1 := Lib.hid k1
  have K2 := Lib.hid k2
  have K3 := Lib.hid k3
  have l3 : saidF.length = 3 := rfl
  rw [l3]
  clear hu hdu hnf hRF k1 k2 k3 hS2 l3 hgl
  go_wp2_with fail
  refine (nval_some g S2 ownF RF ddB ⟨#[78, 111, 110, 101]⟩ r2 _ hN2 HR2.out (by rw [K2.out]; rfl) V2).mono ?_
  rintro e w3 ⟨rfl, hb3⟩
  have hbw3 := below_step hbw2 hb3
  have V3 := V2.on hb3
  have hN3 := hN2.on hb3
  have hrd3 := hrd.on hb3
  clear hrd hN2
  go_wp2_with fail
  refine (pequal_same saidF _ _ _ (hrd3.on ((Below.refl _ _).alloc (Nat.le_refl _) _)) (SRd.litp (Blk.new w3 _ _) rfl (by decide) (by decide))).mono ?_
  rintro e w4 ⟨rfl, kq, hw4⟩
  have hb34 : Below w3.heap.size w3 w4 := by rw [hw4]; exact below_dK ((Below.refl _ _).alloc (Nat.le_refl _) _) kq
  clear hw4
  have hbw4 := below_step hbw3 hb34
  have V4 := V3.on hb34
  have hN4 := hN3.on hb34
  clear hN3 hrd3
  go_wp2_with fail
  refine (ndig_any g S2 ownF RF _ hN4 V4).mono ?_
  rintro e w5 ⟨rfl, hb5⟩
  rw [K3.out]
  have hbw5 := below_step hbw4 hb5
  have hN5 := hN4.on hb5
  clear hN4
  go_wp2_with fail
  refine (nrec_any g S2 ownF RF _ hN5 (by rw [K1.out]; omega)).mono ?_
  rintro e w6 ⟨v6, rfl, hr6, hb6⟩
  obtain ⟨A6, cap6, rfl, _⟩ := hr6.form
  rw [K1.out]
  clear hr6 hN5
  go_wp2_with fail
  go_ret
  exact ⟨rfl, below_step hbw5 hb6⟩
end Go.Proofs.YtamlepacljjpiaaGreatDoor
