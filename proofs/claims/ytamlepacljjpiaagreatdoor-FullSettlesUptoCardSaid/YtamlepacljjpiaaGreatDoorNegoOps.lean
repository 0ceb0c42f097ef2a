/- The contracts of what one has of offers: Own, Value, Record, the answer to one offer. -/
import Derived.Test.YtamlepacljjpiaaGreatDoorGnego
import Derived.Test.YtamlepacljjpiaaGreatDoorKeysW1
namespace Go.Proofs.YtamlepacljjpiaaGreatDoor
open Go.ChangeShapes Go.WideShapes Go.ChangeAt Go.RowKit Go.Shelf
set_option linter.unusedVariables false
def keyCells (r : KeyR) (K : Int) : Array Value := #[.string ⟨r.name.toArray⟩, .int .i64 K, .int .i64 r.low, .int .i64 r.high, .string ⟨(dfl r).toArray⟩, .bool r.noth, .bool r.lonly]
theorem of_some (n : ByteArray) (r : KeyR) (K : Int) (D : ByteArray) (nb lb : Bool) (w : World) (h : keyRow n.data.toList = some r) (hK : (r.kind : Int) = K) (hD : ba (dfl r) = D) (hn : r.noth = nb) (hl : r.lonly = lb) (T : Tabs w) : Calls Tryz.prog 98 #[.string n] w fun e w' =>
    e = .returned (.tuple #[.agg #[.string ⟨r.name.toArray⟩, .int .i64 K, .int .i64 r.low, .int .i64 r.high, .string D, .bool nb, .bool lb], .nilIface]) ∧ Below w.heap.size w w' := by
  subst hD hn hl
  exact of_kind n r K w h hK T
def ownV (l : List UInt8) : Option KeyR → Value
  | none => .tuple #[.string ⟨#[]⟩, .iface 56 (.int .i64 5)]
  | some _ => .tuple #[.string (ba l), .nilIface]
def valL (rc : PairL) (k : ByteArray) : List UInt8 := ownL rc k
set_option maxRecDepth 20000 in
set_option maxHeartbeats 4000000 in
theorem nown_any (g : Nat) (S : List Nat) (own rc : PairL) (n : ByteArray) (w : World) (hN : NegoH w S g own rc) (V : Env w) : Calls Tryz.prog 102 #[.pointer (some ⟨g, 0, none⟩), .string n] w fun e w' =>
    e = .returned (ownV (ownL own n) (keyRow n.data.toList)) ∧ Below w.heap.size w w' := by
  obtain ⟨ov, rv, hB, ho, hr, hgS, _, _, _⟩ := id hN
  have hro := SRd.of_m ho
  obtain ⟨A, cap, rfl, _⟩ := ho.form
  rcases hk : keyRow n.data.toList with _ | r
  · have HR := Lib.hid hk
    clear hk hN
    go_enter Tryz.func102, Tryz.ntmps102
    go_wp2_with fail
    refine (of_none n _ HR.out V.T).mono ?_
    rintro e w1 ⟨rfl, hb1⟩
    unfold zeroK
    go_wp2_with fail
    go_ret2
    exact ⟨rfl, below_step hb1 ((Below.refl _ _).alloc (Nat.le_refl _) _)⟩
  · have HR := Lib.hid hk
    obtain ⟨D, hD⟩ : ∃ D, ba (dfl r) = D := ⟨_, rfl⟩
    obtain ⟨Q, hQ⟩ : ∃ Q, findB own n = Q := ⟨_, rfl⟩
    have HD := Lib.hid hD
    have HQ := Lib.hid hQ
    have hval : ownV (ownL own n) (some r) = .tuple #[.string (Q.getD D), .nilIface] := by
      unfold ownV ownL
      rw [hQ]
      rcases Q with _ | v
      · simp only [Option.getD_none]
        unfold dflOf
        rw [hk]
        simp only
        rw [hD]
      · simp only [Option.getD_some]
        rw [ba_of]
    rw [hval]
    clear hk hD hQ hval hN
    go_enter Tryz.func102, Tryz.ntmps102
    go_wp2_with fail
    refine (of_some n r _ D _ _ _ HR.out rfl HD.out rfl rfl V.T).mono ?_
    rintro e w1 ⟨rfl, hb1⟩
    obtain ⟨KV, hKV⟩ : ∃ KV : Array Value, #[.string ⟨r.name.toArray⟩, .int .i64 r.kind, .int .i64 r.low, .int .i64 r.high, .string D, .bool r.noth, .bool r.lonly] = KV := ⟨_, rfl⟩
    have hB1 := hB.below hb1 hB.lt
    have hro1 := hro.on hb1
    have hlt := hB1.lt
    have hba : Below w1.heap.size w1 (w1.alloc (.cells #[.string ⟨r.name.toArray⟩, .int .i64 r.kind, .int .i64 r.low, .int .i64 r.high, .string D, .bool r.noth, .bool r.lonly] 177)) := (Below.refl _ _).alloc (Nat.le_refl _) _
    have hro2 := hro1.on hba
    have hB2 := hB1.below hba hB1.lt
    have cc := hB1.cell 0
    have c0 := hB2.cell 0
    have hb2 := below_step hb1 hba
    have hf := find_any own _ n _ hro2
    rw [HQ.out] at hf
    clear hB hB1 ho hr hro hro1 hKV
    rcases Q with _ | v
    · go_wp2_with fail
      refine hf.mono ?_
      rintro e w3 ⟨rfl, hb3⟩
      unfold findV
      have hBk := (Blk.new w1 177 #[.string ⟨r.name.toArray⟩, .int .i64 r.kind, .int .i64 r.low, .int .i64 r.high, .string D, .bool r.noth, .bool r.lonly]).below hb3 (by simp)
      have k4 := hBk.cell 4
      go_wp2_with fail
      go_ret2
      exact ⟨rfl, below_step hb2 hb3⟩
    · go_wp2_with fail
      refine hf.mono ?_
      rintro e w3 ⟨rfl, hb3⟩
      unfold findV
      go_wp2_with fail
      go_ret2
      exact ⟨rfl, below_step hb2 hb3⟩
set_option maxRecDepth 20000 in
set_option maxHeartbeats 4000000 in
theorem nval_any (g : Nat) (S : List Nat) (own rc : PairL) (n : ByteArray) (w : World) (hN : NegoH w S g own rc) (V : Env w) : Calls Tryz.prog 71 #[.pointer (some ⟨g, 0, none⟩), .string n] w fun e w' =>
    e = .returned (ownV (ownL rc n) (keyRow n.data.toList)) ∧ Below w.heap.size w w' := by
  obtain ⟨ov, rv, hB, ho, hr, hgS, _, _, _⟩ := id hN
  have hro := hr.rd
  obtain ⟨A, cap, rfl⟩ := hr.form
  rcases hk : keyRow n.data.toList with _ | r
  · have HR := Lib.hid hk
    clear hk hN
    go_enter Tryz.func71, Tryz.ntmps71
    go_wp2_with fail
    refine (of_none n _ HR.out V.T).mono ?_
    rintro e w1 ⟨rfl, hb1⟩
    unfold zeroK
    go_wp2_with fail
    go_ret2
    exact ⟨rfl, below_step hb1 ((Below.refl _ _).alloc (Nat.le_refl _) _)⟩
  · have HR := Lib.hid hk
    obtain ⟨D, hD⟩ : ∃ D, ba (dfl r) = D := ⟨_, rfl⟩
    obtain ⟨Q, hQ⟩ : ∃ Q, findB rc n = Q := ⟨_, rfl⟩
    have HD := Lib.hid hD
    have HQ := Lib.hid hQ
    have hval : ownV (ownL rc n) (some r) = .tuple #[.string (Q.getD D), .nilIface] := by
      unfold ownV ownL
      rw [hQ]
      rcases Q with _ | v
      · simp only [Option.getD_none]
        unfold dflOf
        rw [hk]
        simp only
        rw [hD]
      · simp only [Option.getD_some]
        rw [ba_of]
    rw [hval]
    clear hk hD hQ hval hN
    go_enter Tryz.func71, Tryz.ntmps71
    go_wp2_with fail
    refine (of_some n r _ D _ _ _ HR.out rfl HD.out rfl rfl V.T).mono ?_
    rintro e w1 ⟨rfl, hb1⟩
    have hB1 := hB.below hb1 hB.lt
    have hro1 := hro.on hb1
    have hlt := hB1.lt
    have hba : Below w1.heap.size w1 (w1.alloc (.cells #[.string ⟨r.name.toArray⟩, .int .i64 r.kind, .int .i64 r.low, .int .i64 r.high, .string D, .bool r.noth, .bool r.lonly] 177)) := (Below.refl _ _).alloc (Nat.le_refl _) _
    have hro2 := hro1.on hba
    have hB2 := hB1.below hba hB1.lt
    have cc := hB1.cell 1
    have c0 := hB2.cell 1
    have hb2 := below_step hb1 hba
    have hf := find_any rc _ n _ hro2
    rw [HQ.out] at hf
    clear hB hB1 ho hr hro hro1
    rcases Q with _ | v
    · go_wp2_with fail
      refine hf.mono ?_
      rintro e w3 ⟨rfl, hb3⟩
      unfold findV
      have hBk := (Blk.new w1 177 #[.string ⟨r.name.toArray⟩, .int .i64 r.kind, .int .i64 r.low, .int .i64 r.high, .string D, .bool r.noth, .bool r.lonly]).below hb3 (by simp)
      have k4 := hBk.cell 4
      go_wp2_with fail
      go_ret2
      exact ⟨rfl, below_step hb2 hb3⟩
    · go_wp2_with fail
      refine hf.mono ?_
      rintro e w3 ⟨rfl, hb3⟩
      unfold findV
      go_wp2_with fail
      go_ret2
      exact ⟨rfl, below_step hb2 hb3⟩
set_option maxRecDepth 20000 in
set_option maxHeartbeats 2000000 in
theorem nrec_any (g : Nat) (S : List Nat) (own rc : PairL) (w : World) (hN : NegoH w S g own rc) (hl : rc.length ≤ 100000) : Calls Tryz.prog 37 #[.pointer (some ⟨g, 0, none⟩)] w fun e w' =>
    ∃ u, e = .returned u ∧ PRow w' w.heap.size u rc ∧ Below w.heap.size w w' := by
  obtain ⟨ov, rv, hB, ho, hr, hgS, _, _, _⟩ := id hN
  have hro := hr.rd
  obtain ⟨A, cap, rfl⟩ := hr.form
  have c1 := hB.cell 1
  have hlt := hB.lt
  clear hN hB ho hr
  go_enter Tryz.func37, Tryz.ntmps37
  go_wp2_with fail
  refine (clone_pair rc _ _ hro (by omega)).mono ?_
  rintro e w1 ⟨u, rfl, hu, hb1⟩
  obtain ⟨uA, ucap, rfl, _⟩ := hu.form
  go_wp2_with fail
  go_ret
  exact ⟨_, rfl, hu, hb1⟩
end Go.Proofs.YtamlepacljjpiaaGreatDoor
