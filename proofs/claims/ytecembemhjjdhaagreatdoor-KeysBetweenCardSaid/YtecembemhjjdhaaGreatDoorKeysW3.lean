/- The walk of the law KeysBetween. -/
import Derived.Test.YtecembemhjjdhaaGreatDoorKeysNumK
import Derived.IntWalk
import Derived.Lib.MinMax
namespace Go.Proofs.YtecembemhjjdhaaGreatDoor
open Go.ChangeShapes Go.WideShapes Go.ChangeAt Go.RowKit Go.Shelf
set_option linter.unusedVariables false
set_option linter.unusedSimpArgs false
def betw7 : List (List UInt8) := [[77, 97, 120, 67, 111, 110, 110, 101, 99, 116, 105, 111, 110, 115], [69, 114, 114, 111, 114, 82, 101, 99, 111, 118, 101, 114, 121, 76, 101, 118, 101, 108], [77, 97, 120, 66, 117, 114, 115, 116, 76, 101, 110, 103, 116, 104], [70, 105, 114, 115, 116, 66, 117, 114, 115, 116, 76, 101, 110, 103, 116, 104], [68, 101, 102, 97, 117, 108, 116, 84, 105, 109, 101, 50, 87, 97, 105, 116], [68, 101, 102, 97, 117, 108, 116, 84, 105, 109, 101, 50, 82, 101, 116, 97, 105, 110], [77, 97, 120, 79, 117, 116, 115, 116, 97, 110, 100, 105, 110, 103, 82, 50, 84]]
def waitL : List UInt8 := [68, 101, 102, 97, 117, 108, 116, 84, 105, 109, 101, 50, 87, 97, 105, 116]
theorem betw_rows : ∀ k : Fin 7, (keyRow (betw7.getD k.val [])).map (fun r => r.kind) = some (if k.val = 4 then 4 else 3) := by decide +kernel
theorem betw_wait : ∀ k : Fin 7, (betw7.getD k.val [] == waitL) = decide (k.val = 4) := by decide +kernel
theorem betw_row (k : Nat) (hk : k < 7) : ∃ r, keyRow (betw7.getD k []) = some r ∧ r.kind = if k = 4 then 4 else 3 := by
  have h := betw_rows ⟨k, hk⟩
  simp only at h
  rcases hr : keyRow (betw7.getD k []) with _ | r
  · rw [hr] at h; cases h
  · rw [hr] at h
    exact ⟨r, rfl, Option.some.inj h⟩
theorem betw_plain {name : List UInt8} {r : KeyR} (hk : keyRow name = some r) (a b : Nat) (ha1 : r.low ≤ a) (ha2 : a ≤ r.high) (hb1 : r.low ≤ b) (hb2 : b ≤ r.high) :
    (r.kind = 3 → resE name (dgs a) (dgs b) = .inr (dgs (min a b))) ∧ (r.kind = 4 → resE name (dgs a) (dgs b) = .inr (dgs (max a b))) := by
  have hl := keyT_len r (keyRow_mem hk)
  have fa : numeralE (dgs a) r.low r.high = 0 := numeralE_dgs (by omega) (by omega) (by omega)
  have fb : numeralE (dgs b) r.low r.high = 0 := numeralE_dgs (by omega) (by omega) (by omega)
  refine ⟨fun h => ?_, fun h => ?_⟩
  · rw [resE_of hk (by unfold fitsR; rw [if_neg (by omega), if_pos (by omega)]; exact fa) (by unfold fitsR; rw [if_neg (by omega), if_pos (by omega)]; exact fb)]
    unfold resR
    rw [if_neg (by omega), if_neg (by omega), if_pos h, numP_dgs a (by omega), numP_dgs b (by omega)]
    rfl
  · rw [resE_of hk (by unfold fitsR; rw [if_neg (by omega), if_pos (by omega)]; exact fa) (by unfold fitsR; rw [if_neg (by omega), if_pos (by omega)]; exact fb)]
    unfold resR
    rw [if_neg (by omega), if_neg (by omega), if_neg (by omega), if_pos h, numP_dgs a (by omega), numP_dgs b (by omega)]
    rfl
theorem pickZ (a n : Int) (k : Nat) (hk : pickI a n = k) (hn : 1 ≤ n) (hn2 : n < 9223372036854775808) (w : World) : Calls Tryz.prog 27 #[.int .i64 a, .int .i64 n] w fun e w' => e = .returned (.int .i64 k) ∧ w = w' := by
  rw [← hk]
  exact pick_any a n w hn hn2
theorem dgs_size (n : Nat) : (⟨(dgs n).toArray⟩ : ByteArray).size ≤ 21 := by
  rw [size_mkl]
  exact dgF_len 20 n
set_option maxRecDepth 20000 in
set_option maxHeartbeats 4000000 in
theorem betweenKeys (x a b : Int) (w : World) (hx : -9223372036854775808 ≤ x ∧ x ≤ 9223372036854775807) (ha : -9223372036854775808 ≤ a ∧ a ≤ 9223372036854775807) (hb : -9223372036854775808 ≤ b ∧ b ≤ 9223372036854775807) (V : Env w) :
    Calls Tryz.prog 6 #[.int .i64 x, .int .i64 a, .int .i64 b] w fun e w' => e = .returned (.bool true) ∧ Below w.heap.size w w' := by
  obtain ⟨k, hk, hk7⟩ := pickE x 7 (by omega)
  obtain ⟨r, hr, hkind⟩ := betw_row k hk7
  have hlen := keyT_len r (keyRow_mem hr)
  obtain ⟨LO, hLO⟩ : ∃ n : Nat, r.low = n := ⟨_, rfl⟩
  obtain ⟨HI, hHI⟩ : ∃ n : Nat, r.high = n := ⟨_, rfl⟩
  have hlohi : LO ≤ HI ∧ HI ≤ 16777215 := by omega
  obtain ⟨K, hK⟩ : ∃ K : Int, (r.kind : Int) = K := ⟨_, rfl⟩
  obtain ⟨pa, hpa, hpa2⟩ : ∃ p : Nat, pickI a ((HI : Int) - LO + 1) = p ∧ LO + p ≤ HI := by
    have h := pick_rng a ((HI : Int) - LO + 1) (by omega)
    exact ⟨(pickI a ((HI : Int) - LO + 1)).toNat, by omega, by omega⟩
  obtain ⟨pb, hpb, hpb2⟩ : ∃ p : Nat, pickI b ((HI : Int) - LO + 1) = p ∧ LO + p ≤ HI := by
    have h := pick_rng b ((HI : Int) - LO + 1) (by omega)
    exact ⟨(pickI b ((HI : Int) - LO + 1)).toNat, by omega, by omega⟩
  obtain ⟨a1, ha1⟩ : ∃ n : Nat, LO + pa = n := ⟨_, rfl⟩
  obtain ⟨b1, hb1'⟩ : ∃ n : Nat, LO + pb = n := ⟨_, rfl⟩
  have ea : (LO : Int) + pa = (a1 : Int) := by omega
  have eb : (LO : Int) + pb = (b1 : Int) := by omega
  obtain ⟨pl3, pl4⟩ := betw_plain hr a1 b1 (by omega) (by omega) (by omega) (by omega)
  have ha1b : (a1 : Int) ≤ 16777215 := by omega
  have hb1b : (b1 : Int) ≤ 16777215 := by omega
  have hkI : (k : Int) < 7 := by omega
  have hkJ : (0 : Int) ≤ k := by omega
  have hpaI : (LO : Int) + pa ≤ HI := by omega
  have hpbI : (LO : Int) + pb ≤ HI := by omega
  have hhiI : (HI : Int) ≤ 16777215 := by omega
  have hloI : (LO : Int) ≤ HI := by omega
  have HK := Lib.hid hk
  have HR := Lib.hid hr
  have HKIND := Lib.hid hkind
  have HKK := Lib.hid hK
  have HLO := Lib.hid hLO
  have HHI := Lib.hid hHI
  have HPA := Lib.hid hpa
  have HPB := Lib.hid hpb
  have EA := Lib.hid ea
  have EB := Lib.hid eb
  have PL3 := Lib.hid pl3
  have PL4 := Lib.hid pl4
  obtain ⟨N, hN⟩ : ∃ N : ByteArray, (⟨(betw7.getD k []).toArray⟩ : ByteArray) = N := ⟨_, rfl⟩
  have hNl : N.data.toList = betw7.getD k [] := by rw [← hN]
  have hwait : (N.toList == [68, 101, 102, 97, 117, 108, 116, 84, 105, 109, 101, 50, 87, 97, 105, 116]) = decide (k = 4) := by
    rw [toList_of, hNl]
    exact betw_wait ⟨k, hk7⟩
  have HN := Lib.hid hN
  have HNL := Lib.hid hNl
  have HWAIT := Lib.hid hwait
  clear hk hr hkind hlen hLO hHI hlohi hK hpa hpb hpa2 hpb2 ha1 hb1' ea eb pl3 pl4 hN hNl hwait
  go_enter Tryz.func6, Tryz.ntmps6
  go_wp2_with fail
  refine (keyed_fact _ V).mono ?_
  rintro e w1 ⟨rfl, hb1⟩
  have hB : Blk (w1.alloc (.cells (betw7.map strV).toArray 9)) w1.heap.size 9 (betw7.map strV).toArray := Blk.new w1 _ _
  have hb2 : Below w1.heap.size w1 (w1.alloc (.cells (betw7.map strV).toArray 9)) := (Below.refl _ _).alloc (Nat.le_refl _) _
  have hbw2 := below_step hb1 hb2
  obtain ⟨w2, hw2⟩ : ∃ w2 : World, w1.alloc (.cells (betw7.map strV).toArray 9) = w2 := ⟨_, rfl⟩
  obtain ⟨g, hg⟩ : ∃ g, w1.heap.size = g := ⟨_, rfl⟩
  rw [hw2] at hB hbw2
  rw [hg] at hB
  have hc : w2.cell? ⟨g, k, none⟩ = some (.string N) := by
    rw [hB.cell k, ← HN.out]
    match k, hk7 with
    | 0, _ => rfl
    | 1, _ => rfl
    | 2, _ => rfl
    | 3, _ => rfl
    | 4, _ => rfl
    | 5, _ => rfl
    | 6, _ => rfl
    | k + 7, h => omega
  go_wp2_with fail
  try rw [hg]
  rw [show w1.alloc (.cells #[.string ⟨#[77, 97, 120, 67, 111, 110, 110, 101, 99, 116, 105, 111, 110, 115]⟩, .string ⟨#[69, 114, 114, 111, 114, 82, 101, 99, 111, 118, 101, 114, 121, 76, 101, 118, 101, 108]⟩, .string ⟨#[77, 97, 120, 66, 117, 114, 115, 116, 76, 101, 110, 103, 116, 104]⟩, .string ⟨#[70, 105, 114, 115, 116, 66, 117, 114, 115, 116, 76, 101, 110, 103, 116, 104]⟩, .string ⟨#[68, 101, 102, 97, 117, 108, 116, 84, 105, 109, 101, 50, 87, 97, 105, 116]⟩, .string ⟨#[68, 101, 102, 97, 117, 108, 116, 84, 105, 109, 101, 50, 82, 101, 116, 97, 105, 110]⟩, .string ⟨#[77, 97, 120, 79, 117, 116, 115, 116, 97, 110, 100, 105, 110, 103, 82, 50, 84]⟩] 9) = w2 from hw2]
  refine (pickK x 7 k HK.out (by omega) (by omega) _).mono ?_
  rintro e w' ⟨rfl, rfl⟩
  clear hw2 hg hb2
  go_wp2_with fail
  refine (of_kind N r K _ (by rw [HNL.out]; exact HR.out) HKK.out (V.on hbw2).T).mono ?_
  rintro e w3 ⟨rfl, hb3⟩
  have hbw3 := below_step hbw2 hb3
  rw [HLO.out, HHI.out]
  go_wp2_with fail
  obtain ⟨w4, hw4⟩ : ∃ w4 : World, w3.alloc (.cells #[.string ⟨r.name.toArray⟩, .int .i64 K, .int .i64 LO, .int .i64 HI, .string ⟨(dfl r).toArray⟩, .bool r.noth, .bool r.lonly] 24) = w4 := ⟨_, rfl⟩
  obtain ⟨g4, hg4⟩ : ∃ g, w3.heap.size = g := ⟨_, rfl⟩
  have hB4 : Blk w4 g4 24 #[.string ⟨r.name.toArray⟩, .int .i64 K, .int .i64 LO, .int .i64 HI, .string ⟨(dfl r).toArray⟩, .bool r.noth, .bool r.lonly] := by rw [← hw4, ← hg4]; exact Blk.new w3 _ _
  have hbw4 : Below w.heap.size w w4 := by rw [← hw4]; exact below_step hbw3 ((Below.refl _ _).alloc (Nat.le_refl _) _)
  rw [hw4]
  try rw [hg4]
  clear hw4 hg4 hc hB hb1 hb3 hbw2 hbw3
  have k2 := hB4.cell 2
  have k3 := hB4.cell 3
  have q1 : IntKind.i64.wrap ((HI : Int) - LO) = (HI : Int) - LO := IntWalk.i64_in _ (by omega)
  have q2 : IntKind.i64.wrap ((HI : Int) - LO + 1) = (HI : Int) - LO + 1 := IntWalk.i64_in _ (by omega)
  have q3 : IntKind.i64.wrap ((LO : Int) + pa) = (LO : Int) + pa := IntWalk.i64_in _ (by omega)
  have q4 : IntKind.i64.wrap ((LO : Int) + pb) = (LO : Int) + pb := IntWalk.i64_in _ (by omega)
  have z1 : (1 : Int) ≤ (HI : Int) - LO + 1 := by omega
  have z2 : (HI : Int) - LO + 1 < 9223372036854775808 := by omega
  go_quiet ((first | (go_at_call 27; exact quiet_same (pickZ a _ pa HPA.out z1 z2 _)) | (go_at_call 27; exact quiet_same (pickZ b _ pb HPB.out z1 z2 _))))
  rw [EA.out, EB.out]
  clear q1 q2 q3 q4 z1 z2 k2 k3
  have hbw5 := below_dK hbw4 nq
  go_wp2_with fail
  refine (numberK a1 (by omega) _).mono ?_
  rintro e w6 ⟨rfl, hb6⟩
  have hbw6 := below_step hbw5 hb6
  go_wp2_with fail
  refine (numberK b1 (by omega) _).mono ?_
  rintro e w7 ⟨rfl, hb7⟩
  have hbw7 := below_step hbw6 hb7
  have hsa := dgs_size a1
  have hsb := dgs_size b1
  clear hb6 hb7 hbw4 hbw5 hbw6 hB4
  by_cases hk4 : k = 4
  · have hK4 : r.kind = 4 := by rw [HKIND.out, if_pos hk4]
    have hw : (N.toList == [68, 101, 102, 97, 117, 108, 116, 84, 105, 109, 101, 50, 87, 97, 105, 116]) = true := by rw [HWAIT.out]; simpa using hk4
    have hres := PL4.out hK4
    have hmx : max (a1 : Int) (b1 : Int) = ((max a1 b1 : Nat) : Int) := by omega
    have hmlt : max a1 b1 < 1099511627776 := by omega
    obtain ⟨M, hM⟩ : ∃ M, max a1 b1 = M := ⟨_, rfl⟩
    rw [hM] at hres hmx hmlt
    obtain ⟨X, hX⟩ : ∃ X : ByteArray, (⟨(dgs M).toArray⟩ : ByteArray) = X := ⟨_, rfl⟩
    have hres' : resE N.data.toList (⟨(dgs a1).toArray⟩ : ByteArray).data.toList (⟨(dgs b1).toArray⟩ : ByteArray).data.toList = .inr X.data.toList := by rw [HNL.out, ← hX]; exact hres
    have HRES := Lib.hid hres'
    have HX := Lib.hid hX
    have HMX := Lib.hid hmx
    clear hres hres' hX hmx hk4 hK4 hM
    go_wp2_with fail
    refine (result_inr N _ _ X _ HRES.out (by omega) (by omega) (V.on hbw7)).mono ?_
    rintro e w8 ⟨rfl, hb8⟩
    have hbw8 := below_step hbw7 hb8
    go_wp2_with fail
    rw [HMX.out]
    refine (numberK M hmlt _).mono ?_
    rintro e w9 ⟨rfl, hb9⟩
    rw [HX.out]
    go_wp2_with fail
    go_ret
    exact ⟨by simp, below_step hbw8 hb9⟩
  · have hK3 : r.kind = 3 := by rw [HKIND.out, if_neg hk4]
    have hw : (N.toList == [68, 101, 102, 97, 117, 108, 116, 84, 105, 109, 101, 50, 87, 97, 105, 116]) = false := by rw [HWAIT.out]; simpa using hk4
    have hres := PL3.out hK3
    have hmx : min (a1 : Int) (b1 : Int) = ((min a1 b1 : Nat) : Int) := by omega
    have hmlt : min a1 b1 < 1099511627776 := by omega
    obtain ⟨M, hM⟩ : ∃ M, min a1 b1 = M := ⟨_, rfl⟩
    rw [hM] at hres hmx hmlt
    obtain ⟨X, hX⟩ : ∃ X : ByteArray, (⟨(dgs M).toArray⟩ : ByteArray) = X := ⟨_, rfl⟩
    have hres' : resE N.data.toList (⟨(dgs a1).toArray⟩ : ByteArray).data.toList (⟨(dgs b1).toArray⟩ : ByteArray).data.toList = .inr X.data.toList := by rw [HNL.out, ← hX]; exact hres
    have HRES := Lib.hid hres'
    have HX := Lib.hid hX
    have HMX := Lib.hid hmx
    clear hres hres' hX hmx hk4 hK3 hM
    go_wp2_with fail
    refine (result_inr N _ _ X _ HRES.out (by omega) (by omega) (V.on hbw7)).mono ?_
    rintro e w8 ⟨rfl, hb8⟩
    have hbw8 := below_step hbw7 hb8
    go_wp2_with fail
    rw [HMX.out]
    refine (numberK M hmlt _).mono ?_
    rintro e w9 ⟨rfl, hb9⟩
    rw [HX.out]
    go_wp2_with fail
    go_ret
    exact ⟨by simp, below_step hbw8 hb9⟩
end Go.Proofs.YtecembemhjjdhaaGreatDoor
