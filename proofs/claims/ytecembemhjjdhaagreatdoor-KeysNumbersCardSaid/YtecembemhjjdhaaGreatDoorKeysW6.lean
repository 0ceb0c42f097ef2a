/- The walk of the law KeysNumbers. -/
import Derived.Test.YtecembemhjjdhaaGreatDoorKeysNumK
import Derived.Test.YtecembemhjjdhaaGreatDoorShelfB
import Derived.Lib.Case
namespace Go.Proofs.YtecembemhjjdhaaGreatDoor
open Go.ChangeShapes Go.WideShapes Go.ChangeAt Go.RowKit Go.Shelf
set_option linter.unusedVariables false
set_option linter.unusedSimpArgs false
theorem hxF_fuel : ∀ (f n : Nat), n < 16 ^ (f + 1) → hxF (f + 1) n = hxF f n
  | 0, n, h => by
    have hn : n < 16 := by simpa using h
    conv => lhs; rw [hxF]
    rw [if_pos hn, hxF, Nat.mod_eq_of_lt hn]
  | f + 1, n, h => by
    have hp : n < 16 ^ (f + 1) * 16 := by rw [← Nat.pow_succ]; exact h
    rw [hxF]
    conv => rhs; rw [hxF]
    split
    · rfl
    · rw [hxF_fuel f (n / 16) (by omega)]
def hxL (n : Nat) : List UInt8 := hxF 12 n
theorem hxL_step (m : Nat) (h : m < 1099511627776) : hxL m = (if m / 16 = 0 then [] else hxL (m / 16)) ++ [hxd (m % 16)] := by
  unfold hxL
  rw [show (12 : Nat) = 11 + 1 from rfl, hxF]
  by_cases hm : m < 16
  · rw [if_pos hm, if_pos (by omega), Nat.mod_eq_of_lt hm]
    rfl
  · rw [if_neg hm, if_neg (by omega), hxF_fuel 11 (m / 16) (Nat.lt_trans (show m / 16 < 1099511627776 by omega) (by decide))]
def InvX (k : Nat) (m : Nat) (H : List UInt8) : Prop := (H = [] ∧ m = k) ∨ (H ≠ [] ∧ hxL k = (if m = 0 then [] else hxL m) ++ H)
theorem InvX.step {k m : Nat} {H : List UInt8} (h : InvX k m H) (hm : m < 1099511627776) (hgo : m ≠ 0 ∨ H = []) : InvX k (m / 16) (hxd (m % 16) :: H) := by
  refine .inr ⟨by simp, ?_⟩
  rcases h with ⟨rfl, rfl⟩ | ⟨h1, h2⟩
  · exact hxL_step m hm
  · rcases hgo with h0 | h0
    · rw [h2, if_neg h0, hxL_step m hm, List.append_assoc]
      rfl
    · exact absurd h0 h1
theorem InvX.len {k m : Nat} {H : List UInt8} (h : InvX k m H) (hk : k < 1099511627776) : H.length ≤ 13 := by
  rcases h with ⟨rfl, _⟩ | ⟨_, h2⟩
  · simp
  · have := congrArg List.length h2
    rw [List.length_append] at this
    have := (hxF_num 12 k (Nat.lt_trans hk (by decide)) hk).2.2.2.2
    unfold hxL at *
    omega
theorem InvX.done {k : Nat} {H : List UInt8} (h : InvX k 0 H) (hne : H ≠ []) : H = hxL k := by
  rcases h with ⟨h1, _⟩ | ⟨_, h2⟩
  · exact absurd h1 hne
  · rw [h2, if_pos rfl, List.nil_append]
theorem up_dig : ∀ d : Fin 16, Lib.upperB (hxd d.val) = upB (hxd d.val) := by decide +kernel
theorem hxF_up : ∀ (f n : Nat), Lib.toUpperA (hxF f n) = (hxF f n).map upB
  | 0, n => by
    rw [hxF]
    unfold Lib.toUpperA
    rw [List.map_cons, List.map_cons, up_dig ⟨n % 16, by omega⟩]
    rfl
  | f + 1, n => by
    rw [hxF]
    split
    · rename_i h
      unfold Lib.toUpperA
      rw [List.map_cons, List.map_cons, up_dig ⟨n, h⟩]
      rfl
    · have ih := hxF_up f (n / 16)
      unfold Lib.toUpperA at ih ⊢
      rw [List.map_append, List.map_append, ih, List.map_cons, List.map_cons, up_dig ⟨n % 16, by omega⟩]
      rfl
def hexT : ByteArray := ⟨#[48, 49, 50, 51, 52, 53, 54, 55, 56, 57, 97, 98, 99, 100, 101, 102]⟩
theorem hexT_at : ∀ d : Fin 16, (hexT.extract d.val (d.val + 1)).data.toList = [hxd d.val] := by decide +kernel
theorem numeral_in (s : ByteArray) (n : Nat) (low high : Int) (hn : numP s.data.toList = some n) (h : low ≤ n ∧ (n : Int) ≤ high) (hs : s.size ≤ 1000000) (w : World) (E : Errs w) : Calls Tryz.prog 38 #[.string s, .int .i64 low, .int .i64 high] w fun e w' =>
    e = .returned (.tuple #[.int .i64 n, .nilIface]) ∧ Below w.heap.size w w' := by
  refine (numeral_any s low high hs w E).mono ?_
  rintro e w' ⟨rfl, hb⟩
  unfold numeralV
  rw [hn]
  simp only
  rw [if_neg (by omega)]
  exact ⟨rfl, hb⟩
theorem numeral_out (s : ByteArray) (n : Nat) (low high : Int) (hn : numP s.data.toList = some n) (h : (n : Int) < low ∨ high < n) (hs : s.size ≤ 1000000) (w : World) (E : Errs w) : Calls Tryz.prog 38 #[.string s, .int .i64 low, .int .i64 high] w fun e w' =>
    e = .returned (.tuple #[.int .i64 0, .iface 31 (.int .i64 2)]) ∧ Below w.heap.size w w' := by
  refine (numeral_any s low high hs w E).mono ?_
  rintro e w' ⟨rfl, hb⟩
  unfold numeralV
  rw [hn]
  simp only
  rw [if_pos h]
  exact ⟨rfl, hb⟩
theorem dgs_sizeK (n : Nat) : (⟨(dgs n).toArray⟩ : ByteArray).size ≤ 21 := by
  rw [size_mkl]
  exact dgF_len 20 n
def emptyM : Value → Nat | .string s => if s.size = 0 then 1 else 0 | _ => 0
set_option maxRecDepth 20000 in
set_option maxHeartbeats 4000000 in
theorem numbersKeys (n low high : Int) (w : World) (hn : -9223372036854775808 ≤ n ∧ n ≤ 9223372036854775807) (hl : -9223372036854775808 ≤ low ∧ low ≤ 9223372036854775807) (hh : -9223372036854775808 ≤ high ∧ high ≤ 9223372036854775807) (V : Env w) :
    Calls Tryz.prog 11 #[.int .i64 n, .int .i64 low, .int .i64 high] w fun e w' => e = .returned (.bool true) ∧ Below w.heap.size w w' := by
  obtain ⟨k, hk, hk40⟩ := pickE n 1099511627776 (by omega)
  have HK := Lib.hid hk
  have hkI : (k : Int) ≤ 1099511627775 := by omega
  clear hk
  go_enter Tryz.func11, Tryz.ntmps11
  go_wp2_with fail
  refine (keyed_fact _ V).mono ?_
  rintro e w1 ⟨rfl, hb1⟩
  go_wp2_with fail
  refine (pickK n 1099511627776 k HK.out (by omega) (by omega) _).mono ?_
  rintro e w' ⟨rfl, rfl⟩
  go_wp2_with fail
  go_loop [7, 8] (fun h m => ∃ (H : ByteArray) (q : Nat), h = .string H ∧ m = .int .i64 q ∧ q ≤ k ∧ Hid (InvX k q H.data.toList)) (fun h m => 2 * (intOf m).toNat + emptyM h)
  case atStart => exact ⟨⟨#[]⟩, k, rfl, rfl, Nat.le_refl _, Lib.hid (.inl ⟨rfl, rfl⟩)⟩
  case round =>
    obtain ⟨H, q, rfl, rfl, hq, hI⟩ := hrel
    have hz := hI.out.len hk40
    rw [len_of] at hz
    have hqI : (q : Int) ≤ 1099511627775 := by omega
    by_cases hgo : q ≠ 0 ∨ H.data.toList = []
    · have hI2 := hI.out.step (by omega) hgo
      obtain ⟨D, hD⟩ : ∃ D : ByteArray, hexT.extract (q % 16) (q % 16 + 1) = D := ⟨_, rfl⟩
      have hDl : D.data.toList = [hxd (q % 16)] := by rw [← hD]; exact hexT_at ⟨q % 16, by omega⟩
      have hDz : D.size = 1 := by rw [← len_of, hDl]; rfl
      have hDz2 : D.size ≤ 1 := by omega
      have hI3 : InvX k (q / 16) (D ++ H).data.toList := by rw [cat_of, hDl]; exact hI2
      have HI3 := Lib.hid hI3
      have hq2 : q / 16 ≤ k := by omega
      clear hI2 hI3 hDl hI
      have hne : (D ++ H).size ≠ 0 := by rw [ByteArray.size_append]; omega
      have hqd : ((q / 16 : Nat) : Int) = (q : Int) / 16 := by omega
      have HQD := Lib.hid hqd
      have HNE := Lib.hid hne
      subst hD
      clear hne hqd hDz
      by_cases hq0 : q = 0
      · have hH : H.data.toList = [] := by
          rcases hgo with h | h
          · exact absurd hq0 h
          · exact h
        have hH0 : H = ⟨#[]⟩ := by rw [str_of H, hH]
        subst hH0
        subst hq0
        clear hgo hH
        go_wp2_with fail
        refine ⟨⟨_, 0, rfl, rfl, Nat.zero_le _, HI3⟩, ?_⟩
        decide
      · have hqp : (0 : Int) < q := by omega
        clear hgo
        go_wp2_with fail
        refine ⟨⟨_, q / 16, rfl, by rw [HQD.out], hq2, HI3⟩, ?_⟩
        have h0 : emptyM (.string (hexT.extract (q % 16) (q % 16 + 1) ++ H)) = 0 := by unfold emptyM; simp only; rw [if_neg HNE.out]
        refine Nat.lt_of_le_of_lt (Nat.le_of_eq (congrArg (2 * (intOf (Value.int IntKind.i64 (↑q / 16))).toNat + ·) h0)) ?_
        simp only [intOf]
        omega
    · have hq0 : q = 0 := by omega
      have hH : H.data.toList ≠ [] := fun h => hgo (.inr h)
      subst hq0
      have hHk := hI.out.done hH
      obtain ⟨x1, x2, x3, x4, x5⟩ := hxF_num 12 k (Nat.lt_trans hk40 (by decide)) hk40
      have f1 : ¬ H.toList = [] := by rw [toList_of]; exact hH
      have f2 : H.toList.isEmpty = false := by
        rcases hl : H.toList with _ | ⟨y, l⟩
        · exact absurd hl f1
        · rfl
      have n1 : numP (dgs k) = some k := numP_dgs k hk40
      have n2 : numP ((⟨#[48, 120]⟩ : ByteArray) ++ H).data.toList = some k := by
        rw [cat_of]
        exact numP_hex _ k (by rw [hHk]; exact x1) hH
      obtain ⟨U, hU⟩ : ∃ U : ByteArray, (⟨(Lib.toUpperA H.data.toList).toArray⟩ : ByteArray) = U := ⟨_, rfl⟩
      have hUl : U.data.toList = (hxL k).map upB := by
        rw [← hU, hHk]
        exact hxF_up 12 k
      have hUz : U.size ≤ 13 := by rw [← len_of, hUl, List.length_map]; exact x5
      have n3 : numP ((⟨#[48, 120]⟩ : ByteArray) ++ U).data.toList = some k := by
        rw [cat_of]
        exact numP_hex _ k (by rw [hUl]; exact x2) (by rw [hUl]; simpa [hxL] using x3)
      have hasc : ∀ (j : Nat) (b : UInt8), H.data.toList[j]? = some b → b.toNat < 128 := fun j b hj => by
        rw [hHk] at hj
        exact x4 b (List.mem_of_getElem? hj)
      have hs1 : ((⟨#[48, 120]⟩ : ByteArray) ++ H).size ≤ 20 := by rw [ByteArray.size_append]; have : (⟨#[48, 120]⟩ : ByteArray).size = 2 := rfl; omega
      have hs2 : ((⟨#[48, 120]⟩ : ByteArray) ++ U).size ≤ 20 := by rw [ByteArray.size_append]; have : (⟨#[48, 120]⟩ : ByteArray).size = 2 := rfl; omega
      have hds := dgs_sizeK k
      have N1 := Lib.hid n1
      have N2 := Lib.hid n2
      have N3 := Lib.hid n3
      have HU := Lib.hid hU
      have HASC := Lib.hid hasc
      have V1 := V.on hb1
      clear hgo hH hHk x1 x2 x3 x4 x5 n1 n2 n3 hU hUl hasc hI
      by_cases hin : low ≤ (k : Int) ∧ (k : Int) ≤ high
      · have hin1 := hin.1
        have hin2 := hin.2
        go_wp2_with fail
        refine (numberK k hk40 _).mono ?_
        rintro e w2 ⟨rfl, hb2⟩
        have hbw2 := below_step hb1 hb2
        go_wp2_with fail
        refine (numeral_in _ k low high N1.out hin (by omega) _ (V.on hbw2).E).mono ?_
        rintro e w3 ⟨rfl, hb3⟩
        have hbw3 := below_step hbw2 hb3
        go_wp2_with fail
        refine (numeral_in _ k low high N2.out hin (by omega) _ (V.on hbw3).E).mono ?_
        rintro e w4 ⟨rfl, hb4⟩
        have hbw4 := below_step hbw3 hb4
        go_wp2_with fail
        refine (Tryz.strings_ToUpper_ascii H _ (by omega) HASC.out).mono ?_
        rintro e w5 ⟨rfl, hb5⟩
        have hbw5 := below_step hbw4 hb5
        rw [HU.out]
        go_wp2_with fail
        refine (numeral_in _ k low high N3.out hin (by omega) _ (V.on hbw5).E).mono ?_
        rintro e w6 ⟨rfl, hb6⟩
        have hbw6 := below_step hbw5 hb6
        go_wp2_with fail
        go_ret
        exact ⟨by simp, hbw6⟩
      · have hout : (k : Int) < low ∨ high < (k : Int) := by omega
        go_wp2_with fail
        refine (numberK k hk40 _).mono ?_
        rintro e w2 ⟨rfl, hb2⟩
        have hbw2 := below_step hb1 hb2
        go_wp2_with fail
        refine (numeral_out _ k low high N1.out hout (by omega) _ (V.on hbw2).E).mono ?_
        rintro e w3 ⟨rfl, hb3⟩
        have hbw3 := below_step hbw2 hb3
        go_wp2_with fail
        refine (numeral_out _ k low high N2.out hout (by omega) _ (V.on hbw3).E).mono ?_
        rintro e w4 ⟨rfl, hb4⟩
        have hbw4 := below_step hbw3 hb4
        go_wp2_with fail
        refine (Tryz.strings_ToUpper_ascii H _ (by omega) HASC.out).mono ?_
        rintro e w5 ⟨rfl, hb5⟩
        have hbw5 := below_step hbw4 hb5
        rw [HU.out]
        go_wp2_with fail
        refine (numeral_out _ k low high N3.out hout (by omega) _ (V.on hbw5).E).mono ?_
        rintro e w6 ⟨rfl, hb6⟩
        have hbw6 := below_step hbw5 hb6
        by_cases hlow : (k : Int) < low
        · go_wp2_with fail
          refine (tell_errno 2 _ (V.on hbw6).L).mono ?_
          rintro e w7 ⟨rfl, hb7⟩
          have hbw7 := below_step hbw6 hb7
          go_wp2_with fail
          refine (tell_errno 2 _ (V.on hbw7).L).mono ?_
          rintro e w8 ⟨rfl, hb8⟩
          have hbw8 := below_step hbw7 hb8
          go_wp2_with fail
          refine (tell_errno 2 _ (V.on hbw8).L).mono ?_
          rintro e w9 ⟨rfl, hb9⟩
          have hbw9 := below_step hbw8 hb9
          go_wp2_with fail
          go_ret
          exact ⟨rfl, hbw9⟩
        · have hhi : high < (k : Int) := by omega
          go_wp2_with fail
          refine (tell_errno 2 _ (V.on hbw6).L).mono ?_
          rintro e w7 ⟨rfl, hb7⟩
          have hbw7 := below_step hbw6 hb7
          go_wp2_with fail
          refine (tell_errno 2 _ (V.on hbw7).L).mono ?_
          rintro e w8 ⟨rfl, hb8⟩
          have hbw8 := below_step hbw7 hb8
          go_wp2_with fail
          refine (tell_errno 2 _ (V.on hbw8).L).mono ?_
          rintro e w9 ⟨rfl, hb9⟩
          have hbw9 := below_step hbw8 hb9
          go_wp2_with fail
          go_ret
          exact ⟨rfl, hbw9⟩
end Go.Proofs.YtecembemhjjdhaaGreatDoor
