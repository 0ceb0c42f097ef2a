/- The walk of the law KeysFirst. -/
import Derived.Test.YtecembemhjjdhaaGreatDoorKeysW1
import Derived.Test.YtecembemhjjdhaaGreatDoorStrSl
namespace Go.Proofs.YtecembemhjjdhaaGreatDoor
open Go.ChangeShapes Go.WideShapes Go.ChangeAt Go.RowKit Go.Shelf
set_option linter.unusedVariables false
set_option linter.unusedSimpArgs false
def ddigL : List UInt8 := [68, 97, 116, 97, 68, 105, 103, 101, 115, 116]
theorem ddig_row : (keyRow ddigL).map (fun r => r.kind) = some 5 := by decide +kernel
theorem first_plain (a b : List UInt8) : (listP a = none → resE ddigL a b = .inl 3) ∧ (∀ la, listP a = some la → listP b = none → resE ddigL a b = .inl 3) ∧
    (∀ la lb, listP a = some la → listP b = some lb → resE ddigL a b = match firstBoth la lb with | some x => .inr x | none => .inl 8) := by
  obtain ⟨r, hr, hk⟩ : ∃ r, keyRow ddigL = some r ∧ r.kind = 5 := by
    rcases h : keyRow ddigL with _ | r
    · have := ddig_row; rw [h] at this; cases this
    · have := ddig_row
      rw [h] at this
      exact ⟨r, rfl, Option.some.inj this⟩
  have hf : ∀ v, fitsR r v = if (listP v).isSome = true then 0 else 3 := fun v => by unfold fitsR; rw [if_neg (by omega), if_neg (by omega), if_pos hk]
  have hs : ∀ v lv, listP v = some lv → splitC 44 v = lv := fun v lv h => by
    unfold listP at h
    split at h
    · exact Option.some.inj h
    · cases h
  refine ⟨fun h => ?_, fun la h1 h2 => ?_, fun la lb h1 h2 => ?_⟩
  · unfold resE
    rw [hr]
    simp only
    rw [if_pos (by rw [hf, h]; decide), hf, h]
    rfl
  · unfold resE
    rw [hr]
    simp only
    rw [if_neg (by rw [hf, h1]; simp), if_pos (by rw [hf, h2]; decide), hf, h2]
    rfl
  · rw [resE_of hr (by rw [hf, h1]; rfl) (by rw [hf, h2]; rfl)]
    unfold resR
    rw [if_neg (by omega), if_neg (by omega), if_neg (by omega), if_neg (by omega), if_pos hk, hs a la h1, hs b lb h2]
    rcases firstBoth la lb with _ | x <;> rfl
theorem list_no (s : ByteArray) (h : listP s.data.toList = none) (w : World) (hs : s.size ≤ 1000000) (hS : w.ShapedOpen Tryz.prog) : Calls Tryz.prog 30 #[.string s] w fun e w' =>
    e = .returned (.tuple #[.slice none 0 0, .iface 31 (.int .i64 3)]) ∧ Below w.heap.size w w' := by
  refine (list_any s w hs hS).mono ?_
  rintro e w' ⟨hl, hb⟩
  unfold ListIs at hl
  rw [h] at hl
  exact ⟨hl, hb⟩
theorem list_words (s : ByteArray) (ws : List (List UInt8)) (h : listP s.data.toList = some ws) (w : World) (hs : s.size ≤ 1000000) (hS : w.ShapedOpen Tryz.prog) : Calls Tryz.prog 30 #[.string s] w fun e w' =>
    ∃ g, e = .returned (.tuple #[.slice (some ⟨g, 0, none⟩) ws.length ws.length, .nilIface]) ∧ WRd w' (.slice (some ⟨g, 0, none⟩) ws.length ws.length) ws ∧ Blk w' g 9 (ws.map strV).toArray ∧ ws.length ≤ s.size + 1 ∧ Below w.heap.size w w' := by
  refine (list_ok s ws h w hs hS).mono ?_
  rintro e w' ⟨rfl, hB, hb⟩
  have hl : splitC 44 s.data.toList = ws := by
    unfold listP at h
    split at h
    · exact Option.some.inj h
    · cases h
  have hn := splitC_len 44 s.data.toList
  rw [hl, len_of] at hn
  exact ⟨_, rfl, WRd.of_blk hB (by omega), hB, hn, hb⟩
set_option maxRecDepth 20000 in
set_option maxHeartbeats 4000000 in
theorem firstKeys (a b : ByteArray) (w : World) (ha : a.size ≤ 140737488351232) (hb : b.size ≤ 140737488351232) (V : Env w) :
    Calls Tryz.prog 8 #[.string a, .string b] w fun e w' => e = .returned (.bool true) ∧ Below w.heap.size w w' := by
  obtain ⟨p1, p2, p3⟩ := first_plain a.data.toList b.data.toList
  have P1 := Lib.hid p1
  have P2 := Lib.hid p2
  have P3 := Lib.hid p3
  clear p1 p2 p3
  go_enter Tryz.func8, Tryz.ntmps8
  go_wp2_with fail
  refine (keyed_fact _ V).mono ?_
  rintro e w1 ⟨rfl, hb1⟩
  have V1 := V.on hb1
  by_cases hbig : 300 < a.size + b.size
  · go_wp2_with fail
    go_ret
    exact ⟨rfl, hb1⟩
  have hna : (a.size : Int) + b.size ≤ 300 := by omega
  have ha2 : a.size ≤ 300 := by omega
  have hb2 : b.size ≤ 300 := by omega
  rcases hla : listP a.data.toList with _ | la
  · have HLA := Lib.hid hla
    clear hla
    go_wp2_with fail
    refine (list_no a HLA.out _ (by omega) V1.S).mono ?_
    rintro e w2 ⟨rfl, hb3⟩
    have hbw2 := below_step hb1 hb3
    go_wp2_with fail
    refine (list_to b _ (by omega) (V.on hbw2).S).mono ?_
    rintro e w3 ⟨v, rfl, hb4⟩
    have hbw3 := below_step hbw2 hb4
    obtain ⟨er, her⟩ : ∃ er, errv (if (listP b.data.toList).isSome = true then 0 else 3) = er := ⟨_, rfl⟩
    rw [her]
    clear her
    go_wp2_with fail
    refine (result_inl _ a b 3 _ (P1.out HLA.out) (by omega) (by omega) (V.on hbw3)).mono ?_
    rintro e w4 ⟨rfl, hb5⟩
    have hbw4 := below_step hbw3 hb5
    go_wp2_with fail
    refine (tell_errno 3 _ (V.on hbw4).L).mono ?_
    rintro e w5 ⟨rfl, hb6⟩
    go_wp2_with fail
    go_ret
    exact ⟨rfl, below_step hbw4 hb6⟩
  have HLA := Lib.hid hla
  clear hla
  go_wp2_with fail
  refine (list_words a la HLA.out _ (by omega) V1.S).mono ?_
  rintro e w2 ⟨g1, rfl, hA2, _, hAn, hb3⟩
  have hbw2 := below_step hb1 hb3
  rcases hlb : listP b.data.toList with _ | lb
  · have HLB := Lib.hid hlb
    clear hlb
    go_wp2_with fail
    refine (list_no b HLB.out _ (by omega) (V.on hbw2).S).mono ?_
    rintro e w3 ⟨rfl, hb4⟩
    have hbw3 := below_step hbw2 hb4
    go_wp2_with fail
    refine (result_inl _ a b 3 _ (P2.out la HLA.out HLB.out) (by omega) (by omega) (V.on hbw3)).mono ?_
    rintro e w4 ⟨rfl, hb5⟩
    have hbw4 := below_step hbw3 hb5
    go_wp2_with fail
    refine (tell_errno 3 _ (V.on hbw4).L).mono ?_
    rintro e w5 ⟨rfl, hb6⟩
    go_wp2_with fail
    go_ret
    exact ⟨rfl, below_step hbw4 hb6⟩
  have HLB := Lib.hid hlb
  clear hlb
  go_wp2_with fail
  refine (list_words b lb HLB.out _ (by omega) (V.on hbw2).S).mono ?_
  rintro e w3 ⟨g2, rfl, hB3, _, hBn, hb4⟩
  have hbw3 := below_step hbw2 hb4
  have hA3 := hA2.on hb4
  have hres := P3.out la lb HLA.out HLB.out
  have laI : (la.length : Int) ≤ 301 := by omega
  have lbI : (lb.length : Int) ≤ 301 := by omega
  obtain ⟨Q, hQ⟩ : ∃ Q, firstBoth la lb = Q := ⟨_, rfl⟩
  rw [hQ] at hres
  have HQ := Lib.hid hQ
  clear hA2 hb1 hb3 hb4 hbw2 hQ V1 hAn hBn
  rcases Q with _ | x
  · have HRES := Lib.hid hres
    clear hres
    go_wp2_with fail
    refine (result_inl _ a b 8 _ HRES.out (by omega) (by omega) (V.on hbw3)).mono ?_
    rintro e w4 ⟨rfl, hb5⟩
    have hbw4 := below_step hbw3 hb5
    have HA := Lib.hid (hA3.on hb5)
    have HB := Lib.hid (hB3.on hb5)
    clear hA3 hB3 hb5 hbw3
    go_wp2_with fail
    go_loop [48] (fun i => ∃ k : Nat, k ≤ la.length ∧ i = .int .i64 k ∧ Hid (firstBoth (la.drop k) lb = none)) (fun i => la.length - (intOf i).toNat)
    case atStart => exact ⟨0, Nat.zero_le _, rfl, Lib.hid HQ.out⟩
    case round =>
      obtain ⟨k, hk, rfl, hq⟩ := hrel
      by_cases hlt : k < la.length
      · obtain ⟨y, hy⟩ : ∃ x, la[k]? = some x := ⟨_, List.getElem?_eq_getElem hlt⟩
        obtain ⟨bb, oo, hAe, hbb, hc⟩ := HA.out.at hy
        obtain ⟨rfl, rfl⟩ : bb = g1 ∧ oo = 0 := by injection hAe with hAe; injection hAe with h1 h2; exact ⟨h1.symm, h2.symm⟩
        rw [Nat.zero_add] at hc
        obtain ⟨Y, hY⟩ : ∃ Y : ByteArray, (⟨y.toArray⟩ : ByteArray) = Y := ⟨_, rfl⟩
        have hYl : Y.data.toList = y := by rw [← hY]
        rw [hY] at hc
        have hdr : la.drop k = y :: la.drop (k + 1) := by rw [List.drop_eq_getElem_cons hlt, (List.getElem?_eq_some_iff.1 hy).2]
        have hq0 := hq.out
        rw [hdr] at hq0
        have hno : y ∉ lb := fun h => by rw [firstBoth, if_pos h] at hq0; cases hq0
        rw [firstBoth_skip hno] at hq0
        have hdec : decide (Y.data.toList ∈ lb) = false := by rw [hYl]; simpa using hno
        have HQ0 := Lib.hid hq0
        have HDEC := Lib.hid hdec
        clear hq hq0 hdr hY hYl hy hno hdec hAe
        go_wp2_with fail
        refine (contains_any Y _ lb _ HB.out).mono ?_
        rintro e w' ⟨rfl, rfl⟩
        rw [HDEC.out]
        go_wp2_with fail
        go_round
        case rel => exact ⟨k + 1, by omega, by go_num, HQ0⟩
        case measure => simp [intOf]; omega
      · go_wp2_with fail
        refine (tell_errno 8 _ (V.on hbw4).L).mono ?_
        rintro e w5 ⟨rfl, hb6⟩
        go_wp2_with fail
        go_ret
        exact ⟨rfl, below_step hbw4 hb6⟩
  · obtain ⟨X, hX⟩ : ∃ X : ByteArray, (⟨x.toArray⟩ : ByteArray) = X := ⟨_, rfl⟩
    have hXl : X.data.toList = x := by rw [← hX]
    have hres' : resE ddigL a.data.toList b.data.toList = .inr X.data.toList := by rw [hres, hXl]
    have HRES := Lib.hid hres'
    have HXL := Lib.hid hXl
    clear hres hres' hX hXl
    go_wp2_with fail
    refine (result_inr _ a b X _ HRES.out (by omega) (by omega) (V.on hbw3)).mono ?_
    rintro e w4 ⟨rfl, hb5⟩
    have hbw4 := below_step hbw3 hb5
    have HA := Lib.hid (hA3.on hb5)
    have HB := Lib.hid (hB3.on hb5)
    clear hA3 hB3 hb5 hbw3
    go_wp2_with fail
    go_loop [48] (fun i => ∃ k : Nat, k ≤ la.length ∧ i = .int .i64 k ∧ Hid (firstBoth (la.drop k) lb = some x)) (fun i => la.length - (intOf i).toNat)
    case atStart => exact ⟨0, Nat.zero_le _, rfl, Lib.hid HQ.out⟩
    case round =>
      obtain ⟨k, hk, rfl, hq⟩ := hrel
      by_cases hlt : k < la.length
      · obtain ⟨y, hy⟩ : ∃ x, la[k]? = some x := ⟨_, List.getElem?_eq_getElem hlt⟩
        obtain ⟨bb, oo, hAe, hbb, hc⟩ := HA.out.at hy
        obtain ⟨rfl, rfl⟩ : bb = g1 ∧ oo = 0 := by injection hAe with hAe; injection hAe with h1 h2; exact ⟨h1.symm, h2.symm⟩
        rw [Nat.zero_add] at hc
        obtain ⟨Y, hY⟩ : ∃ Y : ByteArray, (⟨y.toArray⟩ : ByteArray) = Y := ⟨_, rfl⟩
        have hYl : Y.data.toList = y := by rw [← hY]
        rw [hY] at hc
        have hdr : la.drop k = y :: la.drop (k + 1) := by rw [List.drop_eq_getElem_cons hlt, (List.getElem?_eq_some_iff.1 hy).2]
        have hq0 := hq.out
        rw [hdr] at hq0
        by_cases hin : y ∈ lb
        · rw [firstBoth, if_pos hin] at hq0
          have hXY : X = Y := by rw [str_of X, str_of Y, HXL.out, hYl, Option.some.inj hq0]
          subst hXY
          have hdec : decide (X.data.toList ∈ lb) = true := by rw [hYl]; simpa using hin
          have HDEC := Lib.hid hdec
          clear hq hq0 hdr hY hYl hy hin hdec hAe
          go_wp2_with fail
          refine (contains_any X _ lb _ HB.out).mono ?_
          rintro e w' ⟨rfl, rfl⟩
          rw [HDEC.out]
          go_wp2_with fail
          go_ret
          exact ⟨by simp, hbw4⟩
        · rw [firstBoth_skip hin] at hq0
          have hdec : decide (Y.data.toList ∈ lb) = false := by rw [hYl]; simpa using hin
          have HQ0 := Lib.hid hq0
          have HDEC := Lib.hid hdec
          clear hq hq0 hdr hY hYl hy hin hdec hAe
          go_wp2_with fail
          refine (contains_any Y _ lb _ HB.out).mono ?_
          rintro e w' ⟨rfl, rfl⟩
          rw [HDEC.out]
          go_wp2_with fail
          go_round
          case rel => exact ⟨k + 1, by omega, by go_num, HQ0⟩
          case measure => simp [intOf]; omega
      · exfalso
        have hk' : k = la.length := by omega
        have hq0 := hq.out
        rw [hk', List.drop_length] at hq0
        cases hq0
end Go.Proofs.YtecembemhjjdhaaGreatDoor
