/- The walk of the law GatherParts. -/
import Derived.Test.YthfibnoekfkamaaDoorPairsW2
import Derived.Test.YthfibnoekfkamaaDoorOpenInts
namespace Go.Proofs.YthfibnoekfkamaaDoor
open Go.ChangeShapes Go.WideShapes Go.ChangeAt Go.RowKit
set_option linter.unusedVariables false
theorem ext_cat (s : ByteArray) (a n : Nat) : s.extract 0 a ++ s.extract a (a + n) = s.extract 0 (a + n) := by
  rw [cat_of, ext_of, ext_of, ext_of]
  simp only [List.drop_zero, Nat.sub_zero, Nat.add_sub_cancel_left]
  rw [List.take_add]
theorem ext_all (s : ByteArray) : s.extract 0 s.size = s := by
  rw [ext_of, List.drop_zero, Nat.sub_zero, ← len_of s, List.take_length]
set_option maxRecDepth 20000 in
set_option maxHeartbeats 8000000 in
theorem partsGather (s : ByteArray) (l : List Int) (v : Value) (w : World) (hs : s.size ≤ 140737488351232) (hv : SRd w v 1 l.length (l.map (Value.int .i64))) (hq : ∀ q ∈ l, -9223372036854775808 ≤ q ∧ q ≤ 9223372036854775807) (hL : LaidE w) (hS : w.ShapedOpen Tryd.prog) :
    Calls Tryd.prog 10 #[.string s, v] w fun e w' => e = .returned (.bool true) ∧ Below w.heap.size w w' := by
  clear hq
  go_enter Tryd.func10, Tryd.ntmps10
  go_wp2_with fail
  refine (gathered_fact _ hL hS).mono ?_
  rintro e w1 ⟨rfl, hb1⟩
  go_wp2_with fail
  refine (paired_fact _ (hL.on hb1) (shaped_on hS hb1)).mono ?_
  rintro e w2 ⟨rfl, hb2'⟩
  have hb2 := below_step hb1 hb2'
  have hv2 := hv.on hb2
  have hL2 := hL.on hb2
  have hS2 := shaped_on hS hb2
  obtain ⟨hlen, A, cap, rfl, hcap, hmax, hcell⟩ := hv2
  have HC := Lib.hid hcell
  unfold maxLen at hmax
  clear hcell hlen hv
  by_cases h3 : 2000 < s.size
  · go_wp2_with fail
    go_ret
    exact ⟨rfl, hb2⟩
  by_cases h60 : 60 < l.length
  · go_wp2_with fail
    go_ret
    exact ⟨rfl, hb2⟩
  go_wp2_with fail
  refine (parse_any s _ hL2 hS2 (by omega)).mono ?_
  rintro e w3 ⟨r, er, rfl, hr, hb3⟩
  have hbw3 := below_step hb2 hb3
  have hL3 := hL.on hbw3
  have hS3 := shaped_on hS hbw3
  have hgl : w2.heap.size ≤ w3.heap.size := hb3.size
  obtain ⟨x, hx⟩ : ∃ x, parseGo (s.size + 1) s.data.toList 0 = x := ⟨_, rfl⟩
  rw [hx] at hr
  have HX := Lib.hid hx
  clear hx
  go_wp2_with fail
  refine (gnew_ok 20000 _ (by omega) (by omega)).mono ?_
  rintro e w4 ⟨rfl, rfl⟩
  have hB4 : GBlk (w3.alloc (.cells #[.string ⟨#[]⟩, .int .i64 20000] 87)) w3.heap.size (s.extract 0 0) 20000 := by
    rw [show s.extract 0 0 = ⟨#[]⟩ from by rw [ext_of]; rfl]; exact Blk.new w3 _ _
  have hb4 : Below w3.heap.size w3 (w3.alloc (.cells #[.string ⟨#[]⟩, .int .i64 20000] 87)) := (Below.refl _ _).alloc (Nat.le_refl _) _
  go_wp2_with fail
  go_loopw [9, 48] (fun c i wr => ∃ k came : Nat, k ≤ l.length ∧ i = .int .i64 k ∧ c = .int .i64 came ∧ came ≤ s.size ∧ GBlk wr w3.heap.size (s.extract 0 came) 20000 ∧ Below w3.heap.size w3 wr) (fun _ i _ => l.length - (intOf i).toNat)
  case atStart => exact ⟨0, 0, Nat.zero_le _, rfl, rfl, by omega, hB4, hb4⟩
  case round =>
    obtain ⟨k, came, hk, rfl, rfl, hcame, hB, hbw⟩ := hrel
    clear hB4 hb4
    have hTz : (s.extract 0 came).size = came := by rw [ByteArray.size_extract]; omega
    obtain ⟨T, hT⟩ : ∃ T, s.extract 0 came = T := ⟨_, rfl⟩
    rw [hT] at hB hTz
    have HT := Lib.hid hT
    have HTZ := Lib.hid hTz
    have hTb : T.size ≤ 2000 := by omega
    clear hT hTz
    by_cases hlt : k < l.length
    · obtain ⟨c, hc⟩ : ∃ c, l[k]? = some c := ⟨_, List.getElem?_eq_getElem hlt⟩
      obtain ⟨b, o, rfl, hbl, hcc⟩ := HC.out (by omega)
      have c0 := ((below_step hb3 hbw).cell (p := ⟨b, o + k, none⟩) hbl).trans (hcc k (.int .i64 c) (by rw [List.getElem?_map, hc]; rfl))
      clear hcc hc
      have hpk := pick_rng c ((s.size : Int) - came + 1) (by omega)
      obtain ⟨n, hn0⟩ := Int.eq_ofNat_of_zero_le hpk.1
      rw [hn0] at hpk
      have hn : came + n ≤ s.size := by omega
      have HN := Lib.hid hn0
      clear hn0 hpk
      have hcat : T ++ s.extract came (came + n) = s.extract 0 (came + n) := by rw [← HT.out]; exact ext_cat s came n
      have hxz : (s.extract came (came + n)).size = n := by rw [ByteArray.size_extract]; omega
      have hz2 : (s.extract 0 (came + n)).size = came + n := by rw [ByteArray.size_extract]; omega
      have HCAT := Lib.hid hcat
      have HXZ := Lib.hid hxz
      have HZ2 := Lib.hid hz2
      clear hcat hxz hz2
      go_wp2_with fail
      refine (pick_any _ _ _ (by omega) (by omega)).mono ?_
      rintro e w' ⟨rfl, rfl⟩
      rw [HN.out]
      go_wp2_with fail
      refine (gadd_more w3.heap.size T _ 20000 _ w3 hB (by omega) (by omega) (by rw [HXZ.out]; omega) hbw (Nat.le_refl _)).mono ?_
      rintro e w5 ⟨rfl, hB5, hb5, _⟩
      rw [HCAT.out] at hB5
      obtain ⟨T2, hT2⟩ : ∃ T2, s.extract 0 (came + n) = T2 := ⟨_, rfl⟩
      rw [hT2] at hB5
      have hz3 : T2.size = came + n := by rw [← hT2]; exact HZ2.out
      have f1 : ((T2.size : Int) != (came : Int) + n) = false := by rw [bne_eq_false_iff_eq]; omega
      have HT2 := Lib.hid hT2
      clear hT2 hz3 hB hbw
      go_wp2_with fail
      refine (gsize_any _ _ _ _ hB5).mono ?_
      rintro e w6 ⟨rfl, rfl⟩
      go_wp2_with fail
      go_roundw
      case rel => exact ⟨k + 1, came + n, by omega, by go_num, by go_num, hn, by rw [HT2.out]; exact hB5, hb5⟩
      case measure => simp [intOf]; omega
    · have hcat : T ++ s.extract came s.size = s := by
        rw [← HT.out]
        have h := ext_cat s came (s.size - came)
        rw [show came + (s.size - came) = s.size from by omega] at h
        rw [h, ext_all]
      have hxz : (s.extract came s.size).size = s.size - came := by rw [ByteArray.size_extract]; omega
      have HCAT := Lib.hid hcat
      have HXZ := Lib.hid hxz
      clear hcat hxz
      go_wp2_with fail
      refine (gadd_end w3.heap.size T _ 20000 _ w3 hB (by omega) (by omega) (by rw [HXZ.out]; omega) hbw (Nat.le_refl _) hL3 hS3).mono ?_
      rintro e w5 ⟨r2, er2, rfl, hr2, hB5, hb5, _⟩
      rw [HCAT.out, HX.out] at hr2
      have hr5 := hr.below hb5 (Nat.le_refl _)
      clear hB hbw hr
      go_wp2_with fail
      refine (tell_perr _ _ _ _ (hL3.on hb5) hr5.err).mono ?_
      rintro e w6 ⟨rfl, hb6⟩
      have hr2' := hr2.below hb6 (Nat.le_refl _)
      have hr6 := hr5.below hb6 (Nat.le_refl _)
      have hB6 : GBlk w6 w3.heap.size ⟨#[]⟩ 20000 := Blk.below hB5 hb6 (Blk.lt hB5)
      have hbw6 := below_step hb5 hb6
      go_wp2_with fail
      refine (tell_perr _ _ _ _ (hL3.on hbw6) hr2'.err).mono ?_
      rintro e w7 ⟨rfl, hb7⟩
      have hr2a := (hr2'.below hb7 (Nat.le_refl _)).srd
      have hra := (hr6.below hb7 (Nat.le_refl _)).srd
      have hB7 : GBlk w7 w3.heap.size ⟨#[]⟩ 20000 := Blk.below hB6 hb7 (Blk.lt hB6)
      have hbw7 := below_step hbw6 hb7
      clear hr2 hr2' hr5 hr6 hB5 hB6
      go_wp2_with fail
      refine (pequal_same _ _ _ _ hr2a hra).mono ?_
      rintro e w8 ⟨rfl, kq, rfl⟩
      go_wp2_with fail
      refine (gsize_any _ _ _ _ (Blk.drewN hB7 kq)).mono ?_
      rintro e w9 ⟨rfl, rfl⟩
      go_wp2_with fail
      go_ret
      exact ⟨by simp, below_step hbw3 (below_drewN hbw7 kq)⟩
end Go.Proofs.YthfibnoekfkamaaDoor
