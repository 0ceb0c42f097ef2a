/- The walk of the law GatherFull. -/
import Derived.Test.YtddjpddafpfngaaDoorGather
namespace Go.Proofs.YtddjpddafpfngaaDoor
open Go.ChangeShapes Go.WideShapes Go.ChangeAt Go.RowKit
set_option linter.unusedVariables false
set_option maxRecDepth 20000 in
set_option maxHeartbeats 4000000 in
theorem fullGather (most : Int) (a b : ByteArray) (w : World) (hz : -9223372036854775808 ≤ most ∧ most ≤ 9223372036854775807) (ha : a.size ≤ 140737488351232) (hb : b.size ≤ 140737488351232) (hL : LaidE w) (hS : w.ShapedOpen Tryd.prog) :
    Calls Tryd.prog 14 #[.int .i64 most, .string a, .string b] w fun e w' => e = .returned (.bool true) ∧ Below w.heap.size w w' := by
  clear hz
  go_enter Tryd.func14, Tryd.ntmps14
  go_wp2_with fail
  refine (gathered_fact _ hL hS).mono ?_
  rintro e w1 ⟨rfl, hb1⟩
  have hs1 := hb1.size
  by_cases h3 : 1000 < a.size + b.size
  · go_wp2_with fail
    go_ret
    exact ⟨rfl, hb1⟩
  have hpk := pick_rng most 300 (by omega)
  obtain ⟨m, hm⟩ : ∃ m, pickI most 300 = m := ⟨_, rfl⟩
  rw [hm] at hpk
  have HM := Lib.hid hm
  clear hm
  go_wp2_with fail
  refine (pick_any _ _ _ (by omega) (by omega)).mono ?_
  rintro e w' ⟨rfl, rfl⟩
  rw [HM.out]
  go_wp2_with fail
  refine (gnew_ok m _ (by omega) (by omega)).mono ?_
  rintro e w2 ⟨rfl, rfl⟩
  have hB2 : GBlk (w1.alloc (.cells #[.string ⟨#[]⟩, .int .i64 m] 96)) w1.heap.size ⟨#[]⟩ m := Blk.new w1 _ _
  have hb2 : Below w.heap.size w (w1.alloc (.cells #[.string ⟨#[]⟩, .int .i64 m] 96)) := hb1.alloc hs1 _
  have hez : ((⟨#[]⟩ : ByteArray).size : Int) = 0 := rfl
  have HEZ := Lib.hid hez
  clear hez
  by_cases h4 : m < a.size
  · go_wp2_with fail
    refine (gadd_full w1.heap.size ⟨#[]⟩ a m true _ w hB2 (by omega) (by decide) ha (by rw [HEZ.out]; omega) hb2 hs1).mono ?_
    rintro e w3 ⟨rfl, hB3, hb3, _⟩
    have hL3 := hL.on hb3
    go_wp2_with fail
    refine (tell_errno 12 _ hL3).mono ?_
    rintro e w4 ⟨rfl, hb4⟩
    have hB4 : GBlk w4 w1.heap.size ⟨#[]⟩ m := Blk.below hB3 hb4 (Blk.lt hB3)
    have hbw4 := below_step hb3 hb4
    go_wp2_with fail
    refine (gsize_any _ _ m _ hB4).mono ?_
    rintro e w5 ⟨rfl, rfl⟩
    go_wp2_with fail
    go_ret
    exact ⟨rfl, hbw4⟩
  · go_wp2_with fail
    refine (gadd_more w1.heap.size ⟨#[]⟩ a m _ w hB2 (by omega) (by decide) (by rw [HEZ.out]; omega) hb2 hs1).mono ?_
    rintro e w3 ⟨rfl, hB3, hb3, _⟩
    have hea : (⟨#[]⟩ : ByteArray) ++ a = a := by rw [cat_of]; exact (str_of a).symm
    rw [hea] at hB3
    clear hB2 hb2 hea
    by_cases h5 : m < a.size + b.size
    · go_wp2_with fail
      refine (gadd_full w1.heap.size a b m true _ w hB3 (by omega) (by omega) hb (by omega) hb3 hs1).mono ?_
      rintro e w4 ⟨rfl, hB4, hb4, _⟩
      have hL4 := hL.on hb4
      go_wp2_with fail
      refine (tell_errno 12 _ hL4).mono ?_
      rintro e w5 ⟨rfl, hb5⟩
      have hB5 : GBlk w5 w1.heap.size ⟨#[]⟩ m := Blk.below hB4 hb5 (Blk.lt hB4)
      have hbw5 := below_step hb4 hb5
      go_wp2_with fail
      refine (gsize_any _ _ m _ hB5).mono ?_
      rintro e w6 ⟨rfl, rfl⟩
      go_wp2_with fail
      go_ret
      exact ⟨rfl, hbw5⟩
    · go_wp2_with fail
      refine (gadd_more w1.heap.size a b m _ w hB3 (by omega) (by omega) (by omega) hb3 hs1).mono ?_
      rintro e w4 ⟨rfl, hB4, hb4, _⟩
      have f1 : (((a ++ b).size : Int) == (a.size : Int) + (b.size : Int)) = true := beq_iff_eq.2 (by rw [ByteArray.size_append]; omega)
      obtain ⟨AB, hAB⟩ : ∃ AB, a ++ b = AB := ⟨_, rfl⟩
      rw [hAB] at hB4 f1
      clear hAB
      go_wp2_with fail
      refine (gsize_any _ _ m _ hB4).mono ?_
      rintro e w5 ⟨rfl, rfl⟩
      go_wp2_with fail
      go_ret
      exact ⟨by simp, hb4⟩
end Go.Proofs.YtddjpddafpfngaaDoor
