/- The walk of the law AhsOnly. -/
import Derived.Test.YtddjpddafpfngaaDoorAhsMore
namespace Go.Proofs.YtddjpddafpfngaaDoor
open Go.ChangeShapes Go.WideShapes Go.ChangeAt Go.RowKit
set_option linter.unusedVariables false
theorem onlyAhs (s : ByteArray) (w : World) (hs : s.size ≤ 140737488351232) (hL : LaidE w) (hS : w.ShapedOpen Tryd.prog) :
    Calls Tryd.prog 3 #[.string s] w fun e w' => e = .returned (.bool true) ∧ Below w.heap.size w w' := by
  clear hS
  go_enter Tryd.func3, Tryd.ntmps3
  go_wp2_with fail
  refine (more_fact _ hL).mono ?_
  rintro e w1 ⟨rfl, hb1⟩
  have hL1 := hL.on hb1
  by_cases h3 : 1100 < s.size
  · go_wp2_with fail
    go_ret
    exact ⟨rfl, hb1⟩
  by_cases h4 : 1020 < s.size
  · go_wp2_with fail
    refine (ahsRead_long _ _ h4 hs).mono ?_
    rintro e w2 ⟨rfl, rfl⟩
    rw [show errv 4 = .iface 35 (.int .i64 4) from rfl]
    go_wp2_with fail
    go_ret
    exact ⟨rfl, hb1⟩
  go_wp2_with fail
  refine (ahsRead_any _ _ hL1 (by omega)).mono ?_
  rintro e w2 ⟨r, er, rfl, hr, hb2⟩
  have hbw2 := below_step hb1 hb2
  rcases hgo : readGo 1021 s.data.toList 0 with ⟨c, p⟩ | l
  · rw [hgo] at hr
    obtain ⟨rfl, g, hg, rfl, hB⟩ := hr
    clear hgo
    go_wp2_with fail
    go_ret
    exact ⟨rfl, hbw2⟩
  · rw [hgo] at hr
    obtain ⟨rfl, hr⟩ := hr
    obtain ⟨k1, k2, k3⟩ := readGo_ok _ _ _ _ (by rw [len_of]; omega) hgo
    rw [len_of] at k3
    have hsum : sumLen l = s.size := by rw [← ahsB_len, k1, len_of]
    have hnone := right_some_iff l 0 0 (by omega) k2 (by omega)
    have hrd := SRd.of_m hr
    have hdl : ∀ p ∈ l, p.2.size ≤ 140737488351232 := by
      intro p hp
      have := (right_none l 0 0 (by omega) hnone).1 p hp
      omega
    have HN := Lib.hid hnone
    have HK := Lib.hid k1
    clear hgo hnone k1 hsum
    go_wp2_with fail
    refine (ahsWrite_ok l _ _ hrd hdl HN.out).mono ?_
    rintro e w3 ⟨rfl, hb3⟩
    rw [HK.out, ← str_of]
    have hrd3 := hrd.on hb3
    have hbw3 := below_step hbw2 hb3
    go_wp2_with fail
    refine (right_any l _ _ hrd3 hdl).mono ?_
    rintro e w4 ⟨r4, rfl, he4, hb4⟩
    rw [HN.out] at he4
    obtain rfl : r4 = .nilIface := he4
    have hbw4 := below_step hbw3 hb4
    go_wp2_with fail
    go_ret
    exact ⟨rfl, hbw4⟩
end Go.Proofs.YtddjpddafpfngaaDoor
