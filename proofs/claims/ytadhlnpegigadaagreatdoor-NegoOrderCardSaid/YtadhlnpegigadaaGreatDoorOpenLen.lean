/- How long an argument that is a slice of pairs can be. -/
import Derived.Test.YtadhlnpegigadaaGreatDoorOpenPairs
import Derived.Test.YtadhlnpegigadaaGreatDoorOpenStruct
namespace Go.Proofs.YtadhlnpegigadaaGreatDoor
open Go.ChangeShapes Go.WideShapes Go.ChangeAt Go.RowKit Go.Deep
set_option linter.unusedVariables false
set_option maxRecDepth 100000 in
theorem open_pairs_len {H : Type} {enc : TypeId × Value → H} {W : World} {base : Nat} {spare : Nat → Bool} {held : Bool} {v : Value} {d : DataW H} {p : List MemPlace} {ts : List TypeId} {ds : List (DataW H)} {j : Nat} {b0 : Nat}
    (hv : Value.okWide Tryz.prog W .any b0 27 v) (h : DataW.Trod enc Tryz.prog W base spare held 27 v d p)
    (hsz : (DataW.weightsEach Tryz.prog ts ds).all (· ≤ reachBytes) = true) (ht : ts[j]? = some 27) (hd : ds[j]? = some d) (l : PairL) (hl : SRd W v 2 l.length (pairCells l)) : l.length * 32 ≤ 140737488351232 := by
  obtain ⟨_, A0, cap0, hv0, _⟩ := hl
  obtain ⟨a0, len, cap, rfl⟩ := okWide_slice Tryz.underlying27 hv
  obtain rfl : l.length = len := by injection hv0 with _ h _; exact h.symm
  obtain ⟨fuel, hf⟩ := h
  rcases open_slice_pairs Tryz.underlying27 Tryz.underlying52 (by kernel_rfl) rfl rfl (by kernel_rfl) (by kernel_rfl) hf with ⟨hc, hx⟩ | ⟨a, len', cap', m, n, V0, V1, D0, D1, P0, P1, hc, hb, hl, hmx, hmm, hx, hi⟩
  · injection hc with hc
    injection hc with _ h2 _
    rw [h2]; omega
  · injection hc with hc
    injection hc with _ h2 _
    have hd' : d = .slice ((List.range len').map fun i => .agg [D0 i, D1 i]) ((List.range (m - len')).map fun j => .agg [D0 (len' + j), D1 (len' + j)]) := congrArg Prod.fst hx
    rw [hd'] at hd
    have hw := of_decide_eq_true (List.all_eq_true.1 hsz _ (DataW.weights_mem_each ht hd ((len' + (m - len')) * Tryz.prog.bytesOf 52) (by
      simp only [DataW.weights, Tryz.underlying27, List.length_map, List.length_range]
      exact List.mem_cons_self)))
    have hby : Tryz.prog.bytesOf 52 = 32 := by kernel_rfl
    rw [hby] at hw
    have hr : reachBytes = 140737488351232 := rfl
    rw [hr] at hw
    rw [h2]
    omega
end Go.Proofs.YtadhlnpegigadaaGreatDoor
