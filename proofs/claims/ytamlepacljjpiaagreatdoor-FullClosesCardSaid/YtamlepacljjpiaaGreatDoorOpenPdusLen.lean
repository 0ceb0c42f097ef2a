/- How long an argument that is a slice of PDUs can be. -/
import Derived.Test.YtamlepacljjpiaaGreatDoorGahs
namespace Go.Proofs.YtamlepacljjpiaaGreatDoor
open Go.ChangeShapes Go.WideShapes Go.ChangeAt Go.RowKit Go.Deep
set_option linter.unusedVariables false
set_option maxRecDepth 100000 in
theorem open_pdus_len {H : Type} {enc : TypeId × Value → H} {W : World} {base : Nat} {spare : Nat → Bool} {held : Bool} {v : Value} {d : DataW H} {p : List MemPlace} {ts : List TypeId} {ds : List (DataW H)} {j : Nat} {b0 : Nat}
    (hv : Value.okWide Tryz.prog W .any b0 30 v) (h : DataW.Trod enc Tryz.prog W base spare held 30 v d p)
    (hsz : (DataW.weightsEach Tryz.prog ts ds).all (· ≤ reachBytes) = true) (ht : ts[j]? = some 30) (hd : ds[j]? = some d) (L : List (PD × PdPart)) (hl : PdsRd W v L) : L.length * 88 ≤ 140737488351232 := by
  obtain ⟨⟨_, A0, cap0, hv0, _⟩, _⟩ := hl
  obtain ⟨a0, len, cap, rfl⟩ := okWide_slice Tryz.underlying30 hv
  obtain rfl : L.length = len := by injection hv0 with _ h _; exact h.symm
  obtain ⟨fuel, hf⟩ := h
  rcases open_slice Tryz.underlying30 hf with ⟨hc, hx⟩ | ⟨a, len', cap', m, n, D, Pl, hc, hb, hl, hmx, hmm, hx, hi⟩
  · injection hc with hc
    injection hc with _ h2 _
    rw [h2]; omega
  · injection hc with hc
    injection hc with _ h2 _
    have hd' : d = .slice ((List.range len').map D) ((List.range (m - len')).map fun j => D (len' + j)) := congrArg Prod.fst hx
    rw [hd'] at hd
    have hw := of_decide_eq_true (List.all_eq_true.1 hsz _ (DataW.weights_mem_each ht hd ((len' + (m - len')) * Tryz.prog.bytesOf 41) (by
      simp only [DataW.weights, Tryz.underlying30, List.length_map, List.length_range]
      exact List.mem_cons_self)))
    have hby : Tryz.prog.bytesOf 41 = 88 := by kernel_rfl
    rw [hby] at hw
    have hr : reachBytes = 140737488351232 := rfl
    rw [hr] at hw
    rw [h2]
    omega
end Go.Proofs.YtamlepacljjpiaaGreatDoor
