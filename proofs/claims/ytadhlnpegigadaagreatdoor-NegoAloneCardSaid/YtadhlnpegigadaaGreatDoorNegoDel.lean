/- slices.IndexFunc and slices.DeleteFunc of pairs, where nothing is struck. -/
import Derived.Test.YtadhlnpegigadaaGreatDoorNegoS
namespace Go.Proofs.YtadhlnpegigadaaGreatDoor
open Go.ChangeShapes Go.WideShapes Go.ChangeAt Go.RowKit Go.Shelf
set_option linter.unusedVariables false
def idxG (pr : ByteArray × ByteArray → Bool) : PairL → Nat → Int
  | [], _ => -1
  | q :: r, k => if pr q = true then (k : Int) else idxG pr r (k + 1)
def PredP (fid : Nat) (lb : Array Value) (pr : ByteArray × ByteArray → Bool) (l : PairL) (W : World) : Prop := ∀ q ∈ l, Calls Tryz.prog fid (#[.agg #[.string q.1, .string q.2]] ++ lb) W fun e w' => e = .returned (.bool (pr q)) ∧ Below W.heap.size W w'
set_option maxRecDepth 20000 in
set_option maxHeartbeats 4000000 in
theorem idxf_any (fid : Nat) (lb : Array Value) (eg : ∀ args w, (callFunc fid args).run Tryz.prog w = .ok (.enter fid args) w) (pr : ByteArray × ByteArray → Bool) (l : PairL) (v : Value) (w : World) (hv : SRd w v 2 l.length (pairCells l)) (hn : l.length ≤ 1000000)
    (hf : ∀ W, Below w.heap.size w W → PredP fid lb pr l W) :
    Calls Tryz.prog 66 #[v, .func (.func fid) #[] lb] w fun e w' => e = .returned (.int .i64 (idxG pr l 0)) ∧ Below w.heap.size w w' := by
  obtain ⟨A, cap, rfl⟩ : ∃ A cap, v = .slice A l.length cap := by obtain ⟨_, A, cap, hv, _⟩ := hv; exact ⟨A, cap, hv⟩
  obtain ⟨N, hN⟩ : ∃ N, l.length = N := ⟨_, rfl⟩
  obtain ⟨R, hR⟩ : ∃ R, idxG pr l 0 = R := ⟨_, rfl⟩
  rw [hR]
  rw [hN] at hn ⊢
  have HV := Lib.hid hv
  have HN := Lib.hid hN
  have HR := Lib.hid hR
  have HF := Lib.hid hf
  clear hv hN hR hf
  go_enter Tryz.func66, Tryz.ntmps66
  go_wp2_with fail
  go_loopw [5, 8] (fun _ i wr => ∃ k : Nat, k ≤ N ∧ i = .int .i64 k ∧ idxG pr (l.drop k) k = R ∧ Below w.heap.size w wr) (fun _ i _ => N - (intOf i).toNat)
  case atStart => exact ⟨0, Nat.zero_le _, rfl, HR.out, Below.refl _ _⟩
  case round =>
    obtain ⟨k, hk, rfl, hgo, hbw⟩ := hrel
    by_cases hlt : k < N
    · obtain ⟨q, hq⟩ : ∃ q, l[k]? = some q := ⟨_, List.getElem?_eq_getElem (by rw [HN.out]; exact hlt)⟩
      have hdr : l.drop k = q :: l.drop (k + 1) := by
        obtain ⟨h1, h2⟩ := List.getElem?_eq_some_iff.1 hq
        rw [List.drop_eq_getElem_cons h1, h2]
      rw [hdr, idxG] at hgo
      have hvr := HV.out.on hbw
      obtain ⟨b, o, cp, u0, u1, hvv, hbl, q0, q1, c0, c1⟩ := hvr.two (k := k) (by rw [HN.out]; exact hlt)
      have hcell := pairCells_at l k q hq
      rw [hcell.1] at q0
      rw [hcell.2] at q1
      obtain rfl := Option.some.inj q0
      obtain rfl := Option.some.inj q1
      injection hvv with g1 g2 g3
      subst g1
      subst g3
      have hcall := HF.out wr hbw q (List.mem_of_getElem? hq)
      obtain ⟨p1, p2⟩ := q
      simp only at c0 c1 hcall
      obtain ⟨B, hB⟩ : ∃ B, pr (p1, p2) = B := ⟨_, rfl⟩
      rw [hB] at hcall hgo
      have HGO := Lib.hid hgo
      clear hdr hq hcell hB hgo g2
      rcases B with _ | _
      · have hG := HGO.out
        rw [if_neg (by simp)] at hG
        have HG := Lib.hid hG
        clear hG
        go_wp2_with (go_at_fn fid; refine hcall.mono ?_; rintro e w' ⟨rfl, hb'⟩)
        go_roundw
        case rel => exact ⟨k + 1, by omega, by go_num, HG.out, below_step hbw hb'⟩
        case measure => simp [intOf]; omega
      · have hG := HGO.out
        rw [if_pos rfl] at hG
        subst hG
        go_wp2_with (go_at_fn fid; refine hcall.mono ?_; rintro e w' ⟨rfl, hb'⟩)
        go_ret
        exact ⟨rfl, below_step hbw hb'⟩
    · obtain rfl : k = N := by omega
      rw [List.drop_of_length_le (by rw [HN.out]; exact Nat.le_refl _)] at hgo
      have hG : R = -1 := hgo.symm
      subst hG
      go_wp2_with fail
      go_ret
      exact ⟨rfl, hbw⟩
theorem idxG_none {pr : ByteArray × ByteArray → Bool} : ∀ (l : PairL) (k : Nat), (∀ q ∈ l, pr q = false) → idxG pr l k = -1
  | [], k, _ => rfl
  | q :: l, k, h => by
    rw [idxG, if_neg (by rw [h q (by simp)]; simp)]
    exact idxG_none l _ fun x hx => h x (List.mem_cons_of_mem _ hx)
set_option maxRecDepth 20000 in
set_option maxHeartbeats 4000000 in
theorem delf_none (fid : Nat) (lb : Array Value) (eg : ∀ args w, (callFunc fid args).run Tryz.prog w = .ok (.enter fid args) w) (pr : ByteArray × ByteArray → Bool) (l : PairL) (v : Value) (w : World) (hv : SRd w v 2 l.length (pairCells l)) (hn : l.length ≤ 1000000)
    (hf : ∀ W, Below w.heap.size w W → PredP fid lb pr l W) (hno : ∀ q ∈ l, pr q = false) :
    Calls Tryz.prog 37 #[v, .func (.func fid) #[] lb] w fun e w' => e = .returned v ∧ Below w.heap.size w w' := by
  have hi := idxf_any fid lb eg pr l v w hv hn hf
  rw [idxG_none l 0 hno] at hi
  obtain ⟨A, cap, rfl⟩ : ∃ A cap, v = .slice A l.length cap := by obtain ⟨_, A, cap, hv, _⟩ := hv; exact ⟨A, cap, hv⟩
  clear hf hv hno
  go_enter Tryz.func37, Tryz.ntmps37
  go_wp2_with fail
  refine hi.mono ?_
  rintro e w1 ⟨rfl, hb1⟩
  go_wp2_with fail
  go_ret
  exact ⟨rfl, hb1⟩
/- the same key -/
def sameK (k : ByteArray) (q : ByteArray × ByteArray) : Bool := decide (kB q = k.data.toList)
set_option maxRecDepth 20000 in
theorem clos_any (z : Nat) (k a b : ByteArray) (w : World) (hc : w.cell? ⟨z, 0, none⟩ = some (.string k)) (hz : z < w.heap.size) :
    Calls Tryz.prog 59 #[.agg #[.string a, .string b], .pointer (some ⟨z, 0, none⟩)] w fun e w' => e = .returned (.bool (sameK k (a, b))) ∧ Below w.heap.size w w' := by
  have hb0 : Below w.heap.size w (w.alloc (.cells #[.string a, .string b] 52)) := (Below.refl _ _).alloc (Nat.le_refl _) _
  have hB0 := Blk.new w 52 #[.string a, .string b]
  have hc2 := (hb0.cell (p := ⟨z, 0, none⟩) hz).trans hc
  have c0 := hB0.cell 0
  obtain ⟨B, hB⟩ : ∃ B, sameK k (a, b) = B := ⟨_, rfl⟩
  have hse : (a.toList == k.toList) = B := by
    rw [toList_of, toList_of, ← hB]
    unfold sameK kB
    by_cases h : a.data.toList = k.data.toList
    · rw [h]; simp
    · rw [decide_eq_false (by exact h)]
      exact beq_eq_false_iff_ne.2 h
  rw [hB]
  clear hB
  go_enter Tryz.func59, Tryz.ntmps59
  go_wp2_with fail
  go_ret
  exact ⟨rfl, hb0⟩
end Go.Proofs.YtadhlnpegigadaaGreatDoor
