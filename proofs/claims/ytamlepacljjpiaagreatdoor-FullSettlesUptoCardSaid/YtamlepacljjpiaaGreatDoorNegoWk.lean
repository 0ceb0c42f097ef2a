/- What the walks of the claims about offers share. -/
import Derived.Test.YtamlepacljjpiaaGreatDoorNegoFact
import Derived.Test.YtamlepacljjpiaaGreatDoorKeysW7
namespace Go.Proofs.YtamlepacljjpiaaGreatDoor
open Go.ChangeShapes Go.WideShapes Go.ChangeAt Go.RowKit Go.Shelf
set_option linter.unusedVariables false
theorem own_ok {own : PairL} (h : nNewR own = none) : (∀ q ∈ own, q.2.size ≤ 255) ∧ own.length ≤ 60 ∧ rightP own := by
  unfold nNewR at h
  rcases hp : pRightR own with _ | E
  · obtain ⟨h1, h2⟩ := (pRightR_iff own).1 hp
    refine ⟨fun q hq => ?_, h1, h2⟩
    have := valB_len (h2 q hq).2
    rw [len_of] at this
    exact this
  · rw [hp] at h; cases h
theorem srd_far {w : World} {v : Value} {n : Nat} {xs : List Value} {S : List Nat} (h : SRd w v 2 n xs) (hS : ∀ k ∈ S, w.heap.size ≤ k) : 0 < n → ∀ k, v.ownBlock = some k → k ∉ S := by
  obtain ⟨h1, A, cap, rfl, h2, h3, h4⟩ := h
  intro hn k hk hm
  obtain ⟨b, o, rfl, hb, _⟩ := h4 hn
  injection hk with hk
  have h5 := hS k hm
  have hbk : b = k := hk
  omega
/- an answer to offers that are an argument of the claim (world w: the claim's first) -/
theorem ans_arg (g : Nat) (S : List Nat) (own rc offers : PairL) (login disc : Bool) (v : Value) (w wi : World) (V : Env w) (hbw : Below w.heap.size w wi) (hN : NegoH wi S g own rc) (hS : ∀ k ∈ S, w.heap.size ≤ k) (hv : SRd w v 2 offers.length (pairCells offers)) (hd : ∀ p ∈ offers, psmall p)
    (hnew : nNewR own = none) (hrc : rc.length ≤ 100000) (hfr : login = true ∨ rc = []) :
    Calls Tryz.prog 46 #[.pointer (some ⟨g, 0, none⟩), v, .bool login, .bool disc] wi fun e w' => AnsIs wi S g own rc offers login disc e w' (ansE rc offers login) :=
  nanswer_any g S own rc offers login disc v wi w hN (hv.on hbw) (srd_far hv hS) hd (own_ok hnew).1 hrc hfr V hbw hS
/- one's things behind a right answer, told of the claim's first world -/
theorem ans_after {w wi w' : World} {S S' : List Nat} (hbw : Below w.heap.size w wi) (hS : ∀ k ∈ S, w.heap.size ≤ k) (hnf : NF S wi w') (hS' : ∀ k ∈ S', k ∈ S ∨ wi.heap.size ≤ k) : Below w.heap.size w w' ∧ ∀ k ∈ S', w.heap.size ≤ k :=
  ⟨below_nf hbw hnf hS, fun k hk => by
    rcases hS' k hk with h | h
    · exact hS k h
    · exact Nat.le_trans hbw.size h⟩
theorem perr_tell {w : World} {base : Nat} {er : Value} {c p : Nat} (h : PErr w base er (some (c, some p))) : ∃ g, er = .iface 121 (.pointer (some ⟨g, 0, none⟩)) ∧ Blk w g 123 #[.int .i64 c, .int .i64 p] ∧ base ≤ g := by
  obtain ⟨g, h1, h2, h3⟩ := h
  exact ⟨g, h2, h3, h1⟩
theorem ans_len {own : PairL} {login disc : Bool} {l : PairL} (h : ansE [] l login = none) : (recL own login disc [] l).length ≤ 60 := by
  have := recL_len own login disc l []
  have := (ansE_nil h).1
  simp at *
  omega
theorem right_small {p : ByteArray × ByteArray} (hk : keyB (kB p) = true) (hv : valB (vB p) = true) : psmall p := by
  unfold keyB at hk
  simp at hk
  have h1 : (kB p).length ≤ 63 := by unfold kB; simpa [kB] using hk.2.2
  have h2 := valB_len hv
  have h3 : (kB p).length = p.1.size := len_of p.1
  have h4 : (vB p).length = p.2.size := len_of p.2
  exact ⟨by omega, by omega⟩
theorem rec_small {own : PairL} {login disc : Bool} {l : PairL} (h : ansE [] l login = none) : ∀ q ∈ recL own login disc [] l, psmall q := fun q hq => by
  have := (RecOk.all own login disc l [] RecOk.nil (ansE_nil h).2.1).2 q hq
  exact right_small this.2.2.2.1 this.2.2.2.2
end Go.Proofs.YtamlepacljjpiaaGreatDoor
