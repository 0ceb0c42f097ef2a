/- The walk of NegoLater. -/
import Derived.Test.YtamlepacljjpiaaGreatDoorNegoAnswerG
import Derived.Test.YtamlepacljjpiaaGreatDoorNegoTwo
namespace Go.Proofs.YtamlepacljjpiaaGreatDoor
open Go.ChangeShapes Go.WideShapes Go.ChangeAt Go.RowKit Go.Shelf
set_option linter.unusedVariables false
def ia : ByteArray := ⟨#[73, 110, 105, 116, 105, 97, 116, 111, 114, 65, 108, 105, 97, 115]⟩
theorem ia_row : ∃ r, keyRow ia.data.toList = some r ∧ r.kind = 6 ∧ r.lonly = false := by
  have h : (keyRow ia.data.toList).map (fun r => (r.kind, r.lonly)) = some (6, false) := by decide +kernel
  rcases hr : keyRow ia.data.toList with _ | r
  · rw [hr] at h; cases h
  · rw [hr] at h
    have h2 := Option.some.inj h
    injection h2 with h3 h4
    exact ⟨r, rfl, h3, h4⟩
theorem ia_key : keyB ia.data.toList = true := by decide +kernel
theorem ia_ans (own : PairL) (b : ByteArray) (hb : b.data.toList ≠ []) : (ansP own false false (ia, b)).2 = b.data.toList := by
  obtain ⟨r, hr, h6, hl⟩ := ia_row
  have hf : fitsE (kB (ia, b)) (vB (ia, b)) = 0 := by
    unfold fitsE
    show (match keyRow ia.data.toList with | none => 5 | some r => fitsR r b.data.toList) = 0
    rw [hr]
    unfold fitsR
    simp [h6, hb]
  unfold ansP
  show (match keyRow ia.data.toList with | none => (notU, []) | some r => ansR own false false r (ia, b)).2 = _
  rw [hr]
  show (ansR own false false r (ia, b)).2 = _
  unfold ansR
  rw [if_neg (by simp [hl]), if_neg (by simp), if_neg (by simp [hf]), if_pos (Or.inl h6)]
  rfl
theorem ia_ansE (rc : PairL) (a : ByteArray) (ha : valB a.data.toList = true) : ansE rc [(ia, a)] false = none :=
  (ansE_none _ _ _).2 ⟨by simp, fun p hp => by obtain rfl := List.mem_singleton.1 hp; exact ⟨ia_key, ha⟩, fun h => (by cases h), by simp [KD]⟩
theorem ansRc_lonly (own off : PairL) : ∀ q ∈ ansRc own [] off false false, ∃ r, keyRow (kB q) = some r ∧ r.lonly = false := by
  unfold ansRc
  rcases ansE [] off false with _ | E
  · exact recL_lonly own false off [] fun q hq => by cases hq
  · exact fun q hq => by cases hq
theorem ans_argG (g : Nat) (S : List Nat) (own rc offers : PairL) (login disc : Bool) (v : Value) (w wi : World) (V : Env w) (hbw : Below w.heap.size w wi) (hN : NegoH wi S g own rc) (hS : ∀ k ∈ S, w.heap.size ≤ k) (hv : SRd w v 2 offers.length (pairCells offers)) (hd : ∀ p ∈ offers, psmall p)
    (hnew : nNewR own = none) (hrc : rc.length ≤ 100000) :
    Calls Tryz.prog 46 #[.pointer (some ⟨g, 0, none⟩), v, .bool login, .bool disc] wi fun e w' => AnsIs wi S g own rc offers login disc e w' (ansE rc offers login) :=
  nanswer_gen g S own rc offers login disc v wi w hN (hv.on hbw) (srd_far hv hS) hd (own_ok hnew).1 hrc V hbw hS
end Go.Proofs.YtamlepacljjpiaaGreatDoor
