/- A region that draws its order, inside a round of a range over a function: by the plain law of regions. -/
import Derived.Test.YtifniblffjgfkaaGreatDoorGhead
import Derived.OrdersHeld
import Derived.OrdersIn
import Derived.RangeFuncCalls
import Derived.OwnWalkIn
import Derived.Deep.RegionHeld3
namespace Go.Proofs.YtifniblffjgfkaaGreatDoor
open Go.RowKit
set_option linter.unusedVariables false
section
variable {P : Program} {ops : Array Oper} {md : Region.Mode} {l n : Nat}
/-- What stands behind a region that only goes on. -/
def onlyN (Q : Exit → Act → World → Prop) : Exit → Act → World → Prop
  | .normal, a, w => Q .normal a w
  | _, _, _ => False
theorem onlyN_imp {Q : Exit → Act → World → Prop} : ∀ (e : Exit) (a : Act) (w : World), onlyN Q e a w → Q e a w := fun e a w h => by
  cases e <;> first | exact h | exact (h : False).elim
theorem onlyN_shut {Q : Exit → Act → World → Prop} : ¬ LetsOut (onlyN Q) := fun ⟨_, _, h⟩ => h
theorem round_about (o : Oper) (w : World) (ρ : Operand → Value) : ∀ f, o.about P w ρ = some f → (Fence.wide.inRound l).fn f := fun _ _ => trivial
theorem wpIn_round {o : Oper} {a : Act} {w : World} {K : Act → World → Prop} {Q : Exit → Act → World → Prop} (hd : ∀ c, o.op ≠ .defer c) (h : o.wp P a w K Q) : o.wpIn (Fence.wide.inRound l) n P a w K Q := by
  refine ⟨round_about o w _, ?_⟩
  rw [Oper.semAt_plain _ _ _ hd]
  unfold Oper.wp at h
  generalize (execOp a.eval o).run P w = r at *
  rcases r with ⟨x, w'⟩ | ⟨x, w'⟩
  · cases x
    case enter f args => exact ⟨fun hc => absurd hc (show ¬ (none : Option Nat).isSome = true by decide), CallsIn.inRound l (callsIn_wide.2 h)⟩
    case row row args =>
      refine ⟨fun hc => absurd hc (show ¬ (none : Option Nat).isSome = true by decide), fun c cs _ => ?_⟩
      obtain ⟨v, w2, hr, hs⟩ := h c cs
      exact ⟨v, w2, hr, stepsIn_wide.2 hs⟩
    all_goals first | exact h | exact h.elim
  · cases x <;> first | exact h | exact h.elim
theorem wpOpIn_round {i : Nat} {K : Act → World → Prop} {Q : Exit → Act → World → Prop} {a : Act} {w : World} (hd : ∀ (j : Nat) (o : Oper) c, ops[j]? = some o → o.op ≠ .defer c) (hL : ¬ LetsOut Q) (h : wpOp P ops Q i K a w) : wpOpIn (Fence.wide.inRound l) n P ops Q i K a w := by
  unfold wpOp at h
  unfold wpOpIn
  split
  · rename_i ho; simp only [ho] at h; exact h
  · rename_i o ho
    simp only [ho] at h
    split
    · rename_i hw
      simp only [hw, if_true] at h
      rcases h with h | ⟨_, h⟩
      · exact wpIn_round (fun c => hd i o c ho) h
      · exact absurd h hL
    · rename_i hw
      simp only [hw] at h
      exact ⟨round_about o w _, h⟩
theorem wpAnyIn_round {Q : Exit → Act → World → Prop} (hd : ∀ (j : Nat) (o : Oper) c, ops[j]? = some o → o.op ≠ .defer c) (hL : ¬ LetsOut Q) : ∀ (fuel : Nat) (listed : Array Bool) (a : Act) (w : World),
    wpAny P md ops Q fuel listed a w → wpAnyIn (Fence.wide.inRound l) n P md ops Q fuel listed a w
  | 0, _, _, _, h => h
  | fuel + 1, _, _, _, h => ⟨h.1, fun i hi => wpOpIn_round hd hL (wpOp_mono (fun a' w' h' => wpAnyIn_round hd hL fuel _ a' w' h') (h.2 i hi))⟩
def noDefer (o : Oper) : Bool := match o.op with | .defer _ => false | _ => true
theorem noDefer_spec (h : ops.all noDefer = true) : ∀ (j : Nat) (o : Oper) c, ops[j]? = some o → o.op ≠ .defer c := by
  intro j o c hj he
  have := Array.all_eq_true'.1 h o (Array.mem_of_getElem? hj)
  unfold noDefer at this
  rw [he] at this
  cases this
/-- The beginning. -/
theorem wpIn_region_roundH {S : World → Prop} {id : Nat} {Q : Exit → Act → World → Prop} {a : Act} {w : World} (hm : P.follows .mixedOrders = true) (hd : ops.all noDefer = true) (hS : S w.drew)
    (h : S w.drew → wpAnyH P .any ops (onlyN Q) S ops.size (Array.replicate ops.size false) a w.drew) : (Code.region id ops true).wpIn (Fence.wide.inRound l) n P Q a w :=
  wpIn_mono (wpIn_region_any hm (wpAnyIn_round (noDefer_spec hd) onlyN_shut _ _ _ _ (wpAny_of_held _ _ _ _ (h hS)))) onlyN_imp
theorem wpAnyH_end {S : World → Prop} {Q : Exit → Act → World → Prop} {listed : Array Bool} {a : Act} {w : World} {fuel : Nat} (hr : Region.ready md ops listed = []) (h : Q .normal a w) : wpAnyH P md ops (onlyN Q) S fuel listed a w := wpAnyH_done (Q := onlyN Q) hr h fuel
end
end Go.Proofs.YtifniblffjgfkaaGreatDoor
