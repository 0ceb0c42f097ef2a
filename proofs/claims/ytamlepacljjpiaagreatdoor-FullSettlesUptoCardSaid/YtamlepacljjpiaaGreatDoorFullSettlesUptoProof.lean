/- The law FullSettles (second form): called with whatever arguments may be read it returns true, and they read as they did; the listed variable errors.errorType is tied to the text by the given tie. Condition: what is read is of bulk at most 1048576. -/
import Derived.Test.YtamlepacljjpiaaGreatDoorCards
import Derived.Test.YtamlepacljjpiaaGreatDoorTie
import Derived.Test.YtamlepacljjpiaaGreatDoorGbase
import Derived.Test.YtamlepacljjpiaaGreatDoorFullSettlesW
import Derived.Test.YtamlepacljjpiaaGreatDoorOpenPairsBulk
import Derived.Test.YtamlepacljjpiaaGreatDoorGhead
import Derived.Test.YtamlepacljjpiaaGreatDoorWords
namespace Go.Proofs.YtamlepacljjpiaaGreatDoor.fullSettlesUpto
open Go.ChangeShapes Go.WideShapes Go.ChangeAt Go.RowKit
open Go.ChangeMaps (open_string)
set_option linter.unusedVariables false
noncomputable def world (os : Os) : World := (laidWorld os).layVars Tryz.prog (Rows.fullSettlesUptoRow.laid.filter fun x => x.2.handleName?.isNone)
set_option maxRecDepth 100000 in
theorem world_met (os : Os) (args : Array Value) : laidMetH Tryz.prog Rows.fullSettlesUptoRow.laid ((world os).forCall (fun _ _ => 0) ⟨#[], args, []⟩).memory :=
  laidMetH_of_parts (met_lay _ (by kernel_rfl) (by kernel_rfl)) (by kernel_rfl)
set_option maxRecDepth 100000 in
theorem contract (H : Type) (enc : TypeId × Value → H) (W : World) (base : Nat) (args : Array Value) (ds gs : List (DataW H)) (before : List MemPlace)
    (hval : ∀ (j : Nat) t v, Tryz.f10.params[j]? = some t → args[j]? = some v → Value.okWide Tryz.prog W .any base t v)
    (hW : DataW.Whole enc Tryz.prog Tryz.f10.params.toList Rows.fullSettlesSpec.vars false W args.toList ds gs before)
    (hsz : (DataW.weightsEach Tryz.prog (Tryz.f10.params.toList ++ Rows.fullSettlesSpec.plain.varTypes Tryz.prog) (ds ++ gs)).all (· ≤ reachBytes) = true)
    (hk : Rows.uptoSmall H (ds ++ gs) = true)
    (hL : laidMetH Tryz.prog Rows.fullSettlesUptoRow.laid W) (hS : W.ShapedOpen Tryz.prog) :
    Calls Tryz.prog 10 args W fun e W' => ∃ v, e = .returned v ∧ Rows.fullSettlesSpec.post enc Tryz.prog Tryz.f10 false true false false W args v W' := by
  have hW2 := hW
  obtain ⟨p, q, hA0, hV, rfl, hfz, hnd⟩ := hW
  have hA : DataW.TrodAll enc Tryz.prog W 0 (fun _ => true) true Tryz.f10.params.toList args.toList ds p := hA0
  rw [Tryz.params10] at hA hval hsz
  obtain ⟨v0, vs0, d0, ds0, p0, q0, hargs, rfl, rfl, h0, r0⟩ := trodAll_cons hA
  obtain ⟨v1, vs1, d1, ds1, p1, q1, rfl, rfl, rfl, h1, r1⟩ := trodAll_cons r0
  obtain ⟨rfl, rfl, rfl⟩ := trodAll_nil r1
  obtain rfl : args = #[v0, v1] := by cases args; simp_all
  obtain ⟨rfl, rfl⟩ := trodVars_none hV
  obtain ⟨l0, x0, y0⟩ := open_pairs (hval 0 27 v0 rfl rfl) h0 hsz (j := 0) rfl rfl
  have n0 := Nat.le_trans (Nat.le_trans (open_pairs_bulk (hval 0 27 v0 rfl rfl) h0 l0 x0) (bulks.part_le (List.mem_append_left _ (List.mem_of_getElem? (i := 0) rfl)))) (bulks.bound hk)
  obtain ⟨a1, rfl, rfl, rfl⟩ := open_bool Tryz.underlying4 (hval 1 4 v1 rfl rfl) h1
  refine (settlesFull l0 v0 a1 W x0 y0 n0 ⟨(handle_of_row (by kernel_rfl) hL), (tabs_of (L := Rows.fullSettlesUptoRow.laid.filter fun x => x.2.handleName?.isNone) (mem_of (i := 7) (by kernel_rfl)) (mem_of (i := 2) (by kernel_rfl)) (laid_nohandle (by kernel_rfl) hL)), (errs_of (L := Rows.fullSettlesUptoRow.laid.filter fun x => x.2.handleName?.isNone) (mem_of (i := 5) (by kernel_rfl)) (mem_of (i := 4) (by kernel_rfl)) (laid_nohandle (by kernel_rfl) hL)), hS⟩).mono fun e W' ⟨he, hg⟩ => ?_
  subst he
  exact ⟨_, rfl, law_post (b := 4) Tryz.laidOut (by kernel_rfl) rfl (by kernel_rfl) Tryz.underlying4 hW2 hg rfl⟩
theorem reads (os : Os) {H : Type} (enc : TypeId × Value → H) : ∃ places, DataW.whole enc Tryz.prog ((world os).forCall (fun _ _ => 0) ⟨#[], #[.slice none 0 0, .bool false], []⟩).memory Tryz.f10.params.toList Rows.fullSettlesSpec.vars false (#[.slice none 0 0, .bool false] : Array Value).toList 8 = some ([.nil, .lit (.bool false)], [], places) :=
  ⟨[], by kernel_rfl⟩
set_option maxRecDepth 100000 in
theorem lifted (os : Os) (started : os.Started) (H : Type) (enc : TypeId × Value → H) (F : Stop.Interp) :
    ReturnsInHanded {} Tryz.checked os 10 .any ((Rows.OpenSpec.upto Rows.fullSettlesSpec).preRow enc Tryz.prog Tryz.f10 Rows.fullSettlesUptoRow.domain false Rows.fullSettlesUptoRow.laid) (((Rows.OpenSpec.upto Rows.fullSettlesSpec).at F).post enc Tryz.prog Tryz.f10 false true false false) := by
  obtain ⟨places, hx⟩ := reads os enc
  refine returnsInHanded_of_row (C := Tryz.checked) (s := Rows.OpenSpec.upto Rows.fullSettlesSpec) Tryz.own started (by kernel_rfl) Tryz.func10
    (witness_row_atRef (enc := enc) (C := Tryz.checked) false (world os) #[.slice none 0 0, .bool false] ((World.layVars_os _ _ _).trans rfl) (by kernel_rfl) (by kernel_rfl) (by kernel_rfl)
      (OpenSpec.preRow_of_cond 8 hx (by kernel_rfl) (fun k hk => by cases hk; kernel_rfl) (by kernel_rfl) (world_met os _))) ?_
  intro W base args ds gs before hval hW _ hcond hsz hL hS _
  exact contract H enc W base args ds gs before hval hW hsz (hcond _ rfl) hL hS
set_option maxHeartbeats 20000000 in
theorem said : Rows.FullSettlesUptoSaid :=
  OpenClaim.holds_of_cond 10 Tryz.f10 rfl rfl rfl rfl rfl rfl rfl ⟨rfl, rfl, rfl, rfl, rfl⟩ rfl rfl rfl rfl rfl (by kernel_rfl) Tryz.func10 (by unfold joinedFacts; refine and8 ?_ may_enter (beq_iff_eq.2 lifts_final.symm) (beq_iff_eq.2 make_cut) (by kernel_rfl) (by kernel_rfl) (by kernel_rfl) (by kernel_rfl); (repeat' (with_reducible refine and2 ?_ ?_)); all_goals as_aux_lemma => kernel_rfl)
    (of_decide_eq_true (by kernel_rfl)) (by unfold Func.isWrapper; first | (rw [if_pos (by decide +kernel)]; kernel_rfl) | (rw [if_neg (by decide +kernel)]; exact ⟨rfl, rfl⟩))
    (fun os started H enc _ F => by rw [OpenClaim.pre_eq_preRow]; exact lifted os started H enc F)
theorem plain (f : FuncId) (fn : Func) (hf : Tryz.pinned.checked.prog.funcNamed "quaymaster/quaymasterkeep.FullSettles" = some f) (hfn : Tryz.pinned.checked.prog.funcs[f]? = some fn) :
    true = Tryz.pinned.checked.prog.looks [] ∧ ∀ (j : Nat) t, fn.params[j]? = some t → Tryz.pinned.checked.prog.wantsStandIn t = false := by
  obtain rfl : f = 10 := Option.some.inj ((show Tryz.prog.funcNamed "quaymaster/quaymasterkeep.FullSettles" = some 10 by kernel_rfl).symm.trans hf) |>.symm
  obtain rfl : fn = Tryz.f10 := (Option.some.inj (Tryz.func10.symm.trans hfn)).symm
  refine ⟨by kernel_rfl, fun j t ht => ?_⟩
  rw [Tryz.params10] at ht
  have hm := Array.mem_of_getElem? ht
  simp only [List.mem_toArray, List.mem_cons, List.not_mem_nil, or_false] at hm
  rcases hm with rfl | rfl
  · exact (show Tryz.prog.wantsStandIn 27 = false by kernel_rfl)
  · exact (show Tryz.prog.wantsStandIn 4 = false by kernel_rfl)
set_option maxHeartbeats 20000000 in
theorem proved : Rows.FullSettlesUptoCardSaid :=
  Claim7.holds_tied_plain_at .later [] _ _ _ _ said (fun _ h => by cases h) (by kernel_rfl) (fun _ h => by cases h) fullSettlesUpto_row_tie rfl ⟨rfl, rfl⟩ main_is rfl plain (by as_aux_lemma => kernel_rfl)
end Go.Proofs.YtamlepacljjpiaaGreatDoor.fullSettlesUpto
