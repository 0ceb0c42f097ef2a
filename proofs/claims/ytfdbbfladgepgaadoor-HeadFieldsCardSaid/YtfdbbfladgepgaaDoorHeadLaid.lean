/- What the listed tables give: of a row that lists strings.asciiSpace and the powers of ten. -/
import Derived.Test.YtfdbbfladgepgaaDoorHeadRow
import Derived.Test.YtfdbbfladgepgaaDoorLaidMore
import Derived.Lib.LaidU8
import Derived.ProofKit
namespace Go.Proofs.YtfdbbfladgepgaaDoor
open Go.ChangeShapes Go.WideShapes Go.ChangeAt Go.RowKit
set_option linter.unusedVariables false
theorem tab_of_reads {P : Program} {W : World} {name : String} {k : IntKind} {zs : List Int} {g : Nat} {t e : TypeId} {n : Nat} {d : DataW Unit} (hd : d = Lib.tabData k zs)
    (hg : P.globalNamed name = some g) (hty : (P.globals[g]?).map (·.type) = some t) (ht : P.underlying t = some (.array n e)) (he : P.underlying e = some (.int k)) (hce : P.cellsOf e = 1) (hct : P.cellsOf t = n)
    (h : Lib.VarReads P W name d) : Lib.TabIs P W name k zs := by
  subst hd
  obtain ⟨g', t', cs, fuel, p, hg', ht', hvar, hx⟩ := h
  obtain rfl := Option.some.inj (hg.symm.trans hg')
  obtain rfl := Option.some.inj (hty.symm.trans ht')
  unfold Lib.TabIs
  rw [hvar, ← Lib.cells_of_tab ht he hce hct hx]
set_option maxRecDepth 100000 in
theorem space_data : (Rows.laid_strings_asciiSpace : DataW Unit) = Lib.tabData .u8 Lib.asciiSpaceTab := by kernel_rfl
set_option maxRecDepth 100000 in
theorem pow_data : (Rows.laid_internal_strconv_uint64pow10 : DataW Unit) = Lib.tabData .u64 Lib.pow10Tab := by kernel_rfl
theorem tabs_of {L : List (String × DataW Unit)} {W : World} (h1 : ("strings.asciiSpace", Rows.laid_strings_asciiSpace) ∈ L) (h2 : ("internal/strconv.uint64pow10", Rows.laid_internal_strconv_uint64pow10) ∈ L) (h : laidMet Tryd.prog L W) : Tabs W :=
  ⟨tab_of_reads space_data (g := 0) (t := 69) (e := 5) (n := 256) (by kernel_rfl) (by kernel_rfl) (by kernel_rfl) (by kernel_rfl) (by kernel_rfl) (by kernel_rfl) (Lib.laidMet.reads h h1),
   tab_of_reads pow_data (g := 7) (t := 125) (e := 53) (n := 20) (by kernel_rfl) (by kernel_rfl) (by kernel_rfl) (by kernel_rfl) (by kernel_rfl) (by kernel_rfl) (Lib.laidMet.reads h h2)⟩
theorem laid_plain {L : List (String × DataW Unit)} {W : World} (hf : (L.filter fun x => x.2.handleName?.isSome) = []) (h : laidMetH Tryd.prog L W) : laidMet Tryd.prog L W := by
  unfold laidMetH at h
  rw [hf] at h
  exact h
theorem metH_plain {L : List (String × DataW Unit)} {W : World} (hf : (L.filter fun x => x.2.handleName?.isSome) = []) (h : laidMet Tryd.prog L W) : laidMetH Tryd.prog L W := by
  unfold laidMetH
  rw [hf]
  exact h
theorem mem_of {α : Type} {l : List α} {i : Nat} {x : α} (h : l[i]? = some x) : x ∈ l := List.mem_of_getElem? h
end Go.Proofs.YtfdbbfladgepgaaDoor
