/- The contract of chap.Find: the first user of a name. -/
import Derived.Test.YtlbojhmhcaecjaaDoorPairsRight
import Derived.Laws.ResultCell
import Derived.Laws.Rows
namespace Go.Proofs.YtlbojhmhcaecjaaDoor
open Go.ChangeShapes Go.WideShapes Go.ChangeAt Go.RowKit
set_option linter.unusedVariables false
def findU : PairL → ByteArray → Option (ByteArray × ByteArray)
  | [], _ => none
  | p :: l, k => if p.1.data.toList = k.data.toList then some p else findU l k
def findUV : Option (ByteArray × ByteArray) → Value
  | none => .tuple #[.agg #[.string ⟨#[]⟩, .string ⟨#[]⟩], .bool false]
  | some u => .tuple #[.agg #[.string u.1, .string u.2], .bool true]
theorem results_sb {P : Program} {fn : Func} {p u : Tmp} {ty : TypeId} (h : fn.results = #[.cell p ty, .tmp u]) (tmps : Array Value) (w : World) (g : Nat) (t : TypeId) (cs : Array Value) (d : TypeDesc) (b : Value)
    (hp : tmps.getD p undef = .pointer (some ⟨g, 0, none⟩)) (hq : tmps.getD u undef = b) (hg : Blk w g t cs)
    (hu : P.underlying ty = some d) (hd : (match d with | .struct _ | .array _ _ => true | _ => false) = true) (hi : (P.info? ty).map (·.size) = some cs.size) :
    (results fn tmps).run P w = .ok (.tuple #[.agg cs, b]) w := by
  rw [results_cell_tmp h, hp, hq]
  have := run_loadVar_row (P := P) w g t ty cs (0, 0) d hg hu hd hi
  simp [asAddr, this]
set_option maxHeartbeats 2000000 in
theorem findU_any (l : PairL) (v : Value) (key : ByteArray) (w : World) (hv : SRd w v 2 l.length (pairCells l)) : Calls Tryd.prog 23 #[v, .string key] w fun e w' =>
    e = .returned (findUV (findU l key)) ∧ Below w.heap.size w w' := by
  obtain ⟨hlen, A, cap, rfl, hcap, hmax, hcell⟩ := hv
  have HC := Lib.hid hcell
  unfold maxLen at hmax
  clear hcell hlen
  go_enter Tryd.func23, Tryd.ntmps23
  go_wp2_with fail
  go_loopw [10] (fun i wr => ∃ k : Nat, k ≤ l.length ∧ i = .int .i64 k ∧ findU l key = findU (l.drop k) key ∧ Below w.heap.size w wr ∧ Blk wr w.heap.size 46 #[.string ⟨#[]⟩, .string ⟨#[]⟩]) (fun i _ => l.length - (intOf i).toNat)
  case atStart => exact ⟨0, Nat.zero_le _, rfl, by rw [List.drop_zero], (Below.refl _ _).alloc (Nat.le_refl _) _, Blk.new w _ _⟩
  case round =>
    obtain ⟨k, hk, rfl, hgo, hbw, hRB⟩ := hrel
    have r0 := hRB.cell 0
    have r1 := hRB.cell 1
    have rz0 := hRB.frozen 0
    have rz1 := hRB.frozen 1
    have HG := Lib.hid hgo
    clear hgo
    have hs0 := hbw.size
    by_cases hlt : k < l.length
    · obtain ⟨p, hp⟩ : ∃ p, l[k]? = some p := ⟨_, List.getElem?_eq_getElem hlt⟩
      obtain ⟨b, o, rfl, hbl, hcc⟩ := HC.out (by omega)
      have hc := pairCells_at l k p hp
      have c0 := (hbw.cell (p := ⟨b, o + 2 * k, none⟩) hbl).trans (hcc _ _ hc.1)
      have c1 := (hbw.cell (p := ⟨b, o + (2 * k + 1), none⟩) hbl).trans (hcc _ _ hc.2)
      rw [Nat.mul_comm] at c0 c1
      rw [← Nat.add_assoc] at c1
      have hdrop : l.drop k = p :: l.drop (k + 1) := by
        rw [List.drop_eq_getElem_cons hlt]
        rw [List.getElem?_eq_getElem hlt] at hp
        rw [Option.some.inj hp]
      have HD := Lib.hid hdrop
      clear hc hcc hdrop hp
      obtain ⟨p1, p2⟩ := p
      simp only at c0 c1
      by_cases he : p1.data.toList = key.data.toList
      · have f1 : (p1.toList == key.toList) = true := by rw [toList_of, toList_of, he]; simp
        have hz : findU l key = some (p1, p2) := by rw [HG.out, HD.out, findU, if_pos he]
        have HZ := Lib.hid hz
        clear hz he r0 r1 rz0 rz1
        have hRA := hRB.alloc (.cells #[.string p1, .string p2] 46)
        have r0 := hRA.cell 0
        have r1 := hRA.cell 1
        have rz0 := hRA.frozen 0
        have rz1 := hRA.frozen 1
        go_wp2_with fail
        have hB2 := (hRA.put 0 (.string p1)).put 1 (.string p2)
        refine bodyPost_ret (results_sb rfl _ _ w.heap.size _ _ _ _ rfl rfl hB2 Tryd.underlying46 rfl (by kernel_rfl)) rfl ⟨?_, ?_⟩
        · rw [HZ.out]; rfl
        · exact ((hbw.alloc hs0 _).setCell (Nat.le_refl _) _).setCell (Nat.le_refl _) _
      · have f1 : (p1.toList == key.toList) = false := by rw [toList_of, toList_of]; simpa using he
        have hz : findU l key = findU (l.drop (k + 1)) key := by rw [HG.out, HD.out, findU, if_neg he]
        have HZ := Lib.hid hz
        clear hz he
        go_wp2_with fail
        go_roundw
        case rel => exact ⟨k + 1, by omega, by go_num, HZ.out, hbw.alloc hs0 _, hRB.alloc _⟩
        case measure => simp [intOf]; omega
    · have hz : findU l key = none := by rw [HG.out, List.drop_eq_nil_of_le (by omega), findU]
      have HZ := Lib.hid hz
      clear hz
      go_wp2_with fail
      have hB2 := (hRB.put 0 (.string ⟨#[]⟩)).put 1 (.string ⟨#[]⟩)
      refine bodyPost_ret (results_sb rfl _ _ w.heap.size _ _ _ _ rfl rfl hB2 Tryd.underlying46 rfl (by kernel_rfl)) rfl ⟨?_, ?_⟩
      · rw [HZ.out]; rfl
      · exact (hbw.setCell (Nat.le_refl _) _).setCell (Nat.le_refl _) _
end Go.Proofs.YtlbojhmhcaecjaaDoor
