/- keys.List. -/
import Derived.Test.YtifniblffjgfkaaGreatDoorShelf
import Derived.Test.YtifniblffjgfkaaGreatDoorGbase
import Derived.Test.YtifniblffjgfkaaGreatDoorMapBool
import Derived.Test.YtifniblffjgfkaaGreatDoorKeysLaw
import Derived.StringKeys
import Derived.Maps.StringElems
import Derived.Maps.OwnSet
import Derived.Maps.Views
namespace Go.Proofs.YtifniblffjgfkaaGreatDoor
open Go.ChangeShapes Go.WideShapes Go.ChangeAt Go.RowKit Go.Shelf
set_option linter.unusedVariables false
set_option linter.unusedSimpArgs false
def strV (l : List UInt8) : Value := .string ⟨l.toArray⟩
theorem splitK_at (s : ByteArray) (w : World) (hs : s.size ≤ 1000000) (hS : w.ShapedOpen Tryz.prog) : Calls Tryz.prog 108 #[.string s, .string ⟨#[44]⟩] w fun e w' =>
    e = .returned (.slice (some ⟨w.heap.size, 0, none⟩) (splitC 44 s.data.toList).length (splitC 44 s.data.toList).length) ∧ w' = w.alloc (.cells ((splitC 44 s.data.toList).map strV).toArray 9) := by
  have h := Tryz.strings_Split_shaped s ⟨#[44]⟩ w hS (by omega) (by decide)
  have h1 : (Lib.splitB ⟨#[44]⟩ 0 (Lib.countB s ⟨#[44]⟩) s).map (·.data.toList) = splitC 44 s.data.toList := by
    rw [Lib.splitB_data]
    exact split_one 44 s.data.toList
  have h2 : Lib.countB s ⟨#[44]⟩ + 1 = (splitC 44 s.data.toList).length := by
    rw [← h1, List.length_map]
    exact (Lib.splitB_all ⟨#[44]⟩ (by decide) 0 _ s rfl).symm
  have h3 : (Lib.splitB ⟨#[44]⟩ 0 (Lib.countB s ⟨#[44]⟩) s).map Value.string = (splitC 44 s.data.toList).map strV := by
    rw [← h1, List.map_map]
    apply List.map_congr_left
    intro x _
    show Value.string x = .string ⟨x.data.toList.toArray⟩
    rw [← str_of]
  rw [h2, h3] at h
  exact h
def ListIs (w : World) (g : Nat) (l : List UInt8) (e : Ending) : Prop := match listP l with
  | none => e = .returned (.tuple #[.slice none 0 0, .iface 43 (.int .i64 3)])
  | some ws => e = .returned (.tuple #[.slice (some ⟨g, 0, none⟩) ws.length ws.length, .nilIface]) ∧ Blk w g 9 (ws.map strV).toArray
theorem listIs_none {w : World} {g : Nat} {l : List UInt8} (h : listP l = none) : ListIs w g l (.returned (.tuple #[.slice none 0 0, .iface 43 (.int .i64 3)])) := by
  unfold ListIs
  rw [h]
theorem listIs_some {w : World} {g : Nat} {l : List UInt8} {ws : List (List UInt8)} {e : Ending} (h : listP l = some ws) (he : e = .returned (.tuple #[.slice (some ⟨g, 0, none⟩) ws.length ws.length, .nilIface])) (hB : Blk w g 9 (ws.map strV).toArray) : ListIs w g l e := by
  unfold ListIs
  rw [h]
  exact ⟨he, hB⟩
def Seen (D : DataW Unit) (l : List (List UInt8)) : Prop := ∀ x : List UInt8, D.atKey (.string x) (.lit (.bool false)) = .lit (.bool (decide (x ∈ l)))
theorem Seen.nil : Seen (.map []) [] := fun x => rfl
theorem Seen.put {D : DataW Unit} {l : List (List UInt8)} (h : Seen D l) (hD : Maps.IsMap D) (y : List UInt8) : Seen (D.put (.string y) (.lit (.bool true))) (l ++ [y]) := by
  intro x
  by_cases hx : x = y
  · subst hx
    rw [Maps.atKey_put_same hD (show WideAt.IsKeyLit (.string x) from trivial)]
    simp
  · rw [Maps.atKey_put_other (fun e => hx (by injection e)), h x]
    congr 2
    simp [hx]
theorem strV_size (l : List UInt8) (x : List UInt8) (h : x ∈ splitC 44 l) : (⟨x.toArray⟩ : ByteArray).size ≤ l.length := by
  rw [size_mkl]
  exact splitC_short 44 l x h
theorem okWords_take {l : List (List UInt8)} {k : Nat} {x : List UInt8} (hx : l[k]? = some x) (h : okWords [] (l.take k) = true) : okWords [] (l.take (k + 1)) = true ↔ x ≠ [] ∧ x ∉ l.take k := by
  have hk := (List.getElem?_eq_some_iff.1 hx).1
  have he := (List.getElem?_eq_some_iff.1 hx).2
  rw [List.take_succ_eq_append_getElem hk, he]
  exact okWords_snoc _ x h
theorem okWords_pre {l : List (List UInt8)} {k : Nat} (h : okWords [] l = true) : okWords [] (l.take k) = true := by
  rw [okWords_iff] at h ⊢
  exact ⟨fun x hx => h.1 x (List.mem_of_mem_take hx), h.2.sublist (List.take_sublist _ _)⟩
theorem list_bad {l : List UInt8} {k : Nat} {x : List UInt8} (hx : (splitC 44 l)[k]? = some x) (h : okWords [] ((splitC 44 l).take k) = true) (hb : ¬ (x ≠ [] ∧ x ∉ (splitC 44 l).take k)) : listP l = none := by
  unfold listP
  rw [if_neg]
  intro ho
  exact hb ((okWords_take hx h).1 (okWords_pre ho))
set_option maxRecDepth 20000 in
set_option maxHeartbeats 4000000 in
theorem list_any (s : ByteArray) (w : World) (hs : s.size ≤ 1000000) (hS : w.ShapedOpen Tryz.prog) : Calls Tryz.prog 116 #[.string s] w fun e w' => ListIs w' w.heap.size s.data.toList e ∧ Below w.heap.size w w' := by
  have hmm := @run_makeMap Tryz.prog
  have ub : (Tryz.prog).underlying 4 = some .bool := by kernel_rfl
  have us : (Tryz.prog).underlying 9 = some .string := by kernel_rfl
  have um : (Tryz.prog).underlying 134 = some (.map 9 4) := by kernel_rfl
  have hlen := splitC_len 44 s.data.toList
  rw [len_of] at hlen
  have hshort := splitC_short 44 s.data.toList
  rw [len_of] at hshort
  obtain ⟨ws, hws⟩ : ∃ ws, splitC 44 s.data.toList = ws := ⟨_, rfl⟩
  have hsp := splitK_at s w hs hS
  rw [hws] at hlen hshort hsp
  have HWS := Lib.hid hws
  have HSHORT := Lib.hid hshort
  have HSP := Lib.hid hsp
  clear hws hshort hsp
  have hlenI : (ws.length : Int) ≤ 1000001 := by omega
  go_enter Tryz.func116, Tryz.ntmps116
  go_wp2_with fail
  refine HSP.out.mono ?_
  rintro e w' ⟨rfl, rfl⟩
  go_wp2_with fail
  obtain ⟨g, hg⟩ : ∃ g, w.heap.size = g := ⟨_, rfl⟩
  have o0 := World.ownsMap_made (H := Unit) (w.alloc (.cells (ws.map strV).toArray 9)) Tryz.prog 9 (plainElem Tryz.prog 4)
  have hB0 : Blk ((w.alloc (.cells (ws.map strV).toArray 9)).alloc (.map #[] 0)) w.heap.size 9 (ws.map strV).toArray := (Blk.new w _ _).alloc _
  have hb0 : Below w.heap.size w ((w.alloc (.cells (ws.map strV).toArray 9)).alloc (.map #[] 0)) := ((Below.refl _ _).alloc (Nat.le_refl _) _).alloc (by simp) _
  have hb1 : (w.alloc (.cells (ws.map strV).toArray 9)).heap.size = w.heap.size + 1 := by simp
  rw [hb1] at o0
  obtain ⟨W0, hW0⟩ : ∃ W0 : World, (w.alloc (.cells (ws.map strV).toArray 9)).alloc (.map #[] 0) = W0 := ⟨_, rfl⟩
  rw [hW0] at o0 hB0 hb0 ⊢
  try rw [hb1]
  rw [hg] at o0 hB0 hb0 ⊢
  clear hW0 hb1
  go_loopw [13] (fun i wr => ∃ (k : Nat) (D : DataW Unit), k ≤ ws.length ∧ i = .int .i64 k ∧ wr.ownsMap Tryz.prog 9 (plainElem Tryz.prog 4) (g + 1) k D ∧ Seen D (ws.take k) ∧ okWords [] (ws.take k) = true ∧ Blk wr g 9 (ws.map strV).toArray ∧ Below g w wr) (fun i _ => ws.length - (intOf i).toNat)
  case atStart => exact ⟨0, _, Nat.zero_le _, rfl, o0, Seen.nil, rfl, hB0, hb0⟩
  case round =>
    obtain ⟨k, D, hk, rfl, ho, hsn, hok, hB, hbr⟩ := hrel
    by_cases hlt : k < ws.length
    · obtain ⟨x, hx⟩ : ∃ x, ws[k]? = some x := ⟨_, List.getElem?_eq_getElem hlt⟩
      obtain ⟨X, hX⟩ : ∃ X : ByteArray, (⟨x.toArray⟩ : ByteArray) = X := ⟨_, rfl⟩
      have hXl : X.data.toList = x := by rw [← hX]
      have hXz : X.size ≤ 1000000 := by
        rw [← len_of, hXl]
        have := HSHORT.out x (List.mem_of_getElem? hx)
        omega
      have hc : wr.cell? ⟨g, k, none⟩ = some (.string X) := by
        rw [hB.cell k, List.getElem?_toArray, List.getElem?_map, hx, ← hX]
        rfl
      have hkey : keyOf Tryz.prog 9 (.string X) = some (.string X.data.toList) := WideMaps.keyOf_string_mk us (by unfold maxLen; omega)
      obtain ⟨c, hrun, hat⟩ := lookup_bool ho (Maps.string_keyed us) um ub (by go_simp) hkey
      rw [hXl, hsn] at hat
      have hcx : c = decide (x ∈ ws.take k) := by injection hat with h; injection h with h; exact h.symm
      have ht : X.toList = x := by rw [toList_of, hXl]
      by_cases hx0 : x = []
      · have e0 : X.toList = [] := ht.trans hx0
        have e1 : X.toList.isEmpty = true := by rw [e0]; rfl
        have HBAD := Lib.hid (list_bad (l := s.data.toList) (by rw [HWS.out]; exact hx) (by rw [HWS.out]; exact hok) (fun h => h.1 hx0))
        clear ht hat hcx hrun hkey hx
        go_wp2_with fail
        go_ret2
        exact ⟨listIs_none HBAD.out, by rw [hg]; exact hbr⟩
      · have e0 : ¬ X.toList = [] := by rw [ht]; exact hx0
        have e1 : X.toList.isEmpty = false := by
          rcases hl : X.toList with _ | ⟨y, l⟩
          · exact absurd hl e0
          · rfl
        by_cases hin : x ∈ ws.take k
        · obtain rfl : c = true := by rw [hcx]; simpa using hin
          have HBAD := Lib.hid (list_bad (l := s.data.toList) (by rw [HWS.out]; exact hx) (by rw [HWS.out]; exact hok) (fun h => h.2 (by rw [HWS.out]; exact hin)))
          clear ht hat hcx hkey hx
          go_wp2_with fail
          go_ret2
          exact ⟨listIs_none HBAD.out, by rw [hg]; exact hbr⟩
        · obtain rfl : c = false := by rw [hcx]; simpa using hin
          obtain ⟨W1, r1, o1, g1⟩ := ho.update (Maps.string_keyed us) um (by unfold maxLen; omega) hkey (plainElem_bool ub true)
          have hok1 : okWords [] (ws.take (k + 1)) = true := (okWords_take hx hok).2 ⟨hx0, hin⟩
          have hsn1 : Seen (D.put (.string X.data.toList) (.lit (.bool true))) (ws.take (k + 1)) := by
            rw [hXl, List.take_succ_eq_append_getElem hlt, (List.getElem?_eq_some_iff.1 hx).2]
            exact hsn.put ho.isMap x
          have hB1 : Blk W1 g 9 (ws.map strV).toArray := hB.grown g1 (by intro h; injection h with h; omega)
          have hb1 : Below g w W1 := hbr.grown g1 (Nat.le_of_lt hB.lt) (by rintro j h; injection h with h; omega)
          have HOK := Lib.hid hok1
          have HSN := Lib.hid hsn1
          clear ht hat hcx hkey hx hok1 hsn1
          go_wp2_with fail
          go_roundw
          case rel => exact ⟨k + 1, _, by omega, by go_num, o1, HSN.out, HOK.out, hB1, hb1⟩
          case measure => simp [intOf]; omega
    · have hk' : k = ws.length := by omega
      have HLP : Hid (listP s.data.toList = some ws) := Lib.hid (by
        unfold listP
        rw [HWS.out, if_pos (by rw [hk', List.take_length] at hok; exact hok)])
      clear hk' hok hsn
      go_wp2_with fail
      go_ret2
      exact ⟨listIs_some HLP.out (by rw [hg]; try rfl) (by rw [hg]; exact hB), by rw [hg]; exact hbr⟩
end Go.Proofs.YtifniblffjgfkaaGreatDoor
