/- Slices of strings: slices.Contains, slices.Equal. -/
import Derived.Test.YtifniblffjgfkaaGreatDoorKeysList
namespace Go.Proofs.YtifniblffjgfkaaGreatDoor
open Go.ChangeShapes Go.WideShapes Go.ChangeAt Go.RowKit Go.Shelf
set_option linter.unusedVariables false
set_option linter.unusedSimpArgs false
/- a slice of strings that reads as a list of words -/
def WRd (w : World) (v : Value) (ws : List (List UInt8)) : Prop := SRd w v 1 ws.length (ws.map strV)
theorem WRd.on {w w' : World} {v : Value} {ws : List (List UInt8)} (h : WRd w v ws) (hb : Below w.heap.size w w') : WRd w' v ws := SRd.on h hb
theorem WRd.of_blk {w : World} {g : Nat} {ws : List (List UInt8)} (h : Blk w g 9 (ws.map strV).toArray) (hl : ws.length ≤ 1000001) : WRd w (.slice (some ⟨g, 0, none⟩) ws.length ws.length) ws := by
  refine ⟨by simp, _, _, rfl, Nat.le_refl _, by unfold maxLen; omega, fun _ => ⟨g, 0, rfl, h.lt, fun j u hu => ?_⟩⟩
  rw [Nat.zero_add, h.cell j, List.getElem?_toArray]
  exact hu
theorem WRd.nil (w : World) : WRd w (.slice none 0 0) [] := ⟨by simp, none, 0, rfl, Nat.le_refl _, by unfold maxLen; omega, fun h => absurd h (Nat.lt_irrefl _)⟩
theorem WRd.form {w : World} {v : Value} {ws : List (List UInt8)} (h : WRd w v ws) : ∃ A cap, v = .slice A ws.length cap ∧ (ws.length : Int) ≤ 9223372036854775807 := by
  obtain ⟨_, A, cap, rfl, h1, h2, _⟩ := h
  unfold maxLen at h2
  exact ⟨A, cap, rfl, by omega⟩
theorem WRd.at {w : World} {A : Option Addr} {n cap : Nat} {ws : List (List UInt8)} (h : WRd w (.slice A n cap) ws) {k : Nat} {x : List UInt8} (hx : ws[k]? = some x) : ∃ b o, A = some ⟨b, o, none⟩ ∧ b < w.heap.size ∧ w.cell? ⟨b, o + k, none⟩ = some (.string ⟨x.toArray⟩) := by
  obtain ⟨_, A', cap', hv, h1, h2, h3⟩ := h
  have hk := (List.getElem?_eq_some_iff.1 hx).1
  obtain ⟨b, o, hA, hb, hc⟩ := h3 (by omega)
  injection hv with e1 e2 e3
  refine ⟨b, o, e1.trans hA, hb, hc k _ ?_⟩
  rw [List.getElem?_map, hx]
  rfl
def idxW (x : List UInt8) : List (List UInt8) → Nat → Int
  | [], _ => -1
  | y :: l, k => if x = y then k else idxW x l (k + 1)
theorem idxW_no : ∀ (x : List UInt8) (l : List (List UInt8)) (k : Nat), (0 ≤ idxW x l k) ↔ x ∈ l
  | x, [], k => by simp [idxW]
  | x, y :: l, k => by
    rw [idxW]
    split
    · rename_i h; subst h; simp
    · rename_i h; rw [idxW_no x l (k + 1)]; simp [h]
theorem idxW_big : ∀ (x : List UInt8) (l : List (List UInt8)) (k : Nat), idxW x l k ≤ k + l.length ∧ -1 ≤ idxW x l k
  | x, [], k => by simp [idxW]
  | x, y :: l, k => by
    rw [idxW]
    have := idxW_big x l (k + 1)
    simp only [List.length_cons]
    split <;> omega
set_option maxHeartbeats 2000000 in
theorem windex_any (X : ByteArray) (v : Value) (ws : List (List UInt8)) (w : World) (hv : WRd w v ws) : Calls Tryz.prog 73 #[v, .string X] w fun e w' => e = .returned (.int .i64 (idxW X.data.toList ws 0)) ∧ w = w' := by
  obtain ⟨A, cap, rfl, hmax⟩ := hv.form
  obtain ⟨Q, hQ⟩ : ∃ Q, idxW X.data.toList ws 0 = Q := ⟨_, rfl⟩
  rw [hQ]
  have HQ := Lib.hid hQ
  have HV := Lib.hid hv
  clear hQ hv
  go_enter Tryz.func73, Tryz.ntmps73
  go_wp2_with fail
  go_loop [8] (fun i => ∃ k : Nat, k ≤ ws.length ∧ i = .int .i64 k ∧ Hid (idxW X.data.toList (ws.drop k) k = Q)) (fun i => ws.length - (intOf i).toNat)
  case atStart => exact ⟨0, Nat.zero_le _, rfl, Lib.hid HQ.out⟩
  case round =>
    obtain ⟨k, hk, rfl, hq⟩ := hrel
    by_cases hlt : k < ws.length
    · obtain ⟨y, hy⟩ : ∃ x, ws[k]? = some x := ⟨_, List.getElem?_eq_getElem hlt⟩
      obtain ⟨b, o, rfl, hb, hc⟩ := HV.out.at hy
      obtain ⟨Y, hY⟩ : ∃ Y : ByteArray, (⟨y.toArray⟩ : ByteArray) = Y := ⟨_, rfl⟩
      have hYl : Y.data.toList = y := by rw [← hY]
      rw [hY] at hc
      have hdr : ws.drop k = y :: ws.drop (k + 1) := by rw [List.drop_eq_getElem_cons hlt, (List.getElem?_eq_some_iff.1 hy).2]
      have hq0 := hq.out
      rw [hdr, idxW] at hq0
      by_cases hxy : X.data.toList = y
      · rw [if_pos hxy] at hq0
        have f1 : (X.toList == Y.toList) = true := by rw [toList_of, toList_of, hYl, hxy]; simp
        have HXY : X = Y := by rw [str_of X, str_of Y, hYl, hxy]
        subst HXY
        have HQ0 := Lib.hid hq0
        clear hq hq0 hdr hY hYl hy hxy
        go_wp2_with fail
        all_goals
          go_ret
          exact ⟨ret_int HQ0.out, rfl⟩
      · rw [if_neg hxy] at hq0
        have f1 : (X.toList == Y.toList) = false := by rw [toList_of, toList_of, hYl]; simpa using hxy
        have f2 : ¬ X = Y := fun h => hxy (by rw [h, hYl])
        have HQ0 := Lib.hid hq0
        clear hq hq0 hdr hY hYl hy hxy
        go_wp2_with fail
        go_round
        case rel => exact ⟨k + 1, by omega, by go_num, HQ0⟩
        case measure => simp [intOf]; omega
    · have hk' : k = ws.length := by omega
      have hq0 := hq.out
      rw [hk', List.drop_length, idxW] at hq0
      have HQ0 := Lib.hid hq0
      clear hk' hq0 hq
      go_wp2_with fail
      go_ret
      exact ⟨ret_int HQ0.out, rfl⟩
theorem contains_any (X : ByteArray) (v : Value) (ws : List (List UInt8)) (w : World) (hv : WRd w v ws) : Calls Tryz.prog 40 #[v, .string X] w fun e w' => e = .returned (.bool (decide (X.data.toList ∈ ws))) ∧ w = w' := by
  have hq := idxW_no X.data.toList ws 0
  obtain ⟨hb1, hb2⟩ := idxW_big X.data.toList ws 0
  have hI := windex_any X v ws w hv
  obtain ⟨A, cap, rfl, hmax⟩ := hv.form
  obtain ⟨Q, hQ⟩ : ∃ Q, idxW X.data.toList ws 0 = Q := ⟨_, rfl⟩
  rw [hQ] at hq hI hb1 hb2
  have HI := Lib.hid hI
  have hbd : Q ≤ 9223372036854775807 := by omega
  have hdec : decide (X.data.toList ∈ ws) = decide (0 ≤ Q) := decide_eq_decide.2 hq.symm
  rw [hdec]
  clear hq hI hQ hdec hb1
  go_enter Tryz.func40, Tryz.ntmps40
  go_wp2_with fail
  refine HI.out.mono ?_
  rintro e w' ⟨rfl, rfl⟩
  go_wp2_with fail
  go_ret
  exact ⟨rfl, rfl⟩
end Go.Proofs.YtifniblffjgfkaaGreatDoor
