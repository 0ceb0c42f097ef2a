/- What a target is told: its plain form; the contracts of target.text and target.Has. -/
import Derived.Test.YtamlepacljjpiaaGreatDoorGnego
import Derived.Test.YtamlepacljjpiaaGreatDoorStrSl
namespace Go.Proofs.YtamlepacljjpiaaGreatDoor
open Go.ChangeShapes Go.WideShapes Go.ChangeAt Go.RowKit Go.Shelf
set_option linter.unusedVariables false
abbrev PoL := List (ByteArray × Int)
def poCells (l : PoL) : List Value := l.flatMap fun p => [.string p.1, .int .i64 p.2]
theorem poCells_len (l : PoL) : (poCells l).length = 2 * l.length := by
  unfold poCells
  induction l with
  | nil => rfl
  | cons p l ih => simp only [List.flatMap_cons, List.length_append, List.length_cons, List.length_nil]; omega
theorem poCells_at (l : PoL) (k : Nat) (p : ByteArray × Int) (h : l[k]? = some p) : (poCells l)[2 * k]? = some (.string p.1) ∧ (poCells l)[2 * k + 1]? = some (.int .i64 p.2) := by
  unfold poCells
  induction l generalizing k with
  | nil => cases h
  | cons q l ih =>
    match k with
    | 0 => cases h; exact ⟨rfl, rfl⟩
    | k + 1 =>
      have := ih k (by simpa using h)
      rw [show 2 * (k + 1) = 2 * k + 2 by omega, show 2 * k + 2 + 1 = 2 * k + 1 + 2 by omega]
      exact this
structure Cfg where
  tg : List (List UInt8)
  po : PoL
  us : PairL
  sn : ByteArray
  ss : ByteArray
  lim : Int
  own : PairL
/- what a conf's value reads as -/
def CfgAt (w : World) (tv pv uv ov : Value) (c : Cfg) : Prop := WRd w tv c.tg ∧ SRd w pv 2 c.po.length (poCells c.po) ∧ SRd w uv 2 c.us.length (pairCells c.us) ∧ SRd w ov 2 c.own.length (pairCells c.own)
theorem CfgAt.on {w w' : World} {tv pv uv ov : Value} {c : Cfg} (h : CfgAt w tv pv uv ov c) (hb : Below w.heap.size w w') : CfgAt w' tv pv uv ov c := ⟨h.1.on hb, h.2.1.on hb, h.2.2.1.on hb, h.2.2.2.on hb⟩
def bsmall (s : ByteArray) : Prop := s.size ≤ 140737488351232
def lsmall (l : List UInt8) : Prop := l.length ≤ 140737488351232
structure Cfg.Small (c : Cfg) : Prop where
  tg : ∀ t ∈ c.tg, lsmall t
  po : ∀ p ∈ c.po, bsmall p.1 ∧ -9223372036854775808 ≤ p.2 ∧ p.2 ≤ 9223372036854775807
  us : ∀ p ∈ c.us, psmall p
  sn : bsmall c.sn
  ss : bsmall c.ss
  lim : -9223372036854775808 ≤ c.lim ∧ c.lim ≤ 9223372036854775807
  own : ∀ p ∈ c.own, psmall p
def cfgV (tv pv uv ov : Value) (c : Cfg) : Value := .agg #[tv, pv, uv, .string c.sn, .string c.ss, .int .i64 c.lim, ov]
def txtB (l : List UInt8) : Bool := (!l.isEmpty) && (decide (l.length ≤ 100) && valB l)
set_option maxHeartbeats 2000000 in
theorem text_any (s : ByteArray) (w : World) (hs : bsmall s) : Calls Tryz.prog 94 #[.string s, .int .i64 100] w fun e w' => e = .returned (.bool (txtB s.data.toList)) ∧ w = w' := by
  unfold bsmall at hs
  obtain ⟨l, hl⟩ : ∃ l, s.data.toList = l := ⟨_, rfl⟩
  have ht : s.toList = l := (toList_of s).trans hl
  have hz : s.size = l.length := by rw [← len_of, hl]
  have HV := value_any s
  rw [hl] at HV ⊢
  obtain ⟨B, hB⟩ : ∃ B, valB l = B := ⟨_, rfl⟩
  rw [hB] at HV
  unfold txtB
  rw [hB]
  have HL := Lib.hid hz
  go_enter Tryz.func94, Tryz.ntmps94
  rcases l with _ | ⟨x, r⟩
  · have e0 : s.toList.isEmpty = true := by rw [ht]; rfl
    clear hl hz hB ht
    go_wp2_with fail
    go_ret
    exact ⟨rfl, rfl⟩
  · have e0 : s.toList.isEmpty = false := by rw [ht]; rfl
    rw [show (!(x :: r).isEmpty) = true from rfl, Bool.true_and, ← HL.out]
    by_cases h1 : s.size ≤ 100
    · rw [show decide (s.size ≤ 100) = true by simpa using h1, Bool.true_and]
      clear hl hz hB ht
      go_wp2_with fail
      refine (HV w (by omega)).mono ?_
      rintro e w' ⟨rfl, rfl⟩
      go_wp2_with fail
      go_ret
      cases B <;> exact ⟨rfl, rfl⟩
    · rw [show decide (s.size ≤ 100) = false by simpa using h1, Bool.false_and]
      clear hl hz hB ht
      go_wp2_with fail
      go_ret
      exact ⟨rfl, rfl⟩
set_option maxHeartbeats 2000000 in
theorem has_any (c : Cfg) (tv pv uv ov : Value) (X : ByteArray) (w : World) (hv : CfgAt w tv pv uv ov c) : Calls Tryz.prog 61 #[cfgV tv pv uv ov c, .string X] w fun e w' => e = .returned (.bool (decide (X.data.toList ∈ c.tg))) ∧ Below w.heap.size w w' := by
  obtain ⟨ws, hws⟩ : ∃ ws, c.tg = ws := ⟨_, rfl⟩
  have hvt := hv.1
  rw [hws] at hvt ⊢
  obtain ⟨A, cap, rfl, hmax⟩ := hvt.form
  obtain ⟨x0, hx0⟩ : ∃ x0, X.data.toList = x0 := ⟨_, rfl⟩
  have HX0 := Lib.hid hx0
  rw [hx0]
  obtain ⟨Q, hQ⟩ : ∃ Q, decide (x0 ∈ ws) = Q := ⟨_, rfl⟩
  rw [hQ]
  have HQ := Lib.hid hQ
  have HV := Lib.hid hvt
  unfold cfgV
  clear hQ hv hvt hx0
  go_enter Tryz.func61, Tryz.ntmps61
  go_wp2_with fail
  obtain ⟨W1, hW1⟩ : ∃ W1 : World, w.alloc (.cells #[.slice A ws.length cap, pv, uv, .string c.sn, .string c.ss, .int .i64 c.lim, ov] 29) = W1 := ⟨_, rfl⟩
  have hb1 : Below w.heap.size w W1 := by rw [← hW1]; exact (Below.refl _ _).alloc (Nat.le_refl _) _
  rw [hW1]
  go_loopw [10] (fun i wr => ∃ k : Nat, k ≤ ws.length ∧ i = .int .i64 k ∧ Hid (x0 ∉ ws.take k) ∧ Below w.heap.size w wr) (fun i _ => ws.length - (intOf i).toNat)
  case atStart => exact ⟨0, Nat.zero_le _, rfl, Lib.hid (by simp), hb1⟩
  case round =>
    obtain ⟨k, hk, rfl, hq, hbr⟩ := hrel
    by_cases hlt : k < ws.length
    · obtain ⟨y, hy⟩ : ∃ x, ws[k]? = some x := ⟨_, List.getElem?_eq_getElem hlt⟩
      obtain ⟨b, o, rfl, hb, hc⟩ := (HV.out.on hbr).at hy
      have htk : ws.take (k + 1) = ws.take k ++ [y] := by rw [List.take_add_one, hy]; rfl
      obtain ⟨Y, hY⟩ : ∃ Y : ByteArray, (⟨y.toArray⟩ : ByteArray) = Y := ⟨_, rfl⟩
      have hYl : Y.data.toList = y := by rw [← hY]
      rw [hY] at hc
      by_cases hxy : x0 = y
      · have e0 : (Y.toList == X.toList) = true := by rw [toList_of, toList_of, HX0.out, hYl, hxy]; simp
        have hXY : Y = X := by rw [str_of X, str_of Y, hYl, HX0.out, hxy]
        subst hXY
        have : Q = true := by rw [← HQ.out, hxy]; simpa using List.mem_of_getElem? hy
        subst this
        clear htk hy hY hYl hxy
        go_wp2_with fail
        go_ret
        exact ⟨rfl, hbr⟩
      · have e0 : (Y.toList == X.toList) = false := by rw [toList_of, toList_of, HX0.out, hYl]; simpa using fun h => hxy h.symm
        have e1 : ¬ Y = X := fun h => hxy (by rw [← HX0.out, ← h, hYl])
        have hq' : Hid (x0 ∉ ws.take (k + 1)) := Lib.hid (by rw [htk]; simpa using ⟨hq.out, hxy⟩)
        clear htk hy hY hYl hxy
        go_wp2_with fail
        go_roundw
        · exact ⟨k + 1, by omega, by first | rfl | simp, hq', hbr⟩
        · show ws.length - ((k : Int) + 1).toNat < ws.length - (k : Int).toNat
          omega
    · have : Q = false := by
        have h1 := hq.out
        rw [List.take_of_length_le (by omega)] at h1
        rw [← HQ.out]
        simpa using h1
      subst this
      go_wp2_with fail
      go_ret
      exact ⟨rfl, hbr⟩
end Go.Proofs.YtamlepacljjpiaaGreatDoor
