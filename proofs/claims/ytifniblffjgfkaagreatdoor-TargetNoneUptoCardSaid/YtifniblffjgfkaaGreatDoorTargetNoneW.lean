/- TargetNone: the walk. -/
import Derived.Test.YtifniblffjgfkaaGreatDoorTargetFact
import Derived.Test.YtifniblffjgfkaaGreatDoorGbase
namespace Go.Proofs.YtifniblffjgfkaaGreatDoor
open Go.ChangeShapes Go.WideShapes Go.ChangeAt Go.RowKit Go.Shelf
set_option linter.unusedVariables false
set_option linter.unusedSimpArgs false
theorem box7 {w : World} {g : Nat} {t : TypeId} {a b c d e f h : Value} (hB : Blk w g t #[a, b, c, d, e, f, h]) : w.cell? ⟨g, 0, none⟩ = some a ∧ w.cell? ⟨g, 1, none⟩ = some b ∧ w.cell? ⟨g, 2, none⟩ = some c ∧ w.cell? ⟨g, 3, none⟩ = some d ∧ w.cell? ⟨g, 4, none⟩ = some e ∧ w.cell? ⟨g, 5, none⟩ = some f ∧ w.cell? ⟨g, 6, none⟩ = some h :=
  ⟨hB.cell 0, hB.cell 1, hB.cell 2, hB.cell 3, hB.cell 4, hB.cell 5, hB.cell 6⟩
set_option maxRecDepth 20000 in
set_option maxHeartbeats 8000000 in
theorem targetNone_law (c : Cfg) (tv pv uv ov : Value) (X : ByteArray) (w : World) (hv : CfgAt w tv pv uv ov c) (hc : c.Small) (hlen : c.tg.length * 16 ≤ 140737488351232 ∧ c.po.length * 24 ≤ 140737488351232 ∧ c.us.length * 32 ≤ 140737488351232 ∧ c.own.length * 32 ≤ 140737488351232)
    (hX : X.size ≤ 140737488351232) (hbulk : c.tg.length + c.po.length + c.us.length ≤ 1048576) (V : Env w) :
    Calls Tryz.prog 10 #[cfgV tv pv uv ov c, .string X] w fun e w' => e = .returned (.bool true) ∧ Below w.heap.size w w' := by
  have hlim : (c.tg.length * (c.po.length + 1) + 1) * 32 ≤ 140737488355328 := by
    have : c.tg.length * (c.po.length + 1) ≤ 1048576 * 1048577 := Nat.mul_le_mul (by omega) (by omega)
    omega
  obtain ⟨g, hg⟩ : ∃ g, w.heap.size = g := ⟨_, rfl⟩
  have hlist := fun w' (h : Below w.heap.size w w') => tlist_any c tv pv uv ov X false w' (hv.on h) hc (V.on h).T hlim
  have hhas := fun w' (h : Below w.heap.size w w') => has_any c tv pv uv ov X w' (hv.on h)
  have hcrow := fun w' (h : Below w.heap.size w w') => crowded_any c tv pv uv ov w' (hv.on h) hc
  have hcon := fun w' (h : Below w.heap.size w w') => contains_any X tv c.tg w' (hv.1.on h)
  obtain ⟨P, hP⟩ : ∃ P, tlistP c X.data.toList false = P := ⟨_, rfl⟩
  obtain ⟨M, hM⟩ : ∃ M, decide (X.data.toList ∈ c.tg) = M := ⟨_, rfl⟩
  have hPM : (M = false → P = none) ∧ (M = true → ∃ l, P = some l ∧ 0 < l.length) := by
    rw [← hP, ← hM]
    constructor
    · intro h
      unfold tlistP
      rw [if_pos ⟨rfl, by simpa using h⟩]
    · intro h
      have hin : X.data.toList ∈ c.tg := by simpa using h
      refine ⟨listG c.po X.data.toList false c.tg, ?_, ?_⟩
      · unfold tlistP
        rw [if_neg (fun h => h.2 hin)]
      · obtain ⟨a, b, hab⟩ := List.append_of_mem hin
        rw [hab]
        unfold listG
        rw [List.flatMap_append, List.flatMap_cons, if_pos (Or.inr rfl)]
        simp [oneT]
        omega
  rw [hP] at hlist
  rw [hM] at hhas hcon
  have HL := Lib.hid hlist
  have HH := Lib.hid hhas
  have HC := Lib.hid hcrow
  have HCON := Lib.hid hcon
  have HPM := Lib.hid hPM
  clear hlist hhas hcrow hcon hP hM hlim hlen hbulk hPM
  unfold cfgV at HL HH HC ⊢
  have hb0 : Below w.heap.size w (w.alloc (.cells #[tv, pv, uv, .string c.sn, .string c.ss, .int .i64 c.lim, ov] 77)) := (Below.refl _ _).alloc (Nat.le_refl _) _
  have hB0 : Blk (w.alloc (.cells #[tv, pv, uv, .string c.sn, .string c.ss, .int .i64 c.lim, ov] 77)) w.heap.size 77 #[tv, pv, uv, .string c.sn, .string c.ss, .int .i64 c.lim, ov] := Blk.new w _ _
  go_enter Tryz.func10, Tryz.ntmps10
  go_wp2_with fail
  refine (listed_any _ (V.on hb0)).mono ?_
  rintro e w1 ⟨rfl, hb1⟩
  have hbw1 := below_step hb0 hb1
  have hB1 := hB0.below hb1 hB0.lt
  rw [hg] at hB1
  clear hb0 hb1 hB0
  obtain ⟨c0, c1, c2, c3, c4, c5, c6⟩ := box7 hB1
  go_wp2_with fail
  refine (HC.out _ hbw1).mono ?_
  rintro e w2 ⟨⟨b, rfl⟩, hb2⟩
  have hbw2 := below_step hbw1 hb2
  have hB2 := hB1.below hb2 hB1.lt
  clear hB1 c0 c1 c2 c3 c4 c5 c6
  rcases b with _ | _
  rotate_left
  · go_wp2_with fail
    go_ret
    exact ⟨rfl, hbw2⟩
  by_cases h200 : (X.size : Int) > 200
  · go_wp2_with fail
    go_ret
    exact ⟨rfl, hbw2⟩
  obtain ⟨c0, c1, c2, c3, c4, c5, c6⟩ := box7 hB2
  go_wp2_with fail
  refine (HL.out _ hbw2).mono ?_
  rintro e w3 ⟨hP3, hb3⟩
  have hbw3 := below_step hbw2 hb3
  have hB3 := hB2.below hb3 hB2.lt
  clear hB2 c0 c1 c2 c3 c4 c5 c6
  obtain ⟨c0, c1, c2, c3, c4, c5, c6⟩ := box7 hB3
  rcases M with _ | _
  · obtain rfl := HPM.out.1 rfl
    obtain rfl : e = _ := hP3
    go_wp2_with fail
    refine (HH.out _ hbw3).mono ?_
    rintro e w4 ⟨rfl, hb4⟩
    have hbw4 := below_step hbw3 hb4
    have hB4 := hB3.below hb4 hB3.lt
    have htell := tell_errv 8
    rw [show errv 8 = .iface 43 (.int .i64 8) from rfl] at htell
    clear hB3 c0 c1 c2 c3 c4 c5 c6
    go_wp2_with fail
    refine (htell _ (V.on hbw4).L).mono ?_
    rintro e w5 ⟨rfl, hb5⟩
    have hbw5 := below_step hbw4 hb5
    have hB5 := hB4.below hb5 hB4.lt
    clear hB4 htell
    obtain ⟨c0, c1, c2, c3, c4, c5, c6⟩ := box7 hB5
    go_wp2_with fail
    refine (HCON.out _ hbw5).mono ?_
    rintro e w6 ⟨rfl, rfl⟩
    go_wp2_with fail
    go_ret
    exact ⟨rfl, hbw5⟩
  · obtain ⟨l, rfl, hl⟩ := HPM.out.2 rfl
    obtain ⟨lv, rfl, hrow⟩ := hP3
    obtain ⟨A, cap, rfl, _⟩ := hrow.form
    have hl' : (0 : Int) < (l.length : Int) := by omega
    go_wp2_with fail
    refine (HH.out _ hbw3).mono ?_
    rintro e w4 ⟨rfl, hb4⟩
    have hbw4 := below_step hbw3 hb4
    go_wp2_with fail
    go_ret
    exact ⟨rfl, hbw4⟩
end Go.Proofs.YtifniblffjgfkaaGreatDoor
