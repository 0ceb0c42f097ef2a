/- The walk of the law KeysYes. -/
import Derived.Test.YtecembemhjjdhaaGreatDoorKeysNumK
namespace Go.Proofs.YtecembemhjjdhaaGreatDoor
open Go.ChangeShapes Go.WideShapes Go.ChangeAt Go.RowKit Go.Shelf
set_option linter.unusedVariables false
set_option linter.unusedSimpArgs false
theorem wp_world {P : Program} {c : Code} {Q : Exit → Act → World → Prop} {a : Act} {w w' : World} (h : w = w') (hw : c.wp P Q a w') : c.wp P Q a w := by rw [h]; exact hw
def yesKeys4 : List (List UInt8) := [[73, 109, 109, 101, 100, 105, 97, 116, 101, 68, 97, 116, 97], [73, 110, 105, 116, 105, 97, 108, 82, 50, 84], [68, 97, 116, 97, 80, 68, 85, 73, 110, 79, 114, 100, 101, 114], [68, 97, 116, 97, 83, 101, 113, 117, 101, 110, 99, 101, 73, 110, 79, 114, 100, 101, 114]]
theorem word_any (b : Bool) (w : World) : Calls Tryz.prog 29 #[.bool b] w fun e w' => e = .returned (.string ⟨(yesB b).toArray⟩) ∧ w = w' := by
  rcases b with _ | _
  all_goals
    go_enter Tryz.func29, Tryz.ntmps29
    go_wp2_with fail
    go_ret
    exact ⟨rfl, rfl⟩
theorem yes_plain : ∀ k : Fin 4, ∀ a b : Bool, resE (yesKeys4.getD k.val []) (yesB a) (yesB b) = .inr (yesB (if k.val = 0 then a && b else a || b)) := by decide +kernel
set_option maxRecDepth 20000 in
set_option maxHeartbeats 4000000 in
theorem yesKeys (x : Int) (a b : Bool) (w : World) (hx : -9223372036854775808 ≤ x ∧ x ≤ 9223372036854775807) (V : Env w) :
    Calls Tryz.prog 7 #[.int .i64 x, .bool a, .bool b] w fun e w' => e = .returned (.bool true) ∧ Below w.heap.size w w' := by
  obtain ⟨k, hk, hk4⟩ := pickE x 4 (by omega)
  have HK := Lib.hid hk
  have hkI : (k : Int) < 4 := by omega
  have hkJ : (0 : Int) ≤ k := by omega
  clear hk
  go_enter Tryz.func7, Tryz.ntmps7
  go_wp2_with fail
  refine (keyed_fact _ V).mono ?_
  rintro e w1 ⟨rfl, hb1⟩
  go_wp2_with fail
  refine (pickK x 4 k HK.out (by omega) (by omega) _).mono ?_
  rintro e w' ⟨rfl, rfl⟩
  go_wp2_with fail
  have hB : Blk (w1.alloc (.cells (yesKeys4.map strV).toArray 9)) w1.heap.size 9 (yesKeys4.map strV).toArray := Blk.new w1 _ _
  have hb2 : Below w1.heap.size w1 (w1.alloc (.cells (yesKeys4.map strV).toArray 9)) := (Below.refl _ _).alloc (Nat.le_refl _) _
  have hbw2 := below_step hb1 hb2
  obtain ⟨w2, hw2⟩ : ∃ w2 : World, w1.alloc (.cells (yesKeys4.map strV).toArray 9) = w2 := ⟨_, rfl⟩
  obtain ⟨g, hg⟩ : ∃ g, w1.heap.size = g := ⟨_, rfl⟩
  rw [hw2] at hB hbw2
  rw [hg] at hB
  try rw [hg]
  refine wp_world (w' := w2) hw2 ?_
  have V2 := V.on hbw2
  obtain ⟨N, hN⟩ : ∃ N : ByteArray, (⟨(yesKeys4.getD k []).toArray⟩ : ByteArray) = N := ⟨_, rfl⟩
  obtain ⟨X, hX⟩ : ∃ N : ByteArray, (⟨(yesB (if k = 0 then a && b else a || b)).toArray⟩ : ByteArray) = N := ⟨_, rfl⟩
  have hNl : N.data.toList = yesKeys4.getD k [] := by rw [← hN]
  have hXl : X.data.toList = yesB (if k = 0 then a && b else a || b) := by rw [← hX]
  have hc : w2.cell? ⟨g, k, none⟩ = some (.string N) := by
    rw [hB.cell k, ← hN]
    match k, hk4 with
    | 0, _ => rfl
    | 1, _ => rfl
    | 2, _ => rfl
    | 3, _ => rfl
    | k + 4, h => omega
  have hres : resE N.data.toList (⟨(yesB a).toArray⟩ : ByteArray).data.toList (⟨(yesB b).toArray⟩ : ByteArray).data.toList = .inr X.data.toList := by
    rw [hNl, hXl]
    exact yes_plain ⟨k, hk4⟩ a b
  have hya : ∀ t, (⟨(yesB t).toArray⟩ : ByteArray).size ≤ 1000000 := fun t => by cases t <;> decide
  have hgl : g < w2.heap.size := hB.lt
  have HRES := Lib.hid hres
  have HYA := Lib.hid hya
  have HX := Lib.hid hX
  have hbd : Below w2.heap.size w2 w2.drew := (Below.refl _ _).drew
  have V3 := V2.on hbd
  have hbw3 := below_step hbw2 hbd
  clear hw2 hg hb2 hN hNl hXl hres hya hX hbd
  go_region_held3 (fun w' => w'.cell? ⟨g, k, none⟩ = some (.string N)) (first | go_keep | exact hc | exact c4) ((first | (go_at_call 24; refine (result_inr N _ _ X _ HRES.out (HYA.out _) (HYA.out _) V3).mono ?_; rintro e w4 ⟨rfl, hb4⟩; have c4 := (hb4.cell (p := ⟨g, k, none⟩) hgl).trans hc) | (go_at_call 29; refine (word_any _ _).mono ?_; rintro e w4 ⟨rfl, rfl⟩)))
  have hbw4 := below_step hbw3 hb4
  have h2k : X.size ≤ 3 := by
    rw [← HX.out, size_mkl]
    generalize (if k = 0 then a && b else a || b) = z
    cases z <;> decide
  clear hb4 hbw3 hbw2 c4 hc
  by_cases hk0 : k = 0
  · subst hk0
    have hx : X = ⟨(yesB (a && b)).toArray⟩ := HX.out.symm
    clear HX HRES
    subst hx
    rcases a with _ | _ <;> rcases b with _ | _
    all_goals
      go_wp2_with fail
      refine (word_any _ _).mono ?_
      rintro e w5 ⟨rfl, rfl⟩
      go_wp2_with fail
      go_ret
      exact ⟨by simp, hbw4⟩
  · have hx : X = ⟨(yesB (a || b)).toArray⟩ := by
      have := HX.out
      rw [if_neg hk0] at this
      exact this.symm
    have hkn : ((k : Int) == 0) = false := by simp; omega
    clear HX HRES
    subst hx
    rcases a with _ | _ <;> rcases b with _ | _
    all_goals
      go_wp2_with fail
      refine (word_any _ _).mono ?_
      rintro e w5 ⟨rfl, rfl⟩
      go_wp2_with fail
      go_ret
      exact ⟨by simp, hbw4⟩
end Go.Proofs.YtecembemhjjdhaaGreatDoor
