/- keep.conf and keep.listed. -/
import Derived.Test.YtamlepacljjpiaaGreatDoorTargetList
import Derived.Test.YtamlepacljjpiaaGreatDoorTargetCrowd
import Derived.Test.YtamlepacljjpiaaGreatDoorGpairs
namespace Go.Proofs.YtamlepacljjpiaaGreatDoor
open Go.ChangeShapes Go.WideShapes Go.ChangeAt Go.RowKit Go.Shelf
set_option linter.unusedVariables false
set_option linter.unusedSimpArgs false
def iqA : List UInt8 := [105, 113, 110, 46, 97]
def iqB : List UInt8 := [105, 113, 110, 46, 98]
def po1 : ByteArray := ⟨#[49, 48, 46, 48, 46, 48, 46, 49, 58, 51, 50, 54, 48]⟩
def po2 : ByteArray := ⟨#[91, 58, 58, 49, 93, 58, 51, 50, 54, 48]⟩
def confC : Cfg := ⟨[iqA, iqB], [(po1, 1), (po2, 2)], [], ⟨#[]⟩, ⟨#[]⟩, 8192, []⟩
def ConfE (w : World) (e : Ending) : Prop := ∃ tv pv uv ov, e = .returned (cfgV tv pv uv ov confC) ∧ CfgAt w tv pv uv ov confC
theorem confC_small : confC.Small where
  tg := fun t ht => by simp [confC] at ht; rcases ht with rfl | rfl <;> (unfold lsmall; decide)
  po := fun p hp => by simp [confC] at hp; rcases hp with rfl | rfl <;> exact ⟨by unfold bsmall; decide, by decide, by decide⟩
  us := fun p hp => by simp [confC] at hp
  sn := by unfold bsmall; decide
  ss := by unfold bsmall; decide
  lim := by decide
  own := fun p hp => by simp [confC] at hp
theorem confC_right : cRight confC = none := by decide +kernel
def listL : PairL := [(tnB, ⟨iqB.toArray⟩), (taB, ⟨#[49, 48, 46, 48, 46, 48, 46, 49, 58, 51, 50, 54, 48, 44, 49]⟩), (taB, ⟨#[91, 58, 58, 49, 93, 58, 51, 50, 54, 48, 44, 50]⟩)]
theorem confC_list : tlistP confC iqB false = some listL := by decide +kernel
theorem rd_nil (w : World) (size : Nat) : SRd w (.slice none 0 0) size 0 [] := ⟨by simp, none, 0, rfl, Nat.le_refl _, by unfold maxLen; omega, fun h => absurd h (Nat.lt_irrefl _)⟩
set_option maxHeartbeats 2000000 in
theorem conf_any (w : World) : Calls Tryz.prog 24 #[] w fun e w' => ConfE w' e ∧ Below w.heap.size w w' := by
  obtain ⟨g, hg⟩ : ∃ g, w.heap.size = g := ⟨_, rfl⟩
  go_enter Tryz.func24, Tryz.ntmps24
  go_wp2_with fail
  rw [hg]
  obtain ⟨O0, hO0⟩ : ∃ O : Array Value, #[Value.slice (some ⟨g + 1, 0, none⟩) 2 2, .slice (some ⟨g + 1 + 1, 0, none⟩) 2 2, .slice none 0 0, .string ⟨#[]⟩, .string ⟨#[]⟩, .int .i64 8192, .slice none 0 0] = O := ⟨_, rfl⟩
  obtain ⟨O1, hO1⟩ : ∃ O : Array Value, #[Value.string ⟨#[105, 113, 110, 46, 97]⟩, .string ⟨#[105, 113, 110, 46, 98]⟩] = O := ⟨_, rfl⟩
  obtain ⟨O2, hO2⟩ : ∃ O : Array Value, #[Value.string ⟨#[49, 48, 46, 48, 46, 48, 46, 49, 58, 51, 50, 54, 48]⟩, .int .i64 1, .string ⟨#[91, 58, 58, 49, 93, 58, 51, 50, 54, 48]⟩, .int .i64 2] = O := ⟨_, rfl⟩
  have b0 : Blk (w.alloc (.cells O0 29)) g 29 O0 := by rw [← hg]; exact Blk.new w _ _
  have hz1 : (w.alloc (.cells O0 29)).heap.size = g + 1 := by simp [hg]
  have b1 : Blk ((w.alloc (.cells O0 29)).alloc (.cells O1 9)) (g + 1) 9 O1 := by have := Blk.new (w.alloc (.cells O0 29)) 9 O1; rw [hz1] at this; exact this
  have hz2 : ((w.alloc (.cells O0 29)).alloc (.cells O1 9)).heap.size = g + 1 + 1 := by simp [hg]
  have b2 : Blk (((w.alloc (.cells O0 29)).alloc (.cells O1 9)).alloc (.cells O2 114)) (g + 1 + 1) 114 O2 := by have := Blk.new ((w.alloc (.cells O0 29)).alloc (.cells O1 9)) 114 O2; rw [hz2] at this; exact this
  have hb : Below w.heap.size w (((w.alloc (.cells O0 29)).alloc (.cells O1 9)).alloc (.cells O2 114)) := (((Below.refl _ _).alloc (Nat.le_refl _) _).alloc (by simp) _).alloc (by simp; omega) _
  have b0' := (b0.alloc (.cells O1 9)).alloc (.cells O2 114)
  have b1' := b1.alloc (.cells O2 114)
  refine bodyPost_ret (v := .agg O0) (results_cell_row rfl _ _ g _ O0 _ _ rfl (by rw [hO0, hO1, hO2]; exact b0') Tryz.underlying29 rfl (by rw [← hO0]; kernel_rfl)) rfl ?_
  rw [hO0, hO1, hO2]
  refine ⟨⟨.slice (some ⟨g + 1, 0, none⟩) 2 2, .slice (some ⟨g + 1 + 1, 0, none⟩) 2 2, .slice none 0 0, .slice none 0 0, ?_, ?_⟩, by rw [← hg]; exact hb⟩
  · rw [← hO0]; rfl
  · refine ⟨⟨by rfl, _, _, rfl, by decide, by decide, fun _ => ⟨g + 1, 0, rfl, b1'.lt, fun j u hu => ?_⟩⟩, ⟨by rfl, _, _, rfl, by decide, by decide, fun _ => ⟨g + 1 + 1, 0, rfl, b2.lt, fun j u hu => ?_⟩⟩, rd_nil _ _, rd_nil _ _⟩
    · rw [Nat.zero_add]
      refine (b1'.cell j).trans ?_
      rw [← hO1]
      show ((confC.tg.map strV).toArray)[j]? = some u
      rw [List.getElem?_toArray]
      exact hu
    · rw [Nat.zero_add]
      refine (b2.cell j).trans ?_
      rw [← hO2]
      show ((poCells confC.po).toArray)[j]? = some u
      rw [List.getElem?_toArray]
      exact hu
set_option maxHeartbeats 4000000 in
theorem listed_any (w : World) (V : Env w) : Calls Tryz.prog 27 #[] w fun e w' => e = .returned (.bool true) ∧ Below w.heap.size w w' := by
  go_enter Tryz.func27, Tryz.ntmps27
  go_wp2_with fail
  refine (conf_any _).mono ?_
  rintro e w1 ⟨⟨tv, pv, uv, ov, rfl, hc1⟩, hb1⟩
  have V1 := V.on hb1
  have hl1 := tlist_any confC tv pv uv ov ⟨#[105, 113, 110, 46, 98]⟩ false w1 hc1 confC_small V1.T (by decide)
  rw [show (⟨#[105, 113, 110, 46, 98]⟩ : ByteArray).data.toList = iqB from rfl, confC_list] at hl1
  go_wp2_with fail
  refine hl1.mono ?_
  rintro e w2 ⟨⟨lv, rfl, hlv⟩, hb2⟩
  have hbw2 := below_step hb1 hb2
  have V2 := V.on hbw2
  clear hl1
  go_wp2_with fail
  refine (conf_any _).mono ?_
  rintro e w3 ⟨⟨tv3, pv3, uv3, ov3, rfl, hc3⟩, hb3⟩
  have hbw3 := below_step hbw2 hb3
  have V3 := V.on hbw3
  have hr3 := tright_any confC tv3 pv3 uv3 ov3 w3 hc3 confC_small V3
  rw [confC_right] at hr3
  go_wp2_with fail
  refine hr3.mono ?_
  rintro e w4 ⟨⟨r, rfl, hr⟩, hb4⟩
  obtain rfl : r = .nilIface := hr
  have hbw4 := below_step hbw3 hb4
  clear hr3
  have hrl : SRd w2 lv 2 listL.length (pairCells listL) := SRd.of_m hlv
  have hb24 : Below w2.heap.size w2 w4 := below_step hb3 hb4
  have hrl4 := hrl.on hb24
  have hbn : ∀ (O : Obj), Below w4.heap.size w4 (w4.alloc O) := fun O => (Below.refl _ _).alloc (Nat.le_refl _) _
  have hrn : ∀ (O : Array Value), O = (pairCells listL).toArray → SRd (w4.alloc (.cells O 62)) (.slice (some ⟨w4.heap.size, 0, none⟩) 3 3) 2 3 (pairCells listL) := by
    intro O hO
    refine ⟨by rfl, _, _, rfl, by decide, by decide, fun _ => ⟨w4.heap.size, 0, rfl, (Blk.new w4 62 O).lt, fun j u hu => ?_⟩⟩
    rw [Nat.zero_add, (Blk.new w4 62 O).cell j, hO, List.getElem?_toArray]
    exact hu
  go_wp2_with fail
  refine (pequal_same listL lv _ _ (hrl4.on (hbn _)) (hrn _ rfl)).mono ?_
  rintro e w5 ⟨rfl, kk, rfl⟩
  have hbw5 : Below w.heap.size w ((w4.alloc (.cells (pairCells listL).toArray 62)).drewN kk) := below_dP (hbw4.alloc hbw4.size _) kk
  obtain ⟨w6, hw6⟩ : ∃ W : World, (w4.alloc (.cells (pairCells listL).toArray 62)).drewN kk = W := ⟨_, rfl⟩
  rw [hw6] at hbw5 ⊢
  clear hw6
  go_wp2_with fail
  refine (conf_any _).mono ?_
  rintro e w7 ⟨⟨tv7, pv7, uv7, ov7, rfl, hc7⟩, hb7⟩
  have hbw7 := below_step hbw5 hb7
  have hh7 := has_any confC tv7 pv7 uv7 ov7 ⟨#[105, 113, 110, 46, 97]⟩ w7 hc7
  rw [show decide ((⟨#[105, 113, 110, 46, 97]⟩ : ByteArray).data.toList ∈ confC.tg) = true from by decide] at hh7
  go_wp2_with fail
  refine hh7.mono ?_
  rintro e w8 ⟨rfl, hb8⟩
  have hbw8 := below_step hbw7 hb8
  clear hh7
  go_wp2_with fail
  refine (conf_any _).mono ?_
  rintro e w9 ⟨⟨tv9, pv9, uv9, ov9, rfl, hc9⟩, hb9⟩
  have hbw9 := below_step hbw8 hb9
  have hh9 := has_any confC tv9 pv9 uv9 ov9 ⟨#[120]⟩ w9 hc9
  rw [show decide ((⟨#[120]⟩ : ByteArray).data.toList ∈ confC.tg) = false from by decide] at hh9
  go_wp2_with fail
  refine hh9.mono ?_
  rintro e wA ⟨rfl, hbA⟩
  have hbwA := below_step hbw9 hbA
  clear hh9
  go_wp2_with fail
  go_ret
  exact ⟨rfl, hbwA⟩
end Go.Proofs.YtamlepacljjpiaaGreatDoor
