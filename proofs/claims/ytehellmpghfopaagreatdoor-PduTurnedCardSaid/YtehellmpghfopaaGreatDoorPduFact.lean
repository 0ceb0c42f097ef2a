/- The fact wrapped. -/
import Derived.Test.YtehellmpghfopaaGreatDoorPduSame
namespace Go.Proofs.YtehellmpghfopaaGreatDoor
open Go.ChangeShapes Go.WideShapes Go.ChangeAt Go.RowKit Go.Shelf
set_option linter.unusedVariables false
def helloB : ByteArray := ⟨#[104, 101, 108, 108, 111]⟩
theorem nilS (w : World) (size : Nat) : SRd w (.slice none 0 0) size 0 [] := ⟨by simp, none, 0, rfl, Nat.le_refl _, by unfold maxLen; omega, fun h => absurd h (Nat.lt_irrefl _)⟩
set_option maxRecDepth 20000 in
set_option maxHeartbeats 2000000 in
theorem wrapped_fact (w : World) (hL : LaidE w) (T : Tabs w) (hS : w.ShapedOpen Tryz.prog) : Calls Tryz.prog 13 #[] w fun e w' => e = .returned (.bool true) ∧ Below w.heap.size w w' := by
  obtain ⟨r, hr, hrr, hlay, hE, hV⟩ := nop_facts
  have hr0 : r.1 = 0 := by have := headRow_op hr; omega
  go_enter Tryz.func13, Tryz.ntmps13
  go_wp2_with fail
  refine (nop_any _).mono ?_
  rintro e w1 ⟨v, rfl, hv, hb1⟩
  obtain ⟨A, cap, rfl⟩ : ∃ A cap, v = .slice A nopL.length cap := by obtain ⟨_, A, cap, hv, _⟩ := hv; exact ⟨A, cap, hv⟩
  have HR := Lib.hid hr
  have HRR := Lib.hid hrr
  have HR0 := Lib.hid hr0
  clear hr hrr hr0 hlay hE hV
  go_wp2_with fail
  rw [show (⟨#[104, 101, 108, 108, 111]⟩ : ByteArray) = helloB from rfl]
  obtain ⟨w2, hw2⟩ : ∃ w2 : World, w1.alloc (.cells #[.int .i64 0, .bool true, .int .i64 128, .slice A nopL.length cap, .slice none 0 0, .string helloB] 27) = w2 := ⟨_, rfl⟩
  obtain ⟨g, hg⟩ : ∃ g, w1.heap.size = g := ⟨_, rfl⟩
  have hB2 : Blk w2 g 27 #[.int .i64 0, .bool true, .int .i64 128, .slice A nopL.length cap, .slice none 0 0, .string helloB] := by rw [← hw2, ← hg]; exact Blk.new w1 _ _
  have hb12 : Below w1.heap.size w1 w2 := by rw [← hw2]; exact (Below.refl _ _).alloc (Nat.le_refl _) _
  have hbw2 := below_step hb1 hb12
  have hv2 := hv.on hb12
  rw [hw2]
  try rw [hg]
  clear hw2 hb12 hv hg
  refine (pduWrite_ok 0 true 128 nopL _ [] _ helloB 3 r _ (by decide) HR.out (by decide) HRR.out rfl (by decide) (by decide) hv2 (by decide) (nilS _ 2) (fun p hp => (List.not_mem_nil hp).elim) (hL.on hbw2) (T.on hbw2) (shaped_ons hS hbw2)).mono ?_
  rintro e w3 ⟨rfl, hb3⟩
  have hbw3 := below_step hbw2 hb3
  have hB3 := hB2.below hb3 hB2.lt
  have hv3 := hv2.on hb3
  have hHl : (layAll (headB r.1 true 128 ((ahsB []).length / 4) helloB.size) r.2.2.2 nopL).length = 48 := layAll_len r.2.2.2 nopL _ (headT_ok r (headRow_mem HR.out)) rfl
  obtain ⟨L, hLL⟩ : ∃ L, pduB (layAll (headB r.1 true 128 ((ahsB []).length / 4) helloB.size) r.2.2.2 nopL) (ahsB []) helloB.data.toList (hdM 3) (ddM 3) = L := ⟨_, rfl⟩
  have hLz : L.length = 64 := by
    rw [← hLL]
    unfold pduB
    rw [List.length_append, List.length_append, List.length_append, List.length_append, dg4_len, dg4_len, hHl]
    rfl
  rw [hLL]
  obtain ⟨W, hW⟩ : ∃ W : ByteArray, (⟨L.toArray⟩ : ByteArray) = W := ⟨_, rfl⟩
  have hWl : W.data.toList = L := by rw [← hW]
  have hWz : W.size = 64 := by rw [← len_of, hWl, hLz]
  have HWL := Lib.hid hWl
  have HLL := Lib.hid hLL
  rw [hW]
  have hRd : (W ++ ⟨#[120]⟩).data.toList = L ++ [120] := by rw [cat_of, hWl]
  have HRD := Lib.hid hRd
  have c0 := hB3.cell 0
  have c1 := hB3.cell 1
  have c2 := hB3.cell 2
  have c3 := hB3.cell 3
  have c4 := hB3.cell 4
  have c5 := hB3.cell 5
  have hgl := hB3.lt
  clear hWl hLL hW hRd hb3 hv2 hB2 hHl hb1
  obtain ⟨X, hX⟩ : ∃ X : ByteArray, W ++ ⟨#[120]⟩ = X := ⟨_, rfl⟩
  rw [hX] at HRD
  have hXz : X.size = 65 := by rw [← len_of, HRD.out]; simp; omega
  go_wp2_with fail
  refine (pduRead_back X r true 128 nopL [] helloB [120] 3 _ (by decide) (by rw [HR0.out]; exact HR.out) (by decide) (by decide) (by rw [HR0.out]; exact HRR.out) rfl (by decide) (by rw [HRD.out, ← HLL.out]) (by omega) (hL.on hbw3) (T.on hbw3) (shaped_ons hS hbw3)).mono ?_
  rintro e w4 ⟨A4, cap4, B4, bcap4, rfl, hv4, ha4, hb4⟩
  rw [HLL.out, hLz, HR0.out]
  have hbw4 := below_step hbw3 hb4
  have hB4 := hB3.below hb4 hgl
  have hv4' := hv3.on hb4
  rw [show ((0 : Nat) : Int) = 0 from rfl, show ((128 : Nat) : Int) = 128 from rfl, show ((64 : Nat) : Int) = 64 from rfl, show ([] : AhsL).length = 0 from rfl]
  have c0 := hB4.cell 0
  have c1 := hB4.cell 1
  have c2 := hB4.cell 2
  have c3 := hB4.cell 3
  have c4 := hB4.cell 4
  have c5 := hB4.cell 5
  have e64 : ((W.size : Int) == 64) = true := by rw [hWz]; rfl
  have hgl4 : g < w4.heap.size := hB4.lt
  clear hb4 hB3
  go_wp2_with fail
  have hb45 : Below w4.heap.size w4 (w4.alloc (.cells #[.int .i64 0, .bool true, .int .i64 128, .slice A4 nopL.length cap4, .slice B4 0 bcap4, .string helloB] 27)) := (Below.refl _ _).alloc (Nat.le_refl _) _
  have hbw5 := below_step hbw4 hb45
  refine (samePdu_yes 0 true 128 nopL [] _ _ _ _ helloB _ (hv4'.on hb45) (hv4.on hb45) (nilS _ 2) (ha4.on hb45)).mono ?_
  rintro e w6 ⟨rfl, hb6⟩
  go_wp2_with fail
  go_ret
  exact ⟨rfl, below_step hbw5 hb6⟩
end Go.Proofs.YtehellmpghfopaaGreatDoor
