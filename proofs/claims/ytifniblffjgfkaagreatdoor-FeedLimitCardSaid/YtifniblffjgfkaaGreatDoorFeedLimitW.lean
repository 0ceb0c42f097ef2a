/- The walk of the law FeedLimit. -/
import Derived.Test.YtifniblffjgfkaaGreatDoorFeedStopsW
namespace Go.Proofs.YtifniblffjgfkaaGreatDoor
open Go.ChangeShapes Go.WideShapes Go.ChangeAt Go.RowKit Go.Shelf
set_option linter.unusedVariables false
theorem nop_rightD (D : ByteArray) (hD : D.size ≤ 100000) : ∃ r, headRow 0 = some r ∧ r.1 = 0 ∧ PduR r true 128 nopL [] D := by
  obtain ⟨r, hr, hrr, hlay, hE, hV⟩ := nop_facts
  have hr0 : r.1 = 0 := by have := headRow_op hr; omega
  exact ⟨r, hr, hr0, by rw [hr0]; exact hr, by decide, by decide, by rw [hr0]; exact hrr, rfl, hD⟩
theorem next_over {r : HeadR} {now : Bool} {F : Nat} {vals : List Nat} {l : AhsL} {d : ByteArray} (h : PduR r now F vals l d) (lim k : Nat) (hlim : lim < d.size) :
    nextP lim (hdM k) (ddM k) (PB r now F vals l d k) = .bad 4 := by
  have hb := PB_bound r now F vals l d k h.row h.ahs
  have hd := pdu_data h k []
  rw [List.append_nil] at hd
  unfold nextP
  rw [if_neg (by omega), hd, if_pos hlim]
theorem repeat_d (c : Nat) (w : World) (h : c ≤ 1000) : Calls Tryz.prog 34 #[.string ⟨#[100]⟩, .int .i64 c] w fun e w' => e = .returned (.string ⟨(List.replicate c (100 : UInt8)).toArray⟩) ∧ Below w.heap.size w w' := by
  refine (Tryz.strings_Repeat ⟨#[100]⟩ c w (by omega) (by show 1 * c ≤ _; omega)).mono ?_
  rintro e w' ⟨rfl, hb⟩
  refine ⟨?_, hb⟩
  have hr : ∀ n, Lib.repeatL [(100 : UInt8)] n = List.replicate n 100 := by
    intro n
    induction n with
    | zero => rfl
    | succ n ih => rw [Lib.repeatL, ih]; rfl
  show Ending.returned (.string ⟨(Lib.repeatL [(100 : UInt8)] c).toArray⟩) = _
  rw [hr]
set_option maxRecDepth 20000 in
set_option maxHeartbeats 4000000 in
theorem limitFeed (lim : Int) (over : Bool) (w : World) (hl : -9223372036854775808 ≤ lim ∧ lim ≤ 9223372036854775807) (hL : LaidE w) (T : Tabs w) (hS : w.ShapedOpen Tryz.prog) :
    Calls Tryz.prog 8 #[.int .i64 lim, .bool over] w fun e w' => e = .returned (.bool true) ∧ Below w.heap.size w w' := by
  obtain ⟨k, hk, hk2⟩ := pickN lim 600 (by omega)
  have HK := Lib.hid hk
  clear hk
  obtain ⟨n, hn⟩ : ∃ n, n = if over then k + 1 else k := ⟨_, rfl⟩
  have hnk : n ≤ 600 := by rw [hn]; split <;> omega
  obtain ⟨D, hDe⟩ : ∃ D : ByteArray, (⟨(List.replicate n (100 : UInt8)).toArray⟩ : ByteArray) = D := ⟨_, rfl⟩
  have hDz : D.size = n := by rw [← hDe, size_mkl, List.length_replicate]
  obtain ⟨r, hr, hr0, hR⟩ := nop_rightD D (by omega)
  have hbd := PB_bound r true 128 nopL [] D 0 hR.row hR.ahs
  obtain ⟨P, hP⟩ : ∃ P, PB r true 128 nopL [] D 0 = P := ⟨_, rfl⟩
  rw [hP] at hbd
  obtain ⟨W, hW⟩ : ∃ W : ByteArray, (⟨P.toArray⟩ : ByteArray) = W := ⟨_, rfl⟩
  have hWl : W.data.toList = P := by rw [← hW]
  have hWz : W.size ≤ 2000 := by rw [← len_of, hWl]; omega
  have hPW : (⟨(PB r true 128 nopL [] D 0).toArray⟩ : ByteArray) = W := by rw [hP]; exact hW
  unfold PB at hPW
  have HPW := Lib.hid hPW
  have HR := Lib.hid hr
  have HR0 := Lib.hid hr0
  have HRR := Lib.hid hR
  have HDE := Lib.hid hDe
  have hDz2 : D.size ≤ 600 := by omega
  have HDZ := Lib.hid hDz
  have HWL := Lib.hid hWl
  have HP := Lib.hid hP
  clear hPW hr hr0 hDe hWl hP hW hDz hbd
  rcases over with _ | _
  · simp only [Bool.false_eq_true, if_false] at hn
    subst hn
    have hnx := next_back hR n 0 [] (by rw [HDZ.out]; exact Nat.le_refl _)
    rw [List.append_nil, HP.out, ← HWL.out, len_of] at hnx
    have HNX := Lib.hid hnx
    have hd0 : (((W.extract W.size W.size).size : Int) == 0) = true := by rw [ByteArray.size_extract]; simp
    have hdn : ((D.size : Int) == n) = true := by rw [HDZ.out]; simp
    clear hnx hR
    go_enter Tryz.func8, Tryz.ntmps8
    go_wp2_with fail
    refine (fed_fact w hL T hS).mono ?_
    rintro e w1 ⟨rfl, hb1⟩
    go_wp2_with fail
    refine (wrapped_fact _ (hL.on hb1) (T.on hb1) (shaped_ons hS hb1)).mono ?_
    rintro e w2 ⟨rfl, hb2⟩
    have hb2w := below_step hb1 hb2
    go_wp2_with fail
    refine (pick_to lim 600 n HK.out (by omega) (by omega) _).mono ?_
    rintro e w' ⟨rfl, rfl⟩
    go_wp2_with fail
    refine (nop_any _).mono ?_
    rintro e w3 ⟨v, rfl, hv, hb3⟩
    obtain ⟨A, cap, rfl⟩ : ∃ A cap, v = .slice A nopL.length cap := by obtain ⟨_, A, cap, hv, _⟩ := hv; exact ⟨A, cap, hv⟩
    have hb3w := below_step hb2w hb3
    go_wp2_with fail
    refine (repeat_d n _ (by omega)).mono ?_
    rintro e w4 ⟨rfl, hb4⟩
    rw [HDE.out]
    have hb4w := below_step hb3w hb4
    go_wp2_with fail
    refine (pduWrite_ok 0 true 128 nopL _ [] _ D 0 r _ (by decide) HR.out (by decide) (by have := HRR.out.right; rw [HR0.out] at this; exact this) rfl (by omega) (by decide) (hv.on hb4) (by decide) (nilS _ 2) (fun p hp => (List.not_mem_nil hp).elim) (hL.on hb4w) (T.on hb4w) (shaped_ons hS hb4w)).mono ?_
    rintro e w5 ⟨rfl, hb5⟩
    rw [HPW.out]
    have hb5w := below_step hb4w hb5
    go_wp2_with fail
    refine (fnew_ok n _ (by omega)).mono ?_
    rintro e w6 ⟨rfl, hF6, hb6⟩
    obtain ⟨G, hG⟩ : ∃ G, w5.heap.size = G := ⟨_, rfl⟩
    have hwG : w.heap.size ≤ G := by rw [← hG]; exact hb5w.size
    have hb6w := below_step hb5w hb6
    rw [hG] at hF6 ⊢
    clear hG
    go_wp2_with fail
    refine (fput_ok G ⟨#[]⟩ W n 0 _ hF6 (by show 0 + W.size ≤ _; omega)).mono ?_
    rintro e w7 ⟨rfl, hF7, hs7⟩
    rw [nil_cat] at hF7
    have hb7w := below_stepG hb6w hs7 hwG
    go_wp2_with fail
    refine (fnext_pc G W n 0 W.size _ _ hF7 (by omega) (by decide) HNX.out (hL.on hb7w) (T.on hb7w) (shaped_ons hS hb7w)).mono ?_
    rintro e w8 ⟨A8, B8, cap8, bcap8, rfl, hP8, hF8, hs8⟩
    have hb8w := below_stepG hb7w hs8 hwG
    unfold pcC pcOf
    simp only
    rw [← str_of D]
    have hb9 : Below w8.heap.size w8 (w8.alloc (.cells #[.int .i64 r.1, .bool true, .int .i64 (128 : Nat), .slice A8 nopL.length cap8, .slice B8 0 bcap8, .string D, .string ⟨#[]⟩] 40)) := (Below.refl _ _).alloc (Nat.le_refl _) _
    have hF9 := Blk.below hF8 hb9 hF8.lt
    go_wp2_with fail
    refine (fkept G _ n 0 .nilIface _ hF9).mono ?_
    rintro e w' ⟨rfl, rfl⟩
    go_wp2_with fail
    go_ret
    exact ⟨rfl, below_step hb8w hb9⟩
  · simp only [if_true] at hn
    subst hn
    have hnx := next_over hR k 0 (by rw [HDZ.out]; omega)
    rw [HP.out, ← HWL.out] at hnx
    have HNX := Lib.hid hnx
    clear hnx hR
    go_enter Tryz.func8, Tryz.ntmps8
    go_wp2_with fail
    refine (fed_fact w hL T hS).mono ?_
    rintro e w1 ⟨rfl, hb1⟩
    go_wp2_with fail
    refine (wrapped_fact _ (hL.on hb1) (T.on hb1) (shaped_ons hS hb1)).mono ?_
    rintro e w2 ⟨rfl, hb2⟩
    have hb2w := below_step hb1 hb2
    go_wp2_with fail
    refine (pick_to lim 600 k HK.out (by omega) (by omega) _).mono ?_
    rintro e w' ⟨rfl, rfl⟩
    go_wp2_with fail
    refine (nop_any _).mono ?_
    rintro e w3 ⟨v, rfl, hv, hb3⟩
    obtain ⟨A, cap, rfl⟩ : ∃ A cap, v = .slice A nopL.length cap := by obtain ⟨_, A, cap, hv, _⟩ := hv; exact ⟨A, cap, hv⟩
    have hb3w := below_step hb2w hb3
    go_wp2_with fail
    refine (repeat_d (k + 1) _ (by omega)).mono ?_
    rintro e w4 ⟨rfl, hb4⟩
    rw [HDE.out]
    have hb4w := below_step hb3w hb4
    go_wp2_with fail
    refine (pduWrite_ok 0 true 128 nopL _ [] _ D 0 r _ (by decide) HR.out (by decide) (by have := HRR.out.right; rw [HR0.out] at this; exact this) rfl (by omega) (by decide) (hv.on hb4) (by decide) (nilS _ 2) (fun p hp => (List.not_mem_nil hp).elim) (hL.on hb4w) (T.on hb4w) (shaped_ons hS hb4w)).mono ?_
    rintro e w5 ⟨rfl, hb5⟩
    rw [HPW.out]
    have hb5w := below_step hb4w hb5
    go_wp2_with fail
    refine (fnew_ok k _ (by omega)).mono ?_
    rintro e w6 ⟨rfl, hF6, hb6⟩
    obtain ⟨G, hG⟩ : ∃ G, w5.heap.size = G := ⟨_, rfl⟩
    have hwG : w.heap.size ≤ G := by rw [← hG]; exact hb5w.size
    have hb6w := below_step hb5w hb6
    rw [hG] at hF6 ⊢
    clear hG
    go_wp2_with fail
    refine (fput_ok G ⟨#[]⟩ W k 0 _ hF6 (by show 0 + W.size ≤ _; omega)).mono ?_
    rintro e w7 ⟨rfl, hF7, hs7⟩
    rw [nil_cat] at hF7
    have hb7w := below_stepG hb6w hs7 hwG
    go_wp2_with fail
    refine (fnext_err G W k 0 4 _ hF7 (by omega) (by decide) HNX.out (hL.on hb7w) (T.on hb7w) (shaped_ons hS hb7w)).mono ?_
    rintro e w8 ⟨rfl, hF8, hs8⟩
    have hb8w := below_stepG hb7w hs8 hwG
    unfold zeroPcC
    have hb9 : Below w8.heap.size w8 (w8.alloc (.cells #[.int .i64 0, .bool false, .int .i64 0, .slice none 0 0, .slice none 0 0, .string ⟨#[]⟩, .string ⟨#[]⟩] 40)) := (Below.refl _ _).alloc (Nat.le_refl _) _
    have hF9 := Blk.below hF8 hb9 hF8.lt
    have hb9w := below_step hb8w hb9
    go_wp2_with fail
    refine (tell_errno ((4 : Nat) : Int) _ (hL.on hb9w)).mono ?_
    rintro e w10 ⟨rfl, hb10⟩
    have hF10 := Blk.below hF9 hb10 hF9.lt
    go_wp2_with fail
    refine (fkept G _ k 0 _ _ hF10).mono ?_
    rintro e w' ⟨rfl, rfl⟩
    go_wp2_with fail
    go_ret
    exact ⟨rfl, below_step hb9w hb10⟩
end Go.Proofs.YtifniblffjgfkaaGreatDoor
