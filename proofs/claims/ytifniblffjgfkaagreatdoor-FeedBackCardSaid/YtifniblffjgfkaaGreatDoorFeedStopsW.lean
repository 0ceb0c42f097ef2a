/- The walk of the law FeedStops. -/
import Derived.Test.YtifniblffjgfkaaGreatDoorFeedFact
namespace Go.Proofs.YtifniblffjgfkaaGreatDoor
open Go.ChangeShapes Go.WideShapes Go.ChangeAt Go.RowKit Go.Shelf
set_option linter.unusedVariables false
set_option maxRecDepth 20000 in
set_option maxHeartbeats 2000000 in
theorem fall_dead (g : Nat) (K : ByteArray) (lim md : Nat) (t : TypeId) (x : Value) (w : World) (hB : FBlk w g K lim md (.iface t x)) :
    Calls Tryz.prog 17 #[.pointer (some ⟨g, 0, none⟩)] w fun e w' => e = .returned (.tuple #[.slice none 0 0, .nilIface]) ∧ Below w.heap.size w w' := by
  go_enter Tryz.func17, Tryz.ntmps17
  go_wp2_with fail
  go_loopw [4] (fun o wr => o = .slice none 0 0 ∧ wr = w) (fun _ _ => 0)
  case atStart => exact ⟨rfl, rfl⟩
  case round =>
    obtain ⟨rfl, rfl⟩ := hrel
    go_wp2_with fail
    refine (fnext_dead g K lim md t x _ hB).mono ?_
    rintro e w1 ⟨rfl, hb1⟩
    unfold zeroPcC
    go_wp2_with fail
    go_ret2
    exact ⟨rfl, hb1.alloc hb1.size _⟩
theorem below_stepG {w0 w w' : World} {g : Nat} (h : Below w0.heap.size w0 w) (hs : Step g w w') (hg : w0.heap.size ≤ g) : Below w0.heap.size w0 w' := h.trans (hs.below hg h.size)
set_option maxRecDepth 20000 in
set_option maxHeartbeats 4000000 in
theorem stopsFeed (s t : ByteArray) (lim : Int) (w : World) (hs : s.size ≤ 140737488351232) (ht : t.size ≤ 140737488351232) (hl : -9223372036854775808 ≤ lim ∧ lim ≤ 9223372036854775807) (hL : LaidE w) (T : Tabs w) (hS : w.ShapedOpen Tryz.prog) :
    Calls Tryz.prog 3 #[.string s, .string t, .int .i64 lim] w fun e w' => e = .returned (.bool true) ∧ Below w.heap.size w w' := by
  obtain ⟨k, hk, hk2⟩ := pickN lim 2000 (by omega)
  have HK := Lib.hid hk
  clear hk
  go_enter Tryz.func3, Tryz.ntmps3
  go_wp2_with fail
  refine (fed_fact w hL T hS).mono ?_
  rintro e w1 ⟨rfl, hb1⟩
  by_cases hsz : 3000 < s.size + t.size
  · have hI : (3000 : Int) < s.size + t.size := by omega
    go_wp2_with fail
    go_ret
    exact ⟨rfl, hb1⟩
  have hI : (s.size : Int) + t.size ≤ 3000 := by omega
  have hs3 : s.size ≤ 3000 := by omega
  have ht3 : t.size ≤ 3000 := by omega
  go_wp2_with fail
  refine (pick_to lim 2000 k HK.out (by omega) (by omega) _).mono ?_
  rintro e w' ⟨rfl, rfl⟩
  go_wp2_with fail
  refine (fnew_ok k _ (by omega)).mono ?_
  rintro e w2 ⟨rfl, hF2, hb2⟩
  obtain ⟨G, hG⟩ : ∃ G, w1.heap.size = G := ⟨_, rfl⟩
  have hwG : w.heap.size ≤ G := by rw [← hG]; exact hb1.size
  have hb2w := below_step hb1 hb2
  rw [hG] at hF2 ⊢
  clear hG
  go_wp2_with fail
  refine (fput_ok G ⟨#[]⟩ s k 0 _ hF2 (by show 0 + s.size ≤ _; omega)).mono ?_
  rintro e w3 ⟨rfl, hF3, hs3'⟩
  rw [nil_cat] at hF3
  have hb3w := below_stepG hb2w hs3' hwG
  have hlf := allF_left k (hdM 0) (ddM 0) s.data.toList.length s.data.toList (Nat.le_refl _)
  have hbad := allF_bad_rest k (hdM 0) (ddM 0) s.data.toList.length s.data.toList (Nat.le_refl _)
  obtain ⟨F, hF⟩ : ∃ F, allF k (hdM 0) (ddM 0) s.data.toList = F := ⟨_, rfl⟩
  rw [hF] at hlf hbad
  obtain ⟨ps, c, rest⟩ := F
  simp only [len_of] at hlf hbad
  have HF := Lib.hid hF
  clear hF
  go_wp2_with fail
  refine (fall_any G s k 0 _ w hF3 (by decide) (by omega) hb3w hwG hL T hS).mono ?_
  rw [HF.out]
  rintro e w4 ⟨v, R, rfl, hP4, hR4, hF4, hs4⟩
  simp only at hP4 hR4 hF4 hlf hbad
  have hb4w := below_stepG hb3w hs4 hwG
  have hRz : R.size = rest.length := by rw [← len_of, hR4]
  obtain ⟨A, n, cap, rfl⟩ : ∃ A n cap, v = .slice A n cap := by
    obtain ⟨L, _, hL2, _⟩ := hP4.rd
    obtain ⟨_, A, cap, hv, _⟩ := hL2
    exact ⟨A, _, cap, hv⟩
  have hR3 : R.size ≤ 3000 := by omega
  clear hP4
  by_cases hc : c = 0
  · subst hc
    rw [errv0] at hF4
    simp only [errv0]
    clear hbad hR4 hRz
    go_wp2_with fail
    refine (fput_ok G R t k 0 _ hF4 (by omega)).mono ?_
    rintro e w5 ⟨rfl, hF5, hs5⟩
    go_wp2_with fail
    go_ret
    exact ⟨rfl, below_stepG hb4w hs5 hwG⟩
  · have hR0 : ((R.size : Int) == 0) = true := by rw [hRz, hbad hc]; rfl
    rw [errv_pos hc] at hF4
    simp only [errv_pos hc]
    clear hbad hR4 hRz hlf
    go_wp2_with fail
    refine (fnext_dead G R k 0 _ _ _ hF4).mono ?_
    rintro e w5 ⟨rfl, hb5⟩
    unfold zeroPcC
    have hF5 := Blk.below hF4 hb5 hF4.lt
    have hb5w := below_step hb4w hb5
    have hb6 : Below w5.heap.size w5 (w5.alloc (.cells #[.int .i64 0, .bool false, .int .i64 0, .slice none 0 0, .slice none 0 0, .string ⟨#[]⟩, .string ⟨#[]⟩] 40)) := (Below.refl _ _).alloc (Nat.le_refl _) _
    have hZ6 := Blk.new w5 40 #[.int .i64 0, .bool false, .int .i64 0, .slice none 0 0, .slice none 0 0, .string ⟨#[]⟩, .string ⟨#[]⟩]
    have hF6 := Blk.below hF5 hb6 hF5.lt
    have hb6w := below_step hb5w hb6
    go_wp2_with fail
    refine (fall_dead G R k 0 _ _ _ hF6).mono ?_
    rintro e w7 ⟨rfl, hb7⟩
    have hF7 := Blk.below hF6 hb7 hF6.lt
    have hZ7 := Blk.below hZ6 hb7 hZ6.lt
    have hb7w := below_step hb6w hb7
    go_wp2_with fail
    refine (fput_bad G R t k 0 _ _ _ hF7).mono ?_
    rintro e w' ⟨rfl, rfl⟩
    go_wp2_with fail
    refine (tell_errno 6 _ (hL.on hb7w)).mono ?_
    rintro e w8 ⟨rfl, hb8⟩
    have hF8 := Blk.below hF7 hb8 hF7.lt
    have hZ8 := Blk.below hZ7 hb8 hZ7.lt
    have hb8w := below_step hb7w hb8
    go_wp2_with fail
    refine (fkept G R k 0 _ _ hF8).mono ?_
    rintro e w' ⟨rfl, rfl⟩
    have z0 := hZ8.cell 0
    have z1 := hZ8.cell 1
    have z2 := hZ8.cell 2
    have z3 := hZ8.cell 3
    have z4 := hZ8.cell 4
    have z5 := hZ8.cell 5
    go_wp2_with fail
    refine (samePdu_yes 0 false 0 [] [] _ _ _ _ ⟨#[]⟩ _ (nilS _ 1) (nilS _ 1) (nilS _ 2) (nilS _ 2)).mono ?_
    rintro e w9 ⟨rfl, hb9⟩
    have hF9 := Blk.below hF8 hb9 hF8.lt
    have hb9w := below_step hb8w hb9
    clear z0 z1 z2 z3 z4 z5
    go_wp2_with fail
    refine (fmode_bad G R k 0 0 _ _ _ hF9 (by decide)).mono ?_
    rintro e w' ⟨rfl, rfl⟩
    go_wp2_with fail
    refine (tell_errno 6 _ (hL.on hb9w)).mono ?_
    rintro e w10 ⟨rfl, hb10⟩
    go_wp2_with fail
    go_ret
    exact ⟨rfl, below_step hb9w hb10⟩
end Go.Proofs.YtifniblffjgfkaaGreatDoor
