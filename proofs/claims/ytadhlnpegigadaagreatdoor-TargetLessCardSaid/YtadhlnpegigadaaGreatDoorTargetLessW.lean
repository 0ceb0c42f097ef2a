/- TargetLess: the walk. -/
import Derived.Test.YtadhlnpegigadaaGreatDoorTargetAllW
import Derived.Test.YtadhlnpegigadaaGreatDoorTargetHasW
import Derived.Test.YtadhlnpegigadaaGreatDoorTargetDel
import Derived.Test.YtadhlnpegigadaaGreatDoorTargetLessP
import Derived.Deep.RegionHeld3
namespace Go.Proofs.YtadhlnpegigadaaGreatDoor
open Go.ChangeShapes Go.WideShapes Go.ChangeAt Go.RowKit Go.Shelf
set_option linter.unusedVariables false
set_option linter.unusedSimpArgs false
theorem wp_rest3 {P : Program} {c : Code} {T : Exit → Act → World → Prop} {a : Act} {w : World} (F : Act → Nat → Nat → Nat → Act) (R : Nat → Nat → Nat → World → Prop) (h : ∀ x y z W, R x y z W → T .normal (F a x y z) W) (hr : (∀ x y z W, R x y z W → T .normal (F a x y z) W) → c.wp P T a w) : c.wp P T a w := hr h
theorem cell_far (w : World) (p : Addr) (v : Value) (b o : Nat) (h : b ≠ p.block) : (w.setCell p v).cell? ⟨b, o, none⟩ = w.cell? ⟨b, o, none⟩ := by
  simp only [World.cell?, Below.heap_setCell w p v b h]
theorem blk_at1 (w : World) (t : TypeId) (cs : Array Value) (o o' : Obj) : Blk (((w.alloc o).alloc (.cells cs t)).alloc o').drew (w.heap.size + 1) t cs := by
  have := Blk.new (w.alloc o) t cs
  rw [show (w.alloc o).heap.size = w.heap.size + 1 by simp] at this
  exact this.alloc _
theorem blk_at2 (w : World) (t : TypeId) (cs : Array Value) (o o' : Obj) : Blk (((w.alloc o).alloc o').alloc (.cells cs t)).drew (w.heap.size + 1 + 1) t cs := by
  have := Blk.new ((w.alloc o).alloc o') t cs
  rw [show ((w.alloc o).alloc o').heap.size = w.heap.size + 1 + 1 by simp] at this
  exact this
set_option maxRecDepth 20000 in
set_option maxHeartbeats 20000000 in
theorem targetLess_law (c : Cfg) (tv pv uv ov : Value) (which : Int) (w : World) (hv : CfgAt w tv pv uv ov c) (hc : c.Small) (hlen : c.tg.length * 16 ≤ 140737488351232 ∧ c.po.length * 24 ≤ 140737488351232 ∧ c.us.length * 32 ≤ 140737488351232 ∧ c.own.length * 32 ≤ 140737488351232)
    (hw : -9223372036854775808 ≤ which ∧ which ≤ 9223372036854775807) (V : Env w) : Calls Tryz.prog 3 #[cfgV tv pv uv ov c, .int .i64 which] w fun e w' => e = .returned (.bool true) ∧ Below w.heap.size w w' := by
  obtain ⟨A1, cap1, rfl, hm1⟩ := hv.1.form
  obtain ⟨A2, cap2, rfl⟩ : ∃ A cap, pv = .slice A c.po.length cap := by obtain ⟨_, A, cap, h, _⟩ := hv.2.1; exact ⟨A, cap, h⟩
  obtain ⟨A3, cap3, rfl⟩ : ∃ A cap, uv = .slice A c.us.length cap := by obtain ⟨_, A, cap, h, _⟩ := hv.2.2.1; exact ⟨A, cap, h⟩
  obtain ⟨A4, cap4, rfl⟩ : ∃ A cap, ov = .slice A c.own.length cap := by obtain ⟨_, A, cap, h, _⟩ := hv.2.2.2; exact ⟨A, cap, h⟩
  obtain ⟨g, hg⟩ : ∃ g, w.heap.size = g := ⟨_, rfl⟩
  have hcrow := fun w' (h : Below w.heap.size w w') => crowded_any c _ _ _ _ w' (hv.on h) hc
  have hright := fun w' (h : Below w.heap.size w w') => tright_any c _ _ _ _ w' (hv.on h) hc (V.on h)
  have HV := Lib.hid hv
  have HC := Lib.hid hcrow
  have HR := Lib.hid hright
  have HSM := Lib.hid hc
  have HLEN := Lib.hid hlen
  clear hcrow hright hv hlen hc
  unfold cfgV at HC HR ⊢
  have hb0 : Below w.heap.size w (w.alloc (.cells #[.slice A1 c.tg.length cap1, .slice A2 c.po.length cap2, .slice A3 c.us.length cap3, .string c.sn, .string c.ss, .int .i64 c.lim, .slice A4 c.own.length cap4] 29)) := (Below.refl _ _).alloc (Nat.le_refl _) _
  have hB0 : Blk (w.alloc (.cells #[.slice A1 c.tg.length cap1, .slice A2 c.po.length cap2, .slice A3 c.us.length cap3, .string c.sn, .string c.ss, .int .i64 c.lim, .slice A4 c.own.length cap4] 29)) w.heap.size 29 #[.slice A1 c.tg.length cap1, .slice A2 c.po.length cap2, .slice A3 c.us.length cap3, .string c.sn, .string c.ss, .int .i64 c.lim, .slice A4 c.own.length cap4] := Blk.new w _ _
  go_enter Tryz.func3, Tryz.ntmps3
  go_wp2_with fail
  refine (listed_any _ (V.on hb0)).mono ?_
  rintro e w1 ⟨rfl, hb1⟩
  have hbw1 := below_step hb0 hb1
  have hB1 := hB0.below hb1 hB0.lt
  rw [hg] at hB1
  clear hb0 hb1 hB0
  obtain ⟨c0, c1, c2, c3, c4, c5, c6⟩ := box7h hB1
  go_wp2_with fail
  refine (HC.out _ hbw1).mono ?_
  rintro e w3 ⟨⟨b, rfl⟩, hb3⟩
  have hbw3 := below_step hbw1 hb3
  have hB3 := hB1.below hb3 hB1.lt
  clear hB1 hb3 hbw1 c0 c1 c2 c3 c4 c5 c6
  rcases b with _ | _
  rotate_left
  · go_wp2_with fail
    go_ret
    exact ⟨rfl, hbw3⟩
  obtain ⟨c0, c1, c2, c3, c4, c5, c6⟩ := box7h hB3
  go_wp2_with fail
  refine (HR.out _ hbw3).mono ?_
  rintro e w4 ⟨⟨r, rfl, hr⟩, hb4⟩
  have hbw4 := below_step hbw3 hb4
  have hB4 := hB3.below hb4 hB3.lt
  clear hB3 hb4 hbw3 c0 c1 c2 c3 c4 c5 c6
  rcases hcr : cRight c with _ | E
  rotate_left
  · rw [hcr] at hr
    obtain ⟨t, x, rfl⟩ := right_iface hr hcr
    clear hr hcr
    go_wp2_with fail
    go_ret
    exact ⟨rfl, hbw4⟩
  rw [hcr] at hr
  obtain rfl : r = .nilIface := hr
  obtain ⟨⟨h1, h2, h3⟩, _⟩ := (cRight_parts c).1 hcr
  have h1I : (c.tg.length : Int) ≤ 8 := by omega
  have h2I : (c.po.length : Int) ≤ 4 := by omega
  have h3I : (c.us.length : Int) ≤ 8 := by omega
  have HCR := Lib.hid hcr
  clear hcr h1 h2 h3
  obtain ⟨c0, c1, c2, c3, c4, c5, c6⟩ := box7h hB4
  have hgl := hB4.lt
  have hHB := Lib.hid hB4
  have hbx : ∀ (W : World), Below w4.heap.size w4 W → (W.cell? ⟨g, 0, none⟩ = some (.slice A1 c.tg.length cap1) ∧ W.cell? ⟨g, 1, none⟩ = some (.slice A2 c.po.length cap2) ∧ W.cell? ⟨g, 2, none⟩ = some (.slice A3 c.us.length cap3) ∧ W.cell? ⟨g, 3, none⟩ = some (.string c.sn) ∧ W.cell? ⟨g, 4, none⟩ = some (.string c.ss) ∧ W.cell? ⟨g, 5, none⟩ = some (.int .i64 c.lim) ∧ W.cell? ⟨g, 6, none⟩ = some (.slice A4 c.own.length cap4)) := fun W h => box7h (hHB.out.below h hgl)
  have HBX := Lib.hid hbx
  clear hbx hB4
  have hal : ∀ (W : World) (o : Obj), Below w4.heap.size w4 W → Below w4.heap.size w4 (W.alloc o) := fun W o h => h.alloc h.size o
  have hs1 := fun o => HBX.out (w4.alloc o) (hal _ _ (Below.refl _ _))
  have hs2 := fun o o2 => HBX.out ((w4.alloc o).alloc o2) (hal _ _ (hal _ _ (Below.refl _ _)))
  have hs3 := fun o o2 o3 => HBX.out (((w4.alloc o).alloc o2).alloc o3) (hal _ _ (hal _ _ (hal _ _ (Below.refl _ _))))
  have hs3d := fun o o2 o3 => HBX.out (((w4.alloc o).alloc o2).alloc o3).drew (hal _ _ (hal _ _ (hal _ _ (Below.refl _ _)))).drew
  have hrf : Below w4.heap.size w4 w4 := Below.refl _ _
  have hdr : Below w4.heap.size w4 w4.drew := (Below.refl _ _).drew
  go_wp2_with fail
  have hB4 := hHB.out
  have hm4 : g < w4.heap.size := hgl
  refine wp_rest3 (fun a x y z => (((((a.put (some 20) (.agg #[.slice A1 c.tg.length cap1, .slice A2 c.po.length cap2, .slice A3 c.us.length cap3, .string c.sn, .string c.ss, .int .i64 c.lim, .slice A4 c.own.length cap4])).put (some 21) (.agg #[.slice A1 c.tg.length cap1, .slice A2 c.po.length cap2, .slice A3 c.us.length cap3, .string c.sn, .string c.ss, .int .i64 c.lim, .slice A4 c.own.length cap4])).put (some 22) (.agg #[.slice A1 c.tg.length cap1, .slice A2 c.po.length cap2, .slice A3 c.us.length cap3, .string c.sn, .string c.ss, .int .i64 c.lim, .slice A4 c.own.length cap4])).put (some 5) (.pointer (some ⟨x, 0, none⟩))).put (some 6) (.pointer (some ⟨y, 0, none⟩))).put (some 7) (.pointer (some ⟨z, 0, none⟩))) (fun x y z W => Below w4.heap.size w4 W ∧ (Blk W x 29 #[.slice A1 c.tg.length cap1, .slice A2 c.po.length cap2, .slice A3 c.us.length cap3, .string c.sn, .string c.ss, .int .i64 c.lim, .slice A4 c.own.length cap4] ∧ Blk W y 29 #[.slice A1 c.tg.length cap1, .slice A2 c.po.length cap2, .slice A3 c.us.length cap3, .string c.sn, .string c.ss, .int .i64 c.lim, .slice A4 c.own.length cap4] ∧ Blk W z 29 #[.slice A1 c.tg.length cap1, .slice A2 c.po.length cap2, .slice A3 c.us.length cap3, .string c.sn, .string c.ss, .int .i64 c.lim, .slice A4 c.own.length cap4]) ∧ (x ≠ y ∧ x ≠ z ∧ y ≠ z) ∧ (w4.heap.size ≤ x ∧ w4.heap.size ≤ y ∧ w4.heap.size ≤ z)) ?_ ?_
  · rintro ga gb gd W5 ⟨hb5, ⟨ba, bb, bd⟩, ⟨n1, n2, n3⟩, ⟨l1, l2, l3⟩⟩
    clear c0 c1 c2 c3 c4 c5 c6 hs1 hs2 hs3 hs3d hal hrf hdr
    obtain ⟨c0, c1, c2, c3, c4, c5, c6⟩ := HBX.out W5 hb5
    by_cases eA : (0 : Int) < (c.tg.length : Int)
    · obtain ⟨iA, hi, hil⟩ : ∃ i : Nat, pickI which c.tg.length = (i : Int) ∧ i < c.tg.length := ⟨(pickI which c.tg.length).toNat, by have := pick_rng which c.tg.length (by omega); omega, by have := pick_rng which c.tg.length (by omega); omega⟩
      have hpk := pick_any which c.tg.length W5 (by omega) (by omega)
      rw [hi] at hpk
      have HILA := Lib.hid hil
      have hiIA : (iA : Int) < (c.tg.length : Int) := by omega
      clear hi hil
      go_wp2_with fail
      refine hpk.mono ?_
      rintro e w6A ⟨rfl, rfl⟩
      go_wp2_with fail
      have hbwA := below_step hbw4 hb5
      refine (clone_str c.tg _ _ (HV.out.1.on hbwA) HLEN.out.1).mono ?_
      rintro e w7A ⟨u, rfl, hu, hb7A⟩
      have hpos : 0 < c.tg.length := by omega
      obtain ⟨kA, capA, cur, rfl, hk7, hM, hn7A, hc7A, hcur, htake⟩ : ∃ k cap cur, u = .slice (some ⟨k, 0, none⟩) c.tg.length cap ∧ W5.heap.size ≤ k ∧ BlkM w7A k 9 cur ∧ c.tg.length ≤ cap ∧ cap ≤ maxLen ∧ cur.size = cap * 1 ∧ cur.toList.take c.tg.length = c.tg.map strV := by
        rcases hu.2 with ⟨_, h0⟩ | ⟨k, cap, cur, rfl, h1, h2, h3, h4, h5, h6⟩
        · rw [List.length_map] at h0; omega
        · rw [List.length_map] at h3 h6
          rw [Nat.mul_one, map_strV] at h6
          exact ⟨k, cap, cur, by rw [List.length_map], h1, h2, h3, h4, h5, h6⟩
      have hdel := del_str c.tg kA iA capA w7A hn7A (by unfold maxLen at hc7A; omega) HILA.out (fun j u hj => by
        rw [← htake] at hj
        have hjn := (List.getElem?_eq_some_iff.1 hj).1
        rw [List.length_take] at hjn
        rw [List.getElem?_take_of_lt (by omega)] at hj
        have := hM.cell j
        rw [this, ← hj]
        simp) (fun j hj => hM.frozen j (by omega))
      go_wp2_with fail
      refine hdel.mono ?_
      rintro e w8A ⟨rfl, hcells, hb8A⟩
      have hb58A : Below W5.heap.size W5 w8A := hb7A.trans (hb8A.mono hk7)
      have bt8 := ba.below hb58A ba.lt
      have z0 := bt8.cell 0
      have y0 := bt8.frozen 0
      obtain ⟨W6, hW6⟩ : ∃ W : World, w8A.setCell ⟨ga, 0, none⟩ (.slice (some ⟨kA, 0, none⟩) (c.tg.length - 1) capA) = W := ⟨_, rfl⟩
      have hsA := hb5.size
      have hbW6 : Below w4.heap.size w4 W6 := by rw [← hW6]; exact (below_step hb5 hb58A).setCell l1 _
      have bAW6 : Blk W6 ga 29 #[.slice (some ⟨kA, 0, none⟩) (c.tg.length - 1) capA, .slice A2 c.po.length cap2, .slice A3 c.us.length cap3, .string c.sn, .string c.ss, .int .i64 c.lim, .slice A4 c.own.length cap4] := by rw [← hW6]; exact bt8.put 0 _
      have hkAA : kA ≠ ga := by have := ba.lt; omega
      have bBW6 := (bb.below hb58A bb.lt).far (p := ⟨ga, 0, none⟩) (Ne.symm n1) (.slice (some ⟨kA, 0, none⟩) (c.tg.length - 1) capA)
      rw [hW6] at bBW6
      have hkAB : kA ≠ gb := by have := bb.lt; omega
      have bCW6 := (bd.below hb58A bd.lt).far (p := ⟨ga, 0, none⟩) (Ne.symm n2) (.slice (some ⟨kA, 0, none⟩) (c.tg.length - 1) capA)
      rw [hW6] at bCW6
      have hkAC : kA ≠ gd := by have := bd.lt; omega
      have hXAW6 : kA < W6.heap.size ∧ ∀ j u, ((lessL c.tg iA).map strV)[j]? = some u → W6.cell? ⟨kA, j, none⟩ = some u := ⟨by rw [← hW6]; simp; exact Nat.lt_of_lt_of_le hM.lt hb8A.size, fun j u hj => by
        rw [← less_map] at hj
        rw [← hW6, cell_far _ _ _ _ _ hkAA]
        exact hcells j u hj⟩
      have HW6 := Lib.hid hW6
      obtain ⟨c0, c1, c2, c3, c4, c5, c6⟩ := HBX.out W6 hbW6
      clear hW6 hcells hM hu htake hcur hpk
      go_upto_region 9 with (fail)
      clear z0 y0 bt8
      refine wp_worldN HW6.out ?_
      by_cases eB : (0 : Int) < (c.po.length : Int)
      · obtain ⟨iB, hi, hil⟩ : ∃ i : Nat, pickI which c.po.length = (i : Int) ∧ i < c.po.length := ⟨(pickI which c.po.length).toNat, by have := pick_rng which c.po.length (by omega); omega, by have := pick_rng which c.po.length (by omega); omega⟩
        have hpk := pick_any which c.po.length W6 (by omega) (by omega)
        rw [hi] at hpk
        have HILB := Lib.hid hil
        have hiIB : (iB : Int) < (c.po.length : Int) := by omega
        clear hi hil
        go_wp2_with fail
        refine hpk.mono ?_
        rintro e w6B ⟨rfl, rfl⟩
        go_wp2_with fail
        have hbwB := below_step hbw4 hbW6
        refine (clone_port c.po _ _ (HV.out.2.1.on hbwB) HLEN.out.2.1).mono ?_
        rintro e w7B ⟨u, rfl, hu, hb7B⟩
        have hpos : 0 < c.po.length := by omega
        obtain ⟨kB, capB, cur, rfl, hk7, hM, hn7B, hc7B, hcur, htake⟩ : ∃ k cap cur, u = .slice (some ⟨k, 0, none⟩) c.po.length cap ∧ W6.heap.size ≤ k ∧ BlkM w7B k 40 cur ∧ c.po.length ≤ cap ∧ cap ≤ maxLen ∧ cur.size = cap * 2 ∧ cur.toList.take (c.po.length * 2) = poCells c.po := by
          rcases hu.2 with ⟨_, h0⟩ | ⟨k, cap, cur, rfl, h1, h2, h3, h4, h5, h6⟩
          · omega
          · exact ⟨k, cap, cur, rfl, h1, h2, h3, h4, h5, h6⟩
        have hdel := del_port (poCells c.po) kB c.po.length iB (iB + 1) capB w7B (by rw [poCells_len]; omega) hn7B (by unfold maxLen at hc7B; omega) rfl (by omega) (fun j u hj => by
          rw [← htake] at hj
          have hjn := (List.getElem?_eq_some_iff.1 hj).1
          rw [List.length_take] at hjn
          rw [List.getElem?_take_of_lt (by omega)] at hj
          have := hM.cell j
          rw [this, ← hj]
          simp) (fun j hj => hM.frozen j (by omega)) (fun u hu => by
          simp only [poCells, List.mem_flatMap] at hu
          obtain ⟨q, _, hq⟩ := hu
          simp at hq
          rcases hq with rfl | rfl <;> rfl)
        go_wp2_with fail
        refine hdel.mono ?_
        rintro e w8B ⟨rfl, hcells, hb8B⟩
        have hb58B : Below W6.heap.size W6 w8B := hb7B.trans (hb8B.mono hk7)
        have bt8 := bBW6.below hb58B bBW6.lt
        have z0 := bt8.cell 1
        have y0 := bt8.frozen 1
        obtain ⟨W7A, hW6⟩ : ∃ W : World, w8B.setCell ⟨gb, 1, none⟩ (.slice (some ⟨kB, 0, none⟩) (c.po.length - 1) capB) = W := ⟨_, rfl⟩
        have hsB := hbW6.size
        have hbW7A : Below w4.heap.size w4 W7A := by rw [← hW6]; exact (below_step hbW6 hb58B).setCell l2 _
        have bAW7A := (bAW6.below hb58B bAW6.lt).far (p := ⟨gb, 1, none⟩) n1 (.slice (some ⟨kB, 0, none⟩) (c.po.length - 1) capB)
        rw [hW6] at bAW7A
        have hkBA : kB ≠ ga := by have := bAW6.lt; omega
        have bBW7A : Blk W7A gb 29 #[.slice A1 c.tg.length cap1, .slice (some ⟨kB, 0, none⟩) (c.po.length - 1) capB, .slice A3 c.us.length cap3, .string c.sn, .string c.ss, .int .i64 c.lim, .slice A4 c.own.length cap4] := by rw [← hW6]; exact bt8.put 1 _
        have hkBB : kB ≠ gb := by have := bBW6.lt; omega
        have bCW7A := (bCW6.below hb58B bCW6.lt).far (p := ⟨gb, 1, none⟩) (Ne.symm n3) (.slice (some ⟨kB, 0, none⟩) (c.po.length - 1) capB)
        rw [hW6] at bCW7A
        have hkBC : kB ≠ gd := by have := bCW6.lt; omega
        have hkl := hXAW6.1
        have hXAW7A : kA < W7A.heap.size ∧ ∀ j u, ((lessL c.tg iA).map strV)[j]? = some u → W7A.cell? ⟨kA, j, none⟩ = some u := ⟨by rw [← hW6]; simp; exact Nat.lt_of_lt_of_le hkl hb58B.size, fun j u hj => by rw [← hW6, cell_far _ _ _ _ _ hkAB]; exact (hb58B.cell (p := ⟨kA, j, none⟩) hkl).trans (hXAW6.2 j u hj)⟩
        have hXBW7A : kB < W7A.heap.size ∧ ∀ j u, (poCells (lessL c.po iB))[j]? = some u → W7A.cell? ⟨kB, j, none⟩ = some u := ⟨by rw [← hW6]; simp; exact Nat.lt_of_lt_of_le hM.lt hb8B.size, fun j u hj => by
          rw [← less_pocells] at hj
          rw [← hW6, cell_far _ _ _ _ _ hkBB]
          exact hcells j u hj⟩
        have HW6 := Lib.hid hW6
        obtain ⟨c0, c1, c2, c3, c4, c5, c6⟩ := HBX.out W7A hbW7A
        clear hW6 hcells hM hu htake hcur hpk
        go_upto_region 12 with (fail)
        clear z0 y0 bt8
        refine wp_worldN HW6.out ?_
        by_cases eC : (0 : Int) < (c.us.length : Int)
        · obtain ⟨iC, hi, hil⟩ : ∃ i : Nat, pickI which c.us.length = (i : Int) ∧ i < c.us.length := ⟨(pickI which c.us.length).toNat, by have := pick_rng which c.us.length (by omega); omega, by have := pick_rng which c.us.length (by omega); omega⟩
          have hpk := pick_any which c.us.length W7A (by omega) (by omega)
          rw [hi] at hpk
          have HILC := Lib.hid hil
          have hiIC : (iC : Int) < (c.us.length : Int) := by omega
          clear hi hil
          go_wp2_with fail
          refine hpk.mono ?_
          rintro e w6C ⟨rfl, rfl⟩
          go_wp2_with fail
          have hbwC := below_step hbw4 hbW7A
          refine (clone_usr c.us _ _ (HV.out.2.2.1.on hbwC) HLEN.out.2.2.1).mono ?_
          rintro e w7C ⟨u, rfl, hu, hb7C⟩
          have hpos : 0 < c.us.length := by omega
          obtain ⟨kC, capC, cur, rfl, hk7, hM, hn7C, hc7C, hcur, htake⟩ : ∃ k cap cur, u = .slice (some ⟨k, 0, none⟩) c.us.length cap ∧ W7A.heap.size ≤ k ∧ BlkM w7C k 26 cur ∧ c.us.length ≤ cap ∧ cap ≤ maxLen ∧ cur.size = cap * 2 ∧ cur.toList.take (c.us.length * 2) = pairCells c.us := by
            rcases hu.2 with ⟨_, h0⟩ | ⟨k, cap, cur, rfl, h1, h2, h3, h4, h5, h6⟩
            · omega
            · exact ⟨k, cap, cur, rfl, h1, h2, h3, h4, h5, h6⟩
          have hdel := del_usr (pairCells c.us) kC c.us.length iC (iC + 1) capC w7C (by rw [pairCells_len]; omega) hn7C (by unfold maxLen at hc7C; omega) rfl (by omega) (fun j u hj => by
            rw [← htake] at hj
            have hjn := (List.getElem?_eq_some_iff.1 hj).1
            rw [List.length_take] at hjn
            rw [List.getElem?_take_of_lt (by omega)] at hj
            have := hM.cell j
            rw [this, ← hj]
            simp) (fun j hj => hM.frozen j (by omega)) (fun u hu => by
            simp only [pairCells, List.mem_flatMap] at hu
            obtain ⟨q, _, hq⟩ := hu
            simp at hq
            rcases hq with rfl | rfl <;> rfl)
          go_wp2_with fail
          refine hdel.mono ?_
          rintro e w8C ⟨rfl, hcells, hb8C⟩
          have hb58C : Below W7A.heap.size W7A w8C := hb7C.trans (hb8C.mono hk7)
          have bt8 := bCW7A.below hb58C bCW7A.lt
          have z0 := bt8.cell 2
          have y0 := bt8.frozen 2
          obtain ⟨W8AB, hW6⟩ : ∃ W : World, w8C.setCell ⟨gd, 2, none⟩ (.slice (some ⟨kC, 0, none⟩) (c.us.length - 1) capC) = W := ⟨_, rfl⟩
          have hsC := hbW7A.size
          have hbW8AB : Below w4.heap.size w4 W8AB := by rw [← hW6]; exact (below_step hbW7A hb58C).setCell l3 _
          have bAW8AB := (bAW7A.below hb58C bAW7A.lt).far (p := ⟨gd, 2, none⟩) n2 (.slice (some ⟨kC, 0, none⟩) (c.us.length - 1) capC)
          rw [hW6] at bAW8AB
          have hkCA : kC ≠ ga := by have := bAW7A.lt; omega
          have bBW8AB := (bBW7A.below hb58C bBW7A.lt).far (p := ⟨gd, 2, none⟩) n3 (.slice (some ⟨kC, 0, none⟩) (c.us.length - 1) capC)
          rw [hW6] at bBW8AB
          have hkCB : kC ≠ gb := by have := bBW7A.lt; omega
          have bCW8AB : Blk W8AB gd 29 #[.slice A1 c.tg.length cap1, .slice A2 c.po.length cap2, .slice (some ⟨kC, 0, none⟩) (c.us.length - 1) capC, .string c.sn, .string c.ss, .int .i64 c.lim, .slice A4 c.own.length cap4] := by rw [← hW6]; exact bt8.put 2 _
          have hkCC : kC ≠ gd := by have := bCW7A.lt; omega
          have hkl := hXAW7A.1
          have hXAW8AB : kA < W8AB.heap.size ∧ ∀ j u, ((lessL c.tg iA).map strV)[j]? = some u → W8AB.cell? ⟨kA, j, none⟩ = some u := ⟨by rw [← hW6]; simp; exact Nat.lt_of_lt_of_le hkl hb58C.size, fun j u hj => by rw [← hW6, cell_far _ _ _ _ _ hkAC]; exact (hb58C.cell (p := ⟨kA, j, none⟩) hkl).trans (hXAW7A.2 j u hj)⟩
          have hkl := hXBW7A.1
          have hXBW8AB : kB < W8AB.heap.size ∧ ∀ j u, (poCells (lessL c.po iB))[j]? = some u → W8AB.cell? ⟨kB, j, none⟩ = some u := ⟨by rw [← hW6]; simp; exact Nat.lt_of_lt_of_le hkl hb58C.size, fun j u hj => by rw [← hW6, cell_far _ _ _ _ _ hkBC]; exact (hb58C.cell (p := ⟨kB, j, none⟩) hkl).trans (hXBW7A.2 j u hj)⟩
          have hXCW8AB : kC < W8AB.heap.size ∧ ∀ j u, (pairCells (lessL c.us iC))[j]? = some u → W8AB.cell? ⟨kC, j, none⟩ = some u := ⟨by rw [← hW6]; simp; exact Nat.lt_of_lt_of_le hM.lt hb8C.size, fun j u hj => by
            rw [← less_paircells] at hj
            rw [← hW6, cell_far _ _ _ _ _ hkCC]
            exact hcells j u hj⟩
          have HW6 := Lib.hid hW6
          obtain ⟨c0, c1, c2, c3, c4, c5, c6⟩ := HBX.out W8AB hbW8AB
          clear hW6 hcells hM hu htake hcur hpk
          go_upto_region 15 with (fail)
          clear z0 y0 bt8
          refine wp_worldN HW6.out ?_
          have hbw := below_step hbw4 hbW8AB
          have horig := HV.out.on hbw
          have hlA := lessL_len c.tg iA HILA.out
          have hrdA : SRd W8AB (.slice (some ⟨kA, 0, none⟩) (c.tg.length - 1) capA) 1 (lessL c.tg iA).length ((lessL c.tg iA).map strV) := ⟨by rw [List.length_map]; simp, _, _, by rw [hlA], by omega, hc7A, fun _ => ⟨kA, 0, rfl, hXAW8AB.1, fun j u hu => by rw [Nat.zero_add]; exact hXAW8AB.2 j u hu⟩⟩
          have hrA : ∀ W', Below W8AB.heap.size W8AB W' → _ := fun W' h => tright_any { c with tg := lessL c.tg iA } _ _ _ _ W' (CfgAt.on (c := { c with tg := lessL c.tg iA }) ⟨hrdA, horig.2⟩ h) (small_tg HSM.out iA) (V.on (below_step hbw h))
          rw [less_tg c iA HCR.out] at hrA
          have HRA := Lib.hid hrA
          clear hrA
          have hlB := lessL_len c.po iB HILB.out
          have hrdB : SRd W8AB (.slice (some ⟨kB, 0, none⟩) (c.po.length - 1) capB) 2 (lessL c.po iB).length (poCells (lessL c.po iB)) := ⟨by rw [poCells_len]; omega, _, _, by rw [hlB], by omega, hc7B, fun _ => ⟨kB, 0, rfl, hXBW8AB.1, fun j u hu => by rw [Nat.zero_add]; exact hXBW8AB.2 j u hu⟩⟩
          have hrB : ∀ W', Below W8AB.heap.size W8AB W' → _ := fun W' h => tright_any { c with po := lessL c.po iB } _ _ _ _ W' (CfgAt.on (c := { c with po := lessL c.po iB }) ⟨horig.1, hrdB, horig.2.2⟩ h) (small_po HSM.out iB) (V.on (below_step hbw h))
          rw [less_po c iB HCR.out] at hrB
          have HRB := Lib.hid hrB
          clear hrB
          have hlC := lessL_len c.us iC HILC.out
          have hrdC : SRd W8AB (.slice (some ⟨kC, 0, none⟩) (c.us.length - 1) capC) 2 (lessL c.us iC).length (pairCells (lessL c.us iC)) := ⟨by rw [pairCells_len]; omega, _, _, by rw [hlC], by omega, hc7C, fun _ => ⟨kC, 0, rfl, hXCW8AB.1, fun j u hu => by rw [Nat.zero_add]; exact hXCW8AB.2 j u hu⟩⟩
          have hrC : ∀ W', Below W8AB.heap.size W8AB W' → _ := fun W' h => tright_any { c with us := lessL c.us iC } _ _ _ _ W' (CfgAt.on (c := { c with us := lessL c.us iC }) ⟨horig.1, horig.2.1, hrdC, horig.2.2.2⟩ h) (small_us HSM.out iC) (V.on (below_step hbw h))
          rw [less_us c iC HCR.out] at hrC
          have HRC := Lib.hid hrC
          clear hrC
          obtain ⟨d0, d1, d2, d3, d4, d5, d6⟩ := box7h bAW8AB
          unfold cfgV at HRA HRB HRC
          go_wp2_with fail
          refine (HRA.out W8AB (Below.refl _ _)).mono ?_
          rintro e x1 ⟨⟨r, rfl, hr⟩, hx1⟩
          obtain rfl : r = .nilIface := hr
          clear c0 c1 c2 c3 c4 c5 c6
          have by1 := bBW8AB.below hx1 bBW8AB.lt
          clear d0 d1 d2 d3 d4 d5 d6
          obtain ⟨d0, d1, d2, d3, d4, d5, d6⟩ := box7h by1
          go_wp2_with fail
          refine (HRB.out x1 hx1).mono ?_
          rintro e x2 ⟨⟨r, rfl, hr⟩, hx2⟩
          obtain rfl : r = .nilIface := hr
          have hx12 := below_step hx1 hx2
          have by2 := bCW8AB.below hx12 bCW8AB.lt
          clear d0 d1 d2 d3 d4 d5 d6
          obtain ⟨d0, d1, d2, d3, d4, d5, d6⟩ := box7h by2
          go_wp2_with fail
          refine (HRC.out x2 hx12).mono ?_
          rintro e x3 ⟨⟨r, rfl, hr⟩, hx3⟩
          obtain rfl : r = .nilIface := hr
          go_wp2_with fail
          go_ret
          exact ⟨rfl, below_step hbw (below_step hx12 hx3)⟩
        · have hbw := below_step hbw4 hbW7A
          have horig := HV.out.on hbw
          have hlA := lessL_len c.tg iA HILA.out
          have hrdA : SRd W7A (.slice (some ⟨kA, 0, none⟩) (c.tg.length - 1) capA) 1 (lessL c.tg iA).length ((lessL c.tg iA).map strV) := ⟨by rw [List.length_map]; simp, _, _, by rw [hlA], by omega, hc7A, fun _ => ⟨kA, 0, rfl, hXAW7A.1, fun j u hu => by rw [Nat.zero_add]; exact hXAW7A.2 j u hu⟩⟩
          have hrA : ∀ W', Below W7A.heap.size W7A W' → _ := fun W' h => tright_any { c with tg := lessL c.tg iA } _ _ _ _ W' (CfgAt.on (c := { c with tg := lessL c.tg iA }) ⟨hrdA, horig.2⟩ h) (small_tg HSM.out iA) (V.on (below_step hbw h))
          rw [less_tg c iA HCR.out] at hrA
          have HRA := Lib.hid hrA
          clear hrA
          have hlB := lessL_len c.po iB HILB.out
          have hrdB : SRd W7A (.slice (some ⟨kB, 0, none⟩) (c.po.length - 1) capB) 2 (lessL c.po iB).length (poCells (lessL c.po iB)) := ⟨by rw [poCells_len]; omega, _, _, by rw [hlB], by omega, hc7B, fun _ => ⟨kB, 0, rfl, hXBW7A.1, fun j u hu => by rw [Nat.zero_add]; exact hXBW7A.2 j u hu⟩⟩
          have hrB : ∀ W', Below W7A.heap.size W7A W' → _ := fun W' h => tright_any { c with po := lessL c.po iB } _ _ _ _ W' (CfgAt.on (c := { c with po := lessL c.po iB }) ⟨horig.1, hrdB, horig.2.2⟩ h) (small_po HSM.out iB) (V.on (below_step hbw h))
          rw [less_po c iB HCR.out] at hrB
          have HRB := Lib.hid hrB
          clear hrB
          have hrC : ∀ W', Below W7A.heap.size W7A W' → _ := fun W' h => tright_any c _ _ _ _ W' (horig.on h) HSM.out (V.on (below_step hbw h))
          rw [HCR.out] at hrC
          have HRC := Lib.hid hrC
          clear hrC
          obtain ⟨d0, d1, d2, d3, d4, d5, d6⟩ := box7h bAW7A
          unfold cfgV at HRA HRB HRC
          go_wp2_with fail
          refine (HRA.out W7A (Below.refl _ _)).mono ?_
          rintro e x1 ⟨⟨r, rfl, hr⟩, hx1⟩
          obtain rfl : r = .nilIface := hr
          clear c0 c1 c2 c3 c4 c5 c6
          have by1 := bBW7A.below hx1 bBW7A.lt
          clear d0 d1 d2 d3 d4 d5 d6
          obtain ⟨d0, d1, d2, d3, d4, d5, d6⟩ := box7h by1
          go_wp2_with fail
          refine (HRB.out x1 hx1).mono ?_
          rintro e x2 ⟨⟨r, rfl, hr⟩, hx2⟩
          obtain rfl : r = .nilIface := hr
          have hx12 := below_step hx1 hx2
          have by2 := bCW7A.below hx12 bCW7A.lt
          clear d0 d1 d2 d3 d4 d5 d6
          obtain ⟨d0, d1, d2, d3, d4, d5, d6⟩ := box7h by2
          go_wp2_with fail
          refine (HRC.out x2 hx12).mono ?_
          rintro e x3 ⟨⟨r, rfl, hr⟩, hx3⟩
          obtain rfl : r = .nilIface := hr
          go_wp2_with fail
          go_ret
          exact ⟨rfl, below_step hbw (below_step hx12 hx3)⟩
      · by_cases eC : (0 : Int) < (c.us.length : Int)
        · obtain ⟨iC, hi, hil⟩ : ∃ i : Nat, pickI which c.us.length = (i : Int) ∧ i < c.us.length := ⟨(pickI which c.us.length).toNat, by have := pick_rng which c.us.length (by omega); omega, by have := pick_rng which c.us.length (by omega); omega⟩
          have hpk := pick_any which c.us.length W6 (by omega) (by omega)
          rw [hi] at hpk
          have HILC := Lib.hid hil
          have hiIC : (iC : Int) < (c.us.length : Int) := by omega
          clear hi hil
          go_wp2_with fail
          refine hpk.mono ?_
          rintro e w6C ⟨rfl, rfl⟩
          go_wp2_with fail
          have hbwC := below_step hbw4 hbW6
          refine (clone_usr c.us _ _ (HV.out.2.2.1.on hbwC) HLEN.out.2.2.1).mono ?_
          rintro e w7C ⟨u, rfl, hu, hb7C⟩
          have hpos : 0 < c.us.length := by omega
          obtain ⟨kC, capC, cur, rfl, hk7, hM, hn7C, hc7C, hcur, htake⟩ : ∃ k cap cur, u = .slice (some ⟨k, 0, none⟩) c.us.length cap ∧ W6.heap.size ≤ k ∧ BlkM w7C k 26 cur ∧ c.us.length ≤ cap ∧ cap ≤ maxLen ∧ cur.size = cap * 2 ∧ cur.toList.take (c.us.length * 2) = pairCells c.us := by
            rcases hu.2 with ⟨_, h0⟩ | ⟨k, cap, cur, rfl, h1, h2, h3, h4, h5, h6⟩
            · omega
            · exact ⟨k, cap, cur, rfl, h1, h2, h3, h4, h5, h6⟩
          have hdel := del_usr (pairCells c.us) kC c.us.length iC (iC + 1) capC w7C (by rw [pairCells_len]; omega) hn7C (by unfold maxLen at hc7C; omega) rfl (by omega) (fun j u hj => by
            rw [← htake] at hj
            have hjn := (List.getElem?_eq_some_iff.1 hj).1
            rw [List.length_take] at hjn
            rw [List.getElem?_take_of_lt (by omega)] at hj
            have := hM.cell j
            rw [this, ← hj]
            simp) (fun j hj => hM.frozen j (by omega)) (fun u hu => by
            simp only [pairCells, List.mem_flatMap] at hu
            obtain ⟨q, _, hq⟩ := hu
            simp at hq
            rcases hq with rfl | rfl <;> rfl)
          go_wp2_with fail
          refine hdel.mono ?_
          rintro e w8C ⟨rfl, hcells, hb8C⟩
          have hb58C : Below W6.heap.size W6 w8C := hb7C.trans (hb8C.mono hk7)
          have bt8 := bCW6.below hb58C bCW6.lt
          have z0 := bt8.cell 2
          have y0 := bt8.frozen 2
          obtain ⟨W8A, hW6⟩ : ∃ W : World, w8C.setCell ⟨gd, 2, none⟩ (.slice (some ⟨kC, 0, none⟩) (c.us.length - 1) capC) = W := ⟨_, rfl⟩
          have hsC := hbW6.size
          have hbW8A : Below w4.heap.size w4 W8A := by rw [← hW6]; exact (below_step hbW6 hb58C).setCell l3 _
          have bAW8A := (bAW6.below hb58C bAW6.lt).far (p := ⟨gd, 2, none⟩) n2 (.slice (some ⟨kC, 0, none⟩) (c.us.length - 1) capC)
          rw [hW6] at bAW8A
          have hkCA : kC ≠ ga := by have := bAW6.lt; omega
          have bBW8A := (bBW6.below hb58C bBW6.lt).far (p := ⟨gd, 2, none⟩) n3 (.slice (some ⟨kC, 0, none⟩) (c.us.length - 1) capC)
          rw [hW6] at bBW8A
          have hkCB : kC ≠ gb := by have := bBW6.lt; omega
          have bCW8A : Blk W8A gd 29 #[.slice A1 c.tg.length cap1, .slice A2 c.po.length cap2, .slice (some ⟨kC, 0, none⟩) (c.us.length - 1) capC, .string c.sn, .string c.ss, .int .i64 c.lim, .slice A4 c.own.length cap4] := by rw [← hW6]; exact bt8.put 2 _
          have hkCC : kC ≠ gd := by have := bCW6.lt; omega
          have hkl := hXAW6.1
          have hXAW8A : kA < W8A.heap.size ∧ ∀ j u, ((lessL c.tg iA).map strV)[j]? = some u → W8A.cell? ⟨kA, j, none⟩ = some u := ⟨by rw [← hW6]; simp; exact Nat.lt_of_lt_of_le hkl hb58C.size, fun j u hj => by rw [← hW6, cell_far _ _ _ _ _ hkAC]; exact (hb58C.cell (p := ⟨kA, j, none⟩) hkl).trans (hXAW6.2 j u hj)⟩
          have hXCW8A : kC < W8A.heap.size ∧ ∀ j u, (pairCells (lessL c.us iC))[j]? = some u → W8A.cell? ⟨kC, j, none⟩ = some u := ⟨by rw [← hW6]; simp; exact Nat.lt_of_lt_of_le hM.lt hb8C.size, fun j u hj => by
            rw [← less_paircells] at hj
            rw [← hW6, cell_far _ _ _ _ _ hkCC]
            exact hcells j u hj⟩
          have HW6 := Lib.hid hW6
          obtain ⟨c0, c1, c2, c3, c4, c5, c6⟩ := HBX.out W8A hbW8A
          clear hW6 hcells hM hu htake hcur hpk
          go_upto_region 15 with (fail)
          clear z0 y0 bt8
          refine wp_worldN HW6.out ?_
          have hbw := below_step hbw4 hbW8A
          have horig := HV.out.on hbw
          have hlA := lessL_len c.tg iA HILA.out
          have hrdA : SRd W8A (.slice (some ⟨kA, 0, none⟩) (c.tg.length - 1) capA) 1 (lessL c.tg iA).length ((lessL c.tg iA).map strV) := ⟨by rw [List.length_map]; simp, _, _, by rw [hlA], by omega, hc7A, fun _ => ⟨kA, 0, rfl, hXAW8A.1, fun j u hu => by rw [Nat.zero_add]; exact hXAW8A.2 j u hu⟩⟩
          have hrA : ∀ W', Below W8A.heap.size W8A W' → _ := fun W' h => tright_any { c with tg := lessL c.tg iA } _ _ _ _ W' (CfgAt.on (c := { c with tg := lessL c.tg iA }) ⟨hrdA, horig.2⟩ h) (small_tg HSM.out iA) (V.on (below_step hbw h))
          rw [less_tg c iA HCR.out] at hrA
          have HRA := Lib.hid hrA
          clear hrA
          have hrB : ∀ W', Below W8A.heap.size W8A W' → _ := fun W' h => tright_any c _ _ _ _ W' (horig.on h) HSM.out (V.on (below_step hbw h))
          rw [HCR.out] at hrB
          have HRB := Lib.hid hrB
          clear hrB
          have hlC := lessL_len c.us iC HILC.out
          have hrdC : SRd W8A (.slice (some ⟨kC, 0, none⟩) (c.us.length - 1) capC) 2 (lessL c.us iC).length (pairCells (lessL c.us iC)) := ⟨by rw [pairCells_len]; omega, _, _, by rw [hlC], by omega, hc7C, fun _ => ⟨kC, 0, rfl, hXCW8A.1, fun j u hu => by rw [Nat.zero_add]; exact hXCW8A.2 j u hu⟩⟩
          have hrC : ∀ W', Below W8A.heap.size W8A W' → _ := fun W' h => tright_any { c with us := lessL c.us iC } _ _ _ _ W' (CfgAt.on (c := { c with us := lessL c.us iC }) ⟨horig.1, horig.2.1, hrdC, horig.2.2.2⟩ h) (small_us HSM.out iC) (V.on (below_step hbw h))
          rw [less_us c iC HCR.out] at hrC
          have HRC := Lib.hid hrC
          clear hrC
          obtain ⟨d0, d1, d2, d3, d4, d5, d6⟩ := box7h bAW8A
          unfold cfgV at HRA HRB HRC
          go_wp2_with fail
          refine (HRA.out W8A (Below.refl _ _)).mono ?_
          rintro e x1 ⟨⟨r, rfl, hr⟩, hx1⟩
          obtain rfl : r = .nilIface := hr
          clear c0 c1 c2 c3 c4 c5 c6
          have by1 := bBW8A.below hx1 bBW8A.lt
          clear d0 d1 d2 d3 d4 d5 d6
          obtain ⟨d0, d1, d2, d3, d4, d5, d6⟩ := box7h by1
          go_wp2_with fail
          refine (HRB.out x1 hx1).mono ?_
          rintro e x2 ⟨⟨r, rfl, hr⟩, hx2⟩
          obtain rfl : r = .nilIface := hr
          have hx12 := below_step hx1 hx2
          have by2 := bCW8A.below hx12 bCW8A.lt
          clear d0 d1 d2 d3 d4 d5 d6
          obtain ⟨d0, d1, d2, d3, d4, d5, d6⟩ := box7h by2
          go_wp2_with fail
          refine (HRC.out x2 hx12).mono ?_
          rintro e x3 ⟨⟨r, rfl, hr⟩, hx3⟩
          obtain rfl : r = .nilIface := hr
          go_wp2_with fail
          go_ret
          exact ⟨rfl, below_step hbw (below_step hx12 hx3)⟩
        · have hbw := below_step hbw4 hbW6
          have horig := HV.out.on hbw
          have hlA := lessL_len c.tg iA HILA.out
          have hrdA : SRd W6 (.slice (some ⟨kA, 0, none⟩) (c.tg.length - 1) capA) 1 (lessL c.tg iA).length ((lessL c.tg iA).map strV) := ⟨by rw [List.length_map]; simp, _, _, by rw [hlA], by omega, hc7A, fun _ => ⟨kA, 0, rfl, hXAW6.1, fun j u hu => by rw [Nat.zero_add]; exact hXAW6.2 j u hu⟩⟩
          have hrA : ∀ W', Below W6.heap.size W6 W' → _ := fun W' h => tright_any { c with tg := lessL c.tg iA } _ _ _ _ W' (CfgAt.on (c := { c with tg := lessL c.tg iA }) ⟨hrdA, horig.2⟩ h) (small_tg HSM.out iA) (V.on (below_step hbw h))
          rw [less_tg c iA HCR.out] at hrA
          have HRA := Lib.hid hrA
          clear hrA
          have hrB : ∀ W', Below W6.heap.size W6 W' → _ := fun W' h => tright_any c _ _ _ _ W' (horig.on h) HSM.out (V.on (below_step hbw h))
          rw [HCR.out] at hrB
          have HRB := Lib.hid hrB
          clear hrB
          have hrC : ∀ W', Below W6.heap.size W6 W' → _ := fun W' h => tright_any c _ _ _ _ W' (horig.on h) HSM.out (V.on (below_step hbw h))
          rw [HCR.out] at hrC
          have HRC := Lib.hid hrC
          clear hrC
          obtain ⟨d0, d1, d2, d3, d4, d5, d6⟩ := box7h bAW6
          unfold cfgV at HRA HRB HRC
          go_wp2_with fail
          refine (HRA.out W6 (Below.refl _ _)).mono ?_
          rintro e x1 ⟨⟨r, rfl, hr⟩, hx1⟩
          obtain rfl : r = .nilIface := hr
          clear c0 c1 c2 c3 c4 c5 c6
          have by1 := bBW6.below hx1 bBW6.lt
          clear d0 d1 d2 d3 d4 d5 d6
          obtain ⟨d0, d1, d2, d3, d4, d5, d6⟩ := box7h by1
          go_wp2_with fail
          refine (HRB.out x1 hx1).mono ?_
          rintro e x2 ⟨⟨r, rfl, hr⟩, hx2⟩
          obtain rfl : r = .nilIface := hr
          have hx12 := below_step hx1 hx2
          have by2 := bCW6.below hx12 bCW6.lt
          clear d0 d1 d2 d3 d4 d5 d6
          obtain ⟨d0, d1, d2, d3, d4, d5, d6⟩ := box7h by2
          go_wp2_with fail
          refine (HRC.out x2 hx12).mono ?_
          rintro e x3 ⟨⟨r, rfl, hr⟩, hx3⟩
          obtain rfl : r = .nilIface := hr
          go_wp2_with fail
          go_ret
          exact ⟨rfl, below_step hbw (below_step hx12 hx3)⟩
    · by_cases eB : (0 : Int) < (c.po.length : Int)
      · obtain ⟨iB, hi, hil⟩ : ∃ i : Nat, pickI which c.po.length = (i : Int) ∧ i < c.po.length := ⟨(pickI which c.po.length).toNat, by have := pick_rng which c.po.length (by omega); omega, by have := pick_rng which c.po.length (by omega); omega⟩
        have hpk := pick_any which c.po.length W5 (by omega) (by omega)
        rw [hi] at hpk
        have HILB := Lib.hid hil
        have hiIB : (iB : Int) < (c.po.length : Int) := by omega
        clear hi hil
        go_wp2_with fail
        refine hpk.mono ?_
        rintro e w6B ⟨rfl, rfl⟩
        go_wp2_with fail
        have hbwB := below_step hbw4 hb5
        refine (clone_port c.po _ _ (HV.out.2.1.on hbwB) HLEN.out.2.1).mono ?_
        rintro e w7B ⟨u, rfl, hu, hb7B⟩
        have hpos : 0 < c.po.length := by omega
        obtain ⟨kB, capB, cur, rfl, hk7, hM, hn7B, hc7B, hcur, htake⟩ : ∃ k cap cur, u = .slice (some ⟨k, 0, none⟩) c.po.length cap ∧ W5.heap.size ≤ k ∧ BlkM w7B k 40 cur ∧ c.po.length ≤ cap ∧ cap ≤ maxLen ∧ cur.size = cap * 2 ∧ cur.toList.take (c.po.length * 2) = poCells c.po := by
          rcases hu.2 with ⟨_, h0⟩ | ⟨k, cap, cur, rfl, h1, h2, h3, h4, h5, h6⟩
          · omega
          · exact ⟨k, cap, cur, rfl, h1, h2, h3, h4, h5, h6⟩
        have hdel := del_port (poCells c.po) kB c.po.length iB (iB + 1) capB w7B (by rw [poCells_len]; omega) hn7B (by unfold maxLen at hc7B; omega) rfl (by omega) (fun j u hj => by
          rw [← htake] at hj
          have hjn := (List.getElem?_eq_some_iff.1 hj).1
          rw [List.length_take] at hjn
          rw [List.getElem?_take_of_lt (by omega)] at hj
          have := hM.cell j
          rw [this, ← hj]
          simp) (fun j hj => hM.frozen j (by omega)) (fun u hu => by
          simp only [poCells, List.mem_flatMap] at hu
          obtain ⟨q, _, hq⟩ := hu
          simp at hq
          rcases hq with rfl | rfl <;> rfl)
        go_wp2_with fail
        refine hdel.mono ?_
        rintro e w8B ⟨rfl, hcells, hb8B⟩
        have hb58B : Below W5.heap.size W5 w8B := hb7B.trans (hb8B.mono hk7)
        have bt8 := bb.below hb58B bb.lt
        have z0 := bt8.cell 1
        have y0 := bt8.frozen 1
        obtain ⟨W7, hW6⟩ : ∃ W : World, w8B.setCell ⟨gb, 1, none⟩ (.slice (some ⟨kB, 0, none⟩) (c.po.length - 1) capB) = W := ⟨_, rfl⟩
        have hsB := hb5.size
        have hbW7 : Below w4.heap.size w4 W7 := by rw [← hW6]; exact (below_step hb5 hb58B).setCell l2 _
        have bAW7 := (ba.below hb58B ba.lt).far (p := ⟨gb, 1, none⟩) n1 (.slice (some ⟨kB, 0, none⟩) (c.po.length - 1) capB)
        rw [hW6] at bAW7
        have hkBA : kB ≠ ga := by have := ba.lt; omega
        have bBW7 : Blk W7 gb 29 #[.slice A1 c.tg.length cap1, .slice (some ⟨kB, 0, none⟩) (c.po.length - 1) capB, .slice A3 c.us.length cap3, .string c.sn, .string c.ss, .int .i64 c.lim, .slice A4 c.own.length cap4] := by rw [← hW6]; exact bt8.put 1 _
        have hkBB : kB ≠ gb := by have := bb.lt; omega
        have bCW7 := (bd.below hb58B bd.lt).far (p := ⟨gb, 1, none⟩) (Ne.symm n3) (.slice (some ⟨kB, 0, none⟩) (c.po.length - 1) capB)
        rw [hW6] at bCW7
        have hkBC : kB ≠ gd := by have := bd.lt; omega
        have hXBW7 : kB < W7.heap.size ∧ ∀ j u, (poCells (lessL c.po iB))[j]? = some u → W7.cell? ⟨kB, j, none⟩ = some u := ⟨by rw [← hW6]; simp; exact Nat.lt_of_lt_of_le hM.lt hb8B.size, fun j u hj => by
          rw [← less_pocells] at hj
          rw [← hW6, cell_far _ _ _ _ _ hkBB]
          exact hcells j u hj⟩
        have HW6 := Lib.hid hW6
        obtain ⟨c0, c1, c2, c3, c4, c5, c6⟩ := HBX.out W7 hbW7
        clear hW6 hcells hM hu htake hcur hpk
        go_upto_region 12 with (fail)
        clear z0 y0 bt8
        refine wp_worldN HW6.out ?_
        by_cases eC : (0 : Int) < (c.us.length : Int)
        · obtain ⟨iC, hi, hil⟩ : ∃ i : Nat, pickI which c.us.length = (i : Int) ∧ i < c.us.length := ⟨(pickI which c.us.length).toNat, by have := pick_rng which c.us.length (by omega); omega, by have := pick_rng which c.us.length (by omega); omega⟩
          have hpk := pick_any which c.us.length W7 (by omega) (by omega)
          rw [hi] at hpk
          have HILC := Lib.hid hil
          have hiIC : (iC : Int) < (c.us.length : Int) := by omega
          clear hi hil
          go_wp2_with fail
          refine hpk.mono ?_
          rintro e w6C ⟨rfl, rfl⟩
          go_wp2_with fail
          have hbwC := below_step hbw4 hbW7
          refine (clone_usr c.us _ _ (HV.out.2.2.1.on hbwC) HLEN.out.2.2.1).mono ?_
          rintro e w7C ⟨u, rfl, hu, hb7C⟩
          have hpos : 0 < c.us.length := by omega
          obtain ⟨kC, capC, cur, rfl, hk7, hM, hn7C, hc7C, hcur, htake⟩ : ∃ k cap cur, u = .slice (some ⟨k, 0, none⟩) c.us.length cap ∧ W7.heap.size ≤ k ∧ BlkM w7C k 26 cur ∧ c.us.length ≤ cap ∧ cap ≤ maxLen ∧ cur.size = cap * 2 ∧ cur.toList.take (c.us.length * 2) = pairCells c.us := by
            rcases hu.2 with ⟨_, h0⟩ | ⟨k, cap, cur, rfl, h1, h2, h3, h4, h5, h6⟩
            · omega
            · exact ⟨k, cap, cur, rfl, h1, h2, h3, h4, h5, h6⟩
          have hdel := del_usr (pairCells c.us) kC c.us.length iC (iC + 1) capC w7C (by rw [pairCells_len]; omega) hn7C (by unfold maxLen at hc7C; omega) rfl (by omega) (fun j u hj => by
            rw [← htake] at hj
            have hjn := (List.getElem?_eq_some_iff.1 hj).1
            rw [List.length_take] at hjn
            rw [List.getElem?_take_of_lt (by omega)] at hj
            have := hM.cell j
            rw [this, ← hj]
            simp) (fun j hj => hM.frozen j (by omega)) (fun u hu => by
            simp only [pairCells, List.mem_flatMap] at hu
            obtain ⟨q, _, hq⟩ := hu
            simp at hq
            rcases hq with rfl | rfl <;> rfl)
          go_wp2_with fail
          refine hdel.mono ?_
          rintro e w8C ⟨rfl, hcells, hb8C⟩
          have hb58C : Below W7.heap.size W7 w8C := hb7C.trans (hb8C.mono hk7)
          have bt8 := bCW7.below hb58C bCW7.lt
          have z0 := bt8.cell 2
          have y0 := bt8.frozen 2
          obtain ⟨W8B, hW6⟩ : ∃ W : World, w8C.setCell ⟨gd, 2, none⟩ (.slice (some ⟨kC, 0, none⟩) (c.us.length - 1) capC) = W := ⟨_, rfl⟩
          have hsC := hbW7.size
          have hbW8B : Below w4.heap.size w4 W8B := by rw [← hW6]; exact (below_step hbW7 hb58C).setCell l3 _
          have bAW8B := (bAW7.below hb58C bAW7.lt).far (p := ⟨gd, 2, none⟩) n2 (.slice (some ⟨kC, 0, none⟩) (c.us.length - 1) capC)
          rw [hW6] at bAW8B
          have hkCA : kC ≠ ga := by have := bAW7.lt; omega
          have bBW8B := (bBW7.below hb58C bBW7.lt).far (p := ⟨gd, 2, none⟩) n3 (.slice (some ⟨kC, 0, none⟩) (c.us.length - 1) capC)
          rw [hW6] at bBW8B
          have hkCB : kC ≠ gb := by have := bBW7.lt; omega
          have bCW8B : Blk W8B gd 29 #[.slice A1 c.tg.length cap1, .slice A2 c.po.length cap2, .slice (some ⟨kC, 0, none⟩) (c.us.length - 1) capC, .string c.sn, .string c.ss, .int .i64 c.lim, .slice A4 c.own.length cap4] := by rw [← hW6]; exact bt8.put 2 _
          have hkCC : kC ≠ gd := by have := bCW7.lt; omega
          have hkl := hXBW7.1
          have hXBW8B : kB < W8B.heap.size ∧ ∀ j u, (poCells (lessL c.po iB))[j]? = some u → W8B.cell? ⟨kB, j, none⟩ = some u := ⟨by rw [← hW6]; simp; exact Nat.lt_of_lt_of_le hkl hb58C.size, fun j u hj => by rw [← hW6, cell_far _ _ _ _ _ hkBC]; exact (hb58C.cell (p := ⟨kB, j, none⟩) hkl).trans (hXBW7.2 j u hj)⟩
          have hXCW8B : kC < W8B.heap.size ∧ ∀ j u, (pairCells (lessL c.us iC))[j]? = some u → W8B.cell? ⟨kC, j, none⟩ = some u := ⟨by rw [← hW6]; simp; exact Nat.lt_of_lt_of_le hM.lt hb8C.size, fun j u hj => by
            rw [← less_paircells] at hj
            rw [← hW6, cell_far _ _ _ _ _ hkCC]
            exact hcells j u hj⟩
          have HW6 := Lib.hid hW6
          obtain ⟨c0, c1, c2, c3, c4, c5, c6⟩ := HBX.out W8B hbW8B
          clear hW6 hcells hM hu htake hcur hpk
          go_upto_region 15 with (fail)
          clear z0 y0 bt8
          refine wp_worldN HW6.out ?_
          have hbw := below_step hbw4 hbW8B
          have horig := HV.out.on hbw
          have hrA : ∀ W', Below W8B.heap.size W8B W' → _ := fun W' h => tright_any c _ _ _ _ W' (horig.on h) HSM.out (V.on (below_step hbw h))
          rw [HCR.out] at hrA
          have HRA := Lib.hid hrA
          clear hrA
          have hlB := lessL_len c.po iB HILB.out
          have hrdB : SRd W8B (.slice (some ⟨kB, 0, none⟩) (c.po.length - 1) capB) 2 (lessL c.po iB).length (poCells (lessL c.po iB)) := ⟨by rw [poCells_len]; omega, _, _, by rw [hlB], by omega, hc7B, fun _ => ⟨kB, 0, rfl, hXBW8B.1, fun j u hu => by rw [Nat.zero_add]; exact hXBW8B.2 j u hu⟩⟩
          have hrB : ∀ W', Below W8B.heap.size W8B W' → _ := fun W' h => tright_any { c with po := lessL c.po iB } _ _ _ _ W' (CfgAt.on (c := { c with po := lessL c.po iB }) ⟨horig.1, hrdB, horig.2.2⟩ h) (small_po HSM.out iB) (V.on (below_step hbw h))
          rw [less_po c iB HCR.out] at hrB
          have HRB := Lib.hid hrB
          clear hrB
          have hlC := lessL_len c.us iC HILC.out
          have hrdC : SRd W8B (.slice (some ⟨kC, 0, none⟩) (c.us.length - 1) capC) 2 (lessL c.us iC).length (pairCells (lessL c.us iC)) := ⟨by rw [pairCells_len]; omega, _, _, by rw [hlC], by omega, hc7C, fun _ => ⟨kC, 0, rfl, hXCW8B.1, fun j u hu => by rw [Nat.zero_add]; exact hXCW8B.2 j u hu⟩⟩
          have hrC : ∀ W', Below W8B.heap.size W8B W' → _ := fun W' h => tright_any { c with us := lessL c.us iC } _ _ _ _ W' (CfgAt.on (c := { c with us := lessL c.us iC }) ⟨horig.1, horig.2.1, hrdC, horig.2.2.2⟩ h) (small_us HSM.out iC) (V.on (below_step hbw h))
          rw [less_us c iC HCR.out] at hrC
          have HRC := Lib.hid hrC
          clear hrC
          obtain ⟨d0, d1, d2, d3, d4, d5, d6⟩ := box7h bAW8B
          unfold cfgV at HRA HRB HRC
          go_wp2_with fail
          refine (HRA.out W8B (Below.refl _ _)).mono ?_
          rintro e x1 ⟨⟨r, rfl, hr⟩, hx1⟩
          obtain rfl : r = .nilIface := hr
          clear c0 c1 c2 c3 c4 c5 c6
          have by1 := bBW8B.below hx1 bBW8B.lt
          clear d0 d1 d2 d3 d4 d5 d6
          obtain ⟨d0, d1, d2, d3, d4, d5, d6⟩ := box7h by1
          go_wp2_with fail
          refine (HRB.out x1 hx1).mono ?_
          rintro e x2 ⟨⟨r, rfl, hr⟩, hx2⟩
          obtain rfl : r = .nilIface := hr
          have hx12 := below_step hx1 hx2
          have by2 := bCW8B.below hx12 bCW8B.lt
          clear d0 d1 d2 d3 d4 d5 d6
          obtain ⟨d0, d1, d2, d3, d4, d5, d6⟩ := box7h by2
          go_wp2_with fail
          refine (HRC.out x2 hx12).mono ?_
          rintro e x3 ⟨⟨r, rfl, hr⟩, hx3⟩
          obtain rfl : r = .nilIface := hr
          go_wp2_with fail
          go_ret
          exact ⟨rfl, below_step hbw (below_step hx12 hx3)⟩
        · have hbw := below_step hbw4 hbW7
          have horig := HV.out.on hbw
          have hrA : ∀ W', Below W7.heap.size W7 W' → _ := fun W' h => tright_any c _ _ _ _ W' (horig.on h) HSM.out (V.on (below_step hbw h))
          rw [HCR.out] at hrA
          have HRA := Lib.hid hrA
          clear hrA
          have hlB := lessL_len c.po iB HILB.out
          have hrdB : SRd W7 (.slice (some ⟨kB, 0, none⟩) (c.po.length - 1) capB) 2 (lessL c.po iB).length (poCells (lessL c.po iB)) := ⟨by rw [poCells_len]; omega, _, _, by rw [hlB], by omega, hc7B, fun _ => ⟨kB, 0, rfl, hXBW7.1, fun j u hu => by rw [Nat.zero_add]; exact hXBW7.2 j u hu⟩⟩
          have hrB : ∀ W', Below W7.heap.size W7 W' → _ := fun W' h => tright_any { c with po := lessL c.po iB } _ _ _ _ W' (CfgAt.on (c := { c with po := lessL c.po iB }) ⟨horig.1, hrdB, horig.2.2⟩ h) (small_po HSM.out iB) (V.on (below_step hbw h))
          rw [less_po c iB HCR.out] at hrB
          have HRB := Lib.hid hrB
          clear hrB
          have hrC : ∀ W', Below W7.heap.size W7 W' → _ := fun W' h => tright_any c _ _ _ _ W' (horig.on h) HSM.out (V.on (below_step hbw h))
          rw [HCR.out] at hrC
          have HRC := Lib.hid hrC
          clear hrC
          obtain ⟨d0, d1, d2, d3, d4, d5, d6⟩ := box7h bAW7
          unfold cfgV at HRA HRB HRC
          go_wp2_with fail
          refine (HRA.out W7 (Below.refl _ _)).mono ?_
          rintro e x1 ⟨⟨r, rfl, hr⟩, hx1⟩
          obtain rfl : r = .nilIface := hr
          clear c0 c1 c2 c3 c4 c5 c6
          have by1 := bBW7.below hx1 bBW7.lt
          clear d0 d1 d2 d3 d4 d5 d6
          obtain ⟨d0, d1, d2, d3, d4, d5, d6⟩ := box7h by1
          go_wp2_with fail
          refine (HRB.out x1 hx1).mono ?_
          rintro e x2 ⟨⟨r, rfl, hr⟩, hx2⟩
          obtain rfl : r = .nilIface := hr
          have hx12 := below_step hx1 hx2
          have by2 := bCW7.below hx12 bCW7.lt
          clear d0 d1 d2 d3 d4 d5 d6
          obtain ⟨d0, d1, d2, d3, d4, d5, d6⟩ := box7h by2
          go_wp2_with fail
          refine (HRC.out x2 hx12).mono ?_
          rintro e x3 ⟨⟨r, rfl, hr⟩, hx3⟩
          obtain rfl : r = .nilIface := hr
          go_wp2_with fail
          go_ret
          exact ⟨rfl, below_step hbw (below_step hx12 hx3)⟩
      · by_cases eC : (0 : Int) < (c.us.length : Int)
        · obtain ⟨iC, hi, hil⟩ : ∃ i : Nat, pickI which c.us.length = (i : Int) ∧ i < c.us.length := ⟨(pickI which c.us.length).toNat, by have := pick_rng which c.us.length (by omega); omega, by have := pick_rng which c.us.length (by omega); omega⟩
          have hpk := pick_any which c.us.length W5 (by omega) (by omega)
          rw [hi] at hpk
          have HILC := Lib.hid hil
          have hiIC : (iC : Int) < (c.us.length : Int) := by omega
          clear hi hil
          go_wp2_with fail
          refine hpk.mono ?_
          rintro e w6C ⟨rfl, rfl⟩
          go_wp2_with fail
          have hbwC := below_step hbw4 hb5
          refine (clone_usr c.us _ _ (HV.out.2.2.1.on hbwC) HLEN.out.2.2.1).mono ?_
          rintro e w7C ⟨u, rfl, hu, hb7C⟩
          have hpos : 0 < c.us.length := by omega
          obtain ⟨kC, capC, cur, rfl, hk7, hM, hn7C, hc7C, hcur, htake⟩ : ∃ k cap cur, u = .slice (some ⟨k, 0, none⟩) c.us.length cap ∧ W5.heap.size ≤ k ∧ BlkM w7C k 26 cur ∧ c.us.length ≤ cap ∧ cap ≤ maxLen ∧ cur.size = cap * 2 ∧ cur.toList.take (c.us.length * 2) = pairCells c.us := by
            rcases hu.2 with ⟨_, h0⟩ | ⟨k, cap, cur, rfl, h1, h2, h3, h4, h5, h6⟩
            · omega
            · exact ⟨k, cap, cur, rfl, h1, h2, h3, h4, h5, h6⟩
          have hdel := del_usr (pairCells c.us) kC c.us.length iC (iC + 1) capC w7C (by rw [pairCells_len]; omega) hn7C (by unfold maxLen at hc7C; omega) rfl (by omega) (fun j u hj => by
            rw [← htake] at hj
            have hjn := (List.getElem?_eq_some_iff.1 hj).1
            rw [List.length_take] at hjn
            rw [List.getElem?_take_of_lt (by omega)] at hj
            have := hM.cell j
            rw [this, ← hj]
            simp) (fun j hj => hM.frozen j (by omega)) (fun u hu => by
            simp only [pairCells, List.mem_flatMap] at hu
            obtain ⟨q, _, hq⟩ := hu
            simp at hq
            rcases hq with rfl | rfl <;> rfl)
          go_wp2_with fail
          refine hdel.mono ?_
          rintro e w8C ⟨rfl, hcells, hb8C⟩
          have hb58C : Below W5.heap.size W5 w8C := hb7C.trans (hb8C.mono hk7)
          have bt8 := bd.below hb58C bd.lt
          have z0 := bt8.cell 2
          have y0 := bt8.frozen 2
          obtain ⟨W8, hW6⟩ : ∃ W : World, w8C.setCell ⟨gd, 2, none⟩ (.slice (some ⟨kC, 0, none⟩) (c.us.length - 1) capC) = W := ⟨_, rfl⟩
          have hsC := hb5.size
          have hbW8 : Below w4.heap.size w4 W8 := by rw [← hW6]; exact (below_step hb5 hb58C).setCell l3 _
          have bAW8 := (ba.below hb58C ba.lt).far (p := ⟨gd, 2, none⟩) n2 (.slice (some ⟨kC, 0, none⟩) (c.us.length - 1) capC)
          rw [hW6] at bAW8
          have hkCA : kC ≠ ga := by have := ba.lt; omega
          have bBW8 := (bb.below hb58C bb.lt).far (p := ⟨gd, 2, none⟩) n3 (.slice (some ⟨kC, 0, none⟩) (c.us.length - 1) capC)
          rw [hW6] at bBW8
          have hkCB : kC ≠ gb := by have := bb.lt; omega
          have bCW8 : Blk W8 gd 29 #[.slice A1 c.tg.length cap1, .slice A2 c.po.length cap2, .slice (some ⟨kC, 0, none⟩) (c.us.length - 1) capC, .string c.sn, .string c.ss, .int .i64 c.lim, .slice A4 c.own.length cap4] := by rw [← hW6]; exact bt8.put 2 _
          have hkCC : kC ≠ gd := by have := bd.lt; omega
          have hXCW8 : kC < W8.heap.size ∧ ∀ j u, (pairCells (lessL c.us iC))[j]? = some u → W8.cell? ⟨kC, j, none⟩ = some u := ⟨by rw [← hW6]; simp; exact Nat.lt_of_lt_of_le hM.lt hb8C.size, fun j u hj => by
            rw [← less_paircells] at hj
            rw [← hW6, cell_far _ _ _ _ _ hkCC]
            exact hcells j u hj⟩
          have HW6 := Lib.hid hW6
          obtain ⟨c0, c1, c2, c3, c4, c5, c6⟩ := HBX.out W8 hbW8
          clear hW6 hcells hM hu htake hcur hpk
          go_upto_region 15 with (fail)
          clear z0 y0 bt8
          refine wp_worldN HW6.out ?_
          have hbw := below_step hbw4 hbW8
          have horig := HV.out.on hbw
          have hrA : ∀ W', Below W8.heap.size W8 W' → _ := fun W' h => tright_any c _ _ _ _ W' (horig.on h) HSM.out (V.on (below_step hbw h))
          rw [HCR.out] at hrA
          have HRA := Lib.hid hrA
          clear hrA
          have hrB : ∀ W', Below W8.heap.size W8 W' → _ := fun W' h => tright_any c _ _ _ _ W' (horig.on h) HSM.out (V.on (below_step hbw h))
          rw [HCR.out] at hrB
          have HRB := Lib.hid hrB
          clear hrB
          have hlC := lessL_len c.us iC HILC.out
          have hrdC : SRd W8 (.slice (some ⟨kC, 0, none⟩) (c.us.length - 1) capC) 2 (lessL c.us iC).length (pairCells (lessL c.us iC)) := ⟨by rw [pairCells_len]; omega, _, _, by rw [hlC], by omega, hc7C, fun _ => ⟨kC, 0, rfl, hXCW8.1, fun j u hu => by rw [Nat.zero_add]; exact hXCW8.2 j u hu⟩⟩
          have hrC : ∀ W', Below W8.heap.size W8 W' → _ := fun W' h => tright_any { c with us := lessL c.us iC } _ _ _ _ W' (CfgAt.on (c := { c with us := lessL c.us iC }) ⟨horig.1, horig.2.1, hrdC, horig.2.2.2⟩ h) (small_us HSM.out iC) (V.on (below_step hbw h))
          rw [less_us c iC HCR.out] at hrC
          have HRC := Lib.hid hrC
          clear hrC
          obtain ⟨d0, d1, d2, d3, d4, d5, d6⟩ := box7h bAW8
          unfold cfgV at HRA HRB HRC
          go_wp2_with fail
          refine (HRA.out W8 (Below.refl _ _)).mono ?_
          rintro e x1 ⟨⟨r, rfl, hr⟩, hx1⟩
          obtain rfl : r = .nilIface := hr
          clear c0 c1 c2 c3 c4 c5 c6
          have by1 := bBW8.below hx1 bBW8.lt
          clear d0 d1 d2 d3 d4 d5 d6
          obtain ⟨d0, d1, d2, d3, d4, d5, d6⟩ := box7h by1
          go_wp2_with fail
          refine (HRB.out x1 hx1).mono ?_
          rintro e x2 ⟨⟨r, rfl, hr⟩, hx2⟩
          obtain rfl : r = .nilIface := hr
          have hx12 := below_step hx1 hx2
          have by2 := bCW8.below hx12 bCW8.lt
          clear d0 d1 d2 d3 d4 d5 d6
          obtain ⟨d0, d1, d2, d3, d4, d5, d6⟩ := box7h by2
          go_wp2_with fail
          refine (HRC.out x2 hx12).mono ?_
          rintro e x3 ⟨⟨r, rfl, hr⟩, hx3⟩
          obtain rfl : r = .nilIface := hr
          go_wp2_with fail
          go_ret
          exact ⟨rfl, below_step hbw (below_step hx12 hx3)⟩
        · have hbw := below_step hbw4 hb5
          have horig := HV.out.on hbw
          have hrA : ∀ W', Below W5.heap.size W5 W' → _ := fun W' h => tright_any c _ _ _ _ W' (horig.on h) HSM.out (V.on (below_step hbw h))
          rw [HCR.out] at hrA
          have HRA := Lib.hid hrA
          clear hrA
          have hrB : ∀ W', Below W5.heap.size W5 W' → _ := fun W' h => tright_any c _ _ _ _ W' (horig.on h) HSM.out (V.on (below_step hbw h))
          rw [HCR.out] at hrB
          have HRB := Lib.hid hrB
          clear hrB
          have hrC : ∀ W', Below W5.heap.size W5 W' → _ := fun W' h => tright_any c _ _ _ _ W' (horig.on h) HSM.out (V.on (below_step hbw h))
          rw [HCR.out] at hrC
          have HRC := Lib.hid hrC
          clear hrC
          obtain ⟨d0, d1, d2, d3, d4, d5, d6⟩ := box7h ba
          unfold cfgV at HRA HRB HRC
          go_wp2_with fail
          refine (HRA.out W5 (Below.refl _ _)).mono ?_
          rintro e x1 ⟨⟨r, rfl, hr⟩, hx1⟩
          obtain rfl : r = .nilIface := hr
          clear c0 c1 c2 c3 c4 c5 c6
          have by1 := bb.below hx1 bb.lt
          clear d0 d1 d2 d3 d4 d5 d6
          obtain ⟨d0, d1, d2, d3, d4, d5, d6⟩ := box7h by1
          go_wp2_with fail
          refine (HRB.out x1 hx1).mono ?_
          rintro e x2 ⟨⟨r, rfl, hr⟩, hx2⟩
          obtain rfl : r = .nilIface := hr
          have hx12 := below_step hx1 hx2
          have by2 := bd.below hx12 bd.lt
          clear d0 d1 d2 d3 d4 d5 d6
          obtain ⟨d0, d1, d2, d3, d4, d5, d6⟩ := box7h by2
          go_wp2_with fail
          refine (HRC.out x2 hx12).mono ?_
          rintro e x3 ⟨⟨r, rfl, hr⟩, hx3⟩
          obtain rfl : r = .nilIface := hr
          go_wp2_with fail
          go_ret
          exact ⟨rfl, below_step hbw (below_step hx12 hx3)⟩
  · intro REST
    have r0 : Below w4.heap.size w4 (((w4.alloc (.cells #[.slice A1 c.tg.length cap1, .slice A2 c.po.length cap2, .slice A3 c.us.length cap3, .string c.sn, .string c.ss, .int .i64 c.lim, .slice A4 c.own.length cap4] 29)).alloc (.cells #[.slice A1 c.tg.length cap1, .slice A2 c.po.length cap2, .slice A3 c.us.length cap3, .string c.sn, .string c.ss, .int .i64 c.lim, .slice A4 c.own.length cap4] 29)).alloc (.cells #[.slice A1 c.tg.length cap1, .slice A2 c.po.length cap2, .slice A3 c.us.length cap3, .string c.sn, .string c.ss, .int .i64 c.lim, .slice A4 c.own.length cap4] 29)).drew := (hal _ _ (hal _ _ (hal _ _ (Below.refl _ _)))).drew
    have p0 : Blk (((w4.alloc (.cells #[.slice A1 c.tg.length cap1, .slice A2 c.po.length cap2, .slice A3 c.us.length cap3, .string c.sn, .string c.ss, .int .i64 c.lim, .slice A4 c.own.length cap4] 29)).alloc (.cells #[.slice A1 c.tg.length cap1, .slice A2 c.po.length cap2, .slice A3 c.us.length cap3, .string c.sn, .string c.ss, .int .i64 c.lim, .slice A4 c.own.length cap4] 29)).alloc (.cells #[.slice A1 c.tg.length cap1, .slice A2 c.po.length cap2, .slice A3 c.us.length cap3, .string c.sn, .string c.ss, .int .i64 c.lim, .slice A4 c.own.length cap4] 29)).drew w4.heap.size 29 #[.slice A1 c.tg.length cap1, .slice A2 c.po.length cap2, .slice A3 c.us.length cap3, .string c.sn, .string c.ss, .int .i64 c.lim, .slice A4 c.own.length cap4] := ((Blk.new w4 _ _).alloc _).alloc _
    have p1 : Blk (((w4.alloc (.cells #[.slice A1 c.tg.length cap1, .slice A2 c.po.length cap2, .slice A3 c.us.length cap3, .string c.sn, .string c.ss, .int .i64 c.lim, .slice A4 c.own.length cap4] 29)).alloc (.cells #[.slice A1 c.tg.length cap1, .slice A2 c.po.length cap2, .slice A3 c.us.length cap3, .string c.sn, .string c.ss, .int .i64 c.lim, .slice A4 c.own.length cap4] 29)).alloc (.cells #[.slice A1 c.tg.length cap1, .slice A2 c.po.length cap2, .slice A3 c.us.length cap3, .string c.sn, .string c.ss, .int .i64 c.lim, .slice A4 c.own.length cap4] 29)).drew (w4.heap.size + 1) 29 #[.slice A1 c.tg.length cap1, .slice A2 c.po.length cap2, .slice A3 c.us.length cap3, .string c.sn, .string c.ss, .int .i64 c.lim, .slice A4 c.own.length cap4] := blk_at1 w4 _ _ _ _
    have p2 : Blk (((w4.alloc (.cells #[.slice A1 c.tg.length cap1, .slice A2 c.po.length cap2, .slice A3 c.us.length cap3, .string c.sn, .string c.ss, .int .i64 c.lim, .slice A4 c.own.length cap4] 29)).alloc (.cells #[.slice A1 c.tg.length cap1, .slice A2 c.po.length cap2, .slice A3 c.us.length cap3, .string c.sn, .string c.ss, .int .i64 c.lim, .slice A4 c.own.length cap4] 29)).alloc (.cells #[.slice A1 c.tg.length cap1, .slice A2 c.po.length cap2, .slice A3 c.us.length cap3, .string c.sn, .string c.ss, .int .i64 c.lim, .slice A4 c.own.length cap4] 29)).drew (w4.heap.size + 1 + 1) 29 #[.slice A1 c.tg.length cap1, .slice A2 c.po.length cap2, .slice A3 c.us.length cap3, .string c.sn, .string c.ss, .int .i64 c.lim, .slice A4 c.own.length cap4] := blk_at2 w4 _ _ _ _
    go_region_held3 (fun w' => w'.cell? ⟨g, 0, none⟩ = some (.slice A1 c.tg.length cap1) ∧ w'.cell? ⟨g, 1, none⟩ = some (.slice A2 c.po.length cap2) ∧ w'.cell? ⟨g, 2, none⟩ = some (.slice A3 c.us.length cap3) ∧ w'.cell? ⟨g, 3, none⟩ = some (.string c.sn) ∧ w'.cell? ⟨g, 4, none⟩ = some (.string c.ss) ∧ w'.cell? ⟨g, 5, none⟩ = some (.int .i64 c.lim) ∧ w'.cell? ⟨g, 6, none⟩ = some (.slice A4 c.own.length cap4)) (first | (with_reducible exact ⟨c0, c1, c2, c3, c4, c5, c6⟩) | (exact hs3d _ _ _) | (exact hs3 _ _ _) | (exact hs2 _ _) | (exact hs1 _) | go_keep) (fail)
    all_goals first
      | exact REST w4.heap.size (w4.heap.size + 1) (w4.heap.size + 1 + 1) _ ⟨r0, ⟨p0, p1, p2⟩, by omega, by omega⟩
      | exact REST w4.heap.size (w4.heap.size + 1 + 1) (w4.heap.size + 1) _ ⟨r0, ⟨p0, p2, p1⟩, by omega, by omega⟩
      | exact REST (w4.heap.size + 1) w4.heap.size (w4.heap.size + 1 + 1) _ ⟨r0, ⟨p1, p0, p2⟩, by omega, by omega⟩
      | exact REST (w4.heap.size + 1) (w4.heap.size + 1 + 1) w4.heap.size _ ⟨r0, ⟨p1, p2, p0⟩, by omega, by omega⟩
      | exact REST (w4.heap.size + 1 + 1) w4.heap.size (w4.heap.size + 1) _ ⟨r0, ⟨p2, p0, p1⟩, by omega, by omega⟩
      | exact REST (w4.heap.size + 1 + 1) (w4.heap.size + 1) w4.heap.size _ ⟨r0, ⟨p2, p1, p0⟩, by omega, by omega⟩
end Go.Proofs.YtadhlnpegigadaaGreatDoor
