/- What FullParts asks with: its sessions, and its function. -/
import Derived.Test.YtamlepacljjpiaaGreatDoorFullSessJ
import Derived.Test.YtamlepacljjpiaaGreatDoorFullPlays
import Derived.Test.YtamlepacljjpiaaGreatDoorFullTextP
namespace Go.Proofs.YtamlepacljjpiaaGreatDoor
open Go.ChangeShapes Go.WideShapes Go.ChangeAt Go.RowKit Go.Shelf
set_option linter.unusedVariables false
set_option linter.unusedSimpArgs false
theorem conf_fresh (w : World) : Calls Tryz.prog 24 #[] w fun e w' => (∃ tv pv uv ov, e = .returned (cfgV tv pv uv ov confC) ∧ CfgAt w' tv pv uv ov confC ∧ ConfFar w.heap.size tv pv uv ov confC) ∧ Below w.heap.size w w' := by
  obtain ⟨g, hg⟩ : ∃ g, w.heap.size = g := ⟨_, rfl⟩
  go_enter Tryz.func24, Tryz.ntmps24
  go_wp2_with fail
  rw [hg]
  obtain ⟨O0, hO0⟩ : ∃ O : Array Value, #[Value.slice (some ⟨g + 1, 0, none⟩) 2 2, .slice (some ⟨g + 1 + 1, 0, none⟩) 2 2, .slice none 0 0, .string ⟨#[]⟩, .string ⟨#[]⟩, .int .i64 8192, .slice none 0 0] = O := ⟨_, rfl⟩
  obtain ⟨O1, hO1⟩ : ∃ O : Array Value, #[Value.string ⟨#[105, 113, 110, 46, 97]⟩, .string ⟨#[105, 113, 110, 46, 98]⟩] = O := ⟨_, rfl⟩
  obtain ⟨O2, hO2⟩ : ∃ O : Array Value, #[Value.string ⟨#[49, 48, 46, 48, 46, 48, 46, 49, 58, 51, 50, 54, 48]⟩, .int .i64 1, .string ⟨#[91, 58, 58, 49, 93, 58, 51, 50, 54, 48]⟩, .int .i64 2] = O := ⟨_, rfl⟩
  have b0 : Blk (w.alloc (.cells O0 29)) g 29 O0 := by rw [← hg]; exact Blk.new w _ _
  have hz1 : (w.alloc (.cells O0 29)).heap.size = g + 1 := by simp [hg]
  have b1 : Blk ((w.alloc (.cells O0 29)).alloc (.cells O1 9)) (g + 1) 9 O1 := by have := Blk.new (w.alloc (.cells O0 29)) 9 O1; rw [hz1] at this; exact this
  have hz2 : ((w.alloc (.cells O0 29)).alloc (.cells O1 9)).heap.size = g + 1 + 1 := by simp [hg]
  have b2 : Blk (((w.alloc (.cells O0 29)).alloc (.cells O1 9)).alloc (.cells O2 114)) (g + 1 + 1) 114 O2 := by have := Blk.new ((w.alloc (.cells O0 29)).alloc (.cells O1 9)) 114 O2; rw [hz2] at this; exact this
  have hb : Below w.heap.size w (((w.alloc (.cells O0 29)).alloc (.cells O1 9)).alloc (.cells O2 114)) := (((Below.refl _ _).alloc (Nat.le_refl _) _).alloc (by simp) _).alloc (by simp; omega) _
  have b0' := (b0.alloc (.cells O1 9)).alloc (.cells O2 114)
  have b1' := b1.alloc (.cells O2 114)
  refine bodyPost_ret (v := .agg O0) (results_cell_row rfl _ _ g _ O0 _ _ rfl (by rw [hO0, hO1, hO2]; exact b0') Tryz.underlying29 rfl (by rw [← hO0]; kernel_rfl)) rfl ?_
  rw [hO0, hO1, hO2]
  refine ⟨⟨.slice (some ⟨g + 1, 0, none⟩) 2 2, .slice (some ⟨g + 1 + 1, 0, none⟩) 2 2, .slice none 0 0, .slice none 0 0, ?_, ?_, ?_⟩, by rw [← hg]; exact hb⟩
  · rw [← hO0]; rfl
  · refine ⟨⟨by rfl, _, _, rfl, by decide, by decide, fun _ => ⟨g + 1, 0, rfl, b1'.lt, fun j u hu => ?_⟩⟩, ⟨by rfl, _, _, rfl, by decide, by decide, fun _ => ⟨g + 1 + 1, 0, rfl, b2.lt, fun j u hu => ?_⟩⟩, rd_nil _ _, rd_nil _ _⟩
    · rw [Nat.zero_add]
      refine (b1'.cell j).trans ?_
      rw [← hO1]
      show ((confC.tg.map strV).toArray)[j]? = some u
      rw [List.getElem?_toArray]
      exact hu
    · rw [Nat.zero_add]
      refine (b2.cell j).trans ?_
      rw [← hO2]
      show ((poCells confC.po).toArray)[j]? = some u
      rw [List.getElem?_toArray]
      exact hu
  · refine ⟨fun _ k hk => ?_, fun _ k hk => ?_, fun _ k hk => ?_, fun _ k hk => ?_⟩
    · have h1 : g + 1 = k := by injection hk
      omega
    · have h1 : g + 1 + 1 = k := by injection hk
      omega
    · cases hk
    · cases hk
theorem sessJ_any {w0 w : World} {tv pv uv ov : Value} (hc : CfgAt w0 tv pv uv ov confC) (V : Env w0) (hb : Below w0.heap.size w0 w) (disc : Bool) :
    Calls Tryz.prog 12 #[cfgV tv pv uv ov confC, .slice none 0 0, .bool disc, .int .u32 0, .int .u32 0] w fun e w' => (∃ f S, e = .returned (.pointer (some ⟨f, 0, none⟩)) ∧ FullJ tv pv uv ov w0 w' S f (sessP confC [] disc 0 0) ∧ ∀ k ∈ S, w.heap.size ≤ k) ∧ Below w.heap.size w w' := by
  refine (session_j confC tv pv uv ov [] (.slice none 0 0) disc 0 0 hc confC_small hb (rd_nil _ _) (fun p hp => by cases hp) V (by decide) (by decide) (fun b => b = false) (fun b => b = false) ?_ ?_).mono ?_
  · intro W hW
    refine (crowded_few confC tv pv uv ov W (hc.on hW) confC_small confC_few).mono ?_
    rintro e w' ⟨rfl, h⟩
    exact ⟨⟨false, rfl, rfl⟩, h⟩
  · intro W hW
    refine (thick_few [] _ W hW (fun p hp => by cases hp) (by decide)).mono ?_
    rintro e w' ⟨rfl, h⟩
    exact ⟨⟨false, rfl, rfl⟩, h⟩
  · rintro e w' ⟨h, hbw⟩
    refine ⟨?_, hbw⟩
    rcases h with ⟨h1 | h1 | h1, _⟩ | h
    · cases h1
    · cases h1
    · exact absurd confC_right h1
    · exact h
def AskIs (base : Nat) (fl : Int) (s : ByteArray) (e : Ending) (w' : World) : Prop := ∃ A cap, e = .returned (.agg #[.int .i64 4, .bool true, .int .i64 fl, .slice A 5 cap, .slice none 0 0, .string s]) ∧ PdOk w' (textP fl noneN s, reqPart (.slice A 5 cap)) ∧ ∀ k, Value.ownBlock (.slice A 5 cap) = some k → base ≤ k
set_option maxRecDepth 20000 in
set_option maxHeartbeats 8000000 in
theorem askF_any (fl : Int) (s : ByteArray) (W : World) (hf : fl = 64 ∨ fl = 128) (hs : s.size ≤ 100000) (V : Env W) :
    Calls Tryz.prog 36 #[.int .i64 fl, .string s] W fun e w' => AskIs W.heap.size fl s e w' ∧ Below W.heap.size W w' := by
  obtain ⟨R, hRR⟩ : ∃ R, W.heap.size = R := ⟨_, rfl⟩
  have hbw : Below W.heap.size W (W.alloc (.cells zeroPd 41)) := (Below.refl _ _).alloc (Nat.le_refl _) _
  have hBR := Blk.new W 41 zeroPd
  obtain ⟨W1, hW1⟩ : ∃ X : World, W.alloc (.cells zeroPd 41) = X := ⟨_, rfl⟩
  rw [hW1] at hbw hBR
  rw [hRR] at hBR
  have hW1' : W.alloc (.cells #[.int .i64 0, .bool false, .int .i64 0, .slice none 0 0, .slice none 0 0, .string ⟨#[]⟩] 41) = W1 := hW1
  have V1 := V.on hbw
  have hmk : makeR 4 fl ([nITT, nTTT].map (·.data.toList)) [1, noneN] = .inr [0, 1, noneN, 0, 0] := by
    rcases hf with rfl | rfl
    · exact make4 (fl := 64) (b := 1) (c := noneN) (by simp) (by decide) (by decide)
    · exact make4 (fl := 128) (b := 1) (c := noneN) (by simp) (by decide) (by decide)
  have hfr : -9223372036854775808 ≤ fl ∧ fl ≤ 9223372036854775807 := by omega
  have hbl3 : Below W1.heap.size W1 ((W1.alloc (.cells #[.string ⟨#[73, 84, 84]⟩, .string ⟨#[84, 84, 84]⟩] 9)).alloc (.cells #[.int .u64 1, .int .u64 4294967295] 49)) := ((Below.refl _ _).alloc (Nat.le_refl _) _).alloc (by simp) _
  have hnv3 : SRd ((W1.alloc (.cells #[.string ⟨#[73, 84, 84]⟩, .string ⟨#[84, 84, 84]⟩] 9)).alloc (.cells #[.int .u64 1, .int .u64 4294967295] 49)) (.slice (some ⟨W1.heap.size, 0, none⟩) 2 2) 1 2 ([nITT, nTTT].map .string) := SRd.lit5 (n := 2) (Blk.alloc (Blk.new W1 _ _) _)
  have hvv3 : SRd ((W1.alloc (.cells #[.string ⟨#[73, 84, 84]⟩, .string ⟨#[84, 84, 84]⟩] 9)).alloc (.cells #[.int .u64 1, .int .u64 4294967295] 49)) (.slice (some ⟨W1.heap.size + 1, 0, none⟩) 2 2) 1 2 ([1, noneN].map u64V) := by
    rw [← szA W1 (.cells #[.string ⟨#[73, 84, 84]⟩, .string ⟨#[84, 84, 84]⟩] 9)]
    exact SRd.lit5 (n := 2) (Blk.new _ _ _)
  have hreq3 := req_any 4 fl true [nITT, nTTT] [1, noneN] _ _ s [0, 1, noneN, 0, 0] _ hmk (by decide) hfr hnv3 hvv3 (by decide) (by decide) (by omega) (V1.on hbl3)
  have HREQ3 := Lib.hid hreq3
  have HBL3 := Lib.hid hbl3
  clear hreq3 hnv3 hvv3 hbl3
  have HBR := Lib.hid hBR
  have HBW := Lib.hid hbw
  have HW1 := Lib.hid hW1'
  have HRR := Lib.hid hRR
  clear hW1 hW1' hBR hmk hRR
  go_enter Tryz.func36, Tryz.ntmps36
  go_upto_region 1 with (fail)
  try refine wp_worldN HW1.out ?_
  try rw [HRR.out]
  go_wp2_with fail
  refine HREQ3.out.mono ?_
  rintro e w3 ⟨⟨u3, he, hp3, hu3⟩, hb3⟩
  obtain ⟨A3, cap3, hu⟩ : ∃ A cap, u3 = .slice A 5 cap := pd_form hp3
  subst hu
  have he' : e = .returned (.tuple #[.agg #[.int .i64 4, .bool true, .int .i64 fl, .slice A3 5 cap3, .slice none 0 0, .string s], .bool true]) := he
  subst he'
  have hb3r := below_step HBL3.out hb3
  have hb3a : Below w3.heap.size w3 (w3.alloc (.cells #[.int .i64 4, .bool true, .int .i64 fl, .slice A3 5 cap3, .slice none 0 0, .string s] 41)) := (Below.refl _ _).alloc (Nat.le_refl _) _
  have hB3 := Blk.new w3 41 #[.int .i64 4, .bool true, .int .i64 fl, .slice A3 5 cap3, .slice none 0 0, .string s]
  obtain ⟨q, hq⟩ : ∃ q, w3.heap.size = q := ⟨_, rfl⟩
  obtain ⟨W4, hW4⟩ : ∃ X : World, w3.alloc (.cells #[.int .i64 4, .bool true, .int .i64 fl, .slice A3 5 cap3, .slice none 0 0, .string s] 41) = X := ⟨_, rfl⟩
  rw [hW4] at hb3a hB3
  rw [hq] at hB3
  have hb3w := below_step hb3r hb3a
  have hp4 := hp3.on hb3a
  have hBR4 := HBR.out.below hb3w HBR.out.lt
  have hb4 := below_step HBW.out hb3w
  have d0 : W4.cell? ⟨q, 0, none⟩ = some (.int .i64 4) := hB3.cell 0
  have d1 : W4.cell? ⟨q, 1, none⟩ = some (.bool true) := hB3.cell 1
  have d2 : W4.cell? ⟨q, 2, none⟩ = some (.int .i64 fl) := hB3.cell 2
  have d3 : W4.cell? ⟨q, 3, none⟩ = some (.slice A3 5 cap3) := hB3.cell 3
  have d4 : W4.cell? ⟨q, 4, none⟩ = some (.slice none 0 0) := hB3.cell 4
  have d5 : W4.cell? ⟨q, 5, none⟩ = some (.string s) := hB3.cell 5
  have z0 := hBR4.frozen 0
  have z1 := hBR4.frozen 1
  have z2 := hBR4.frozen 2
  have z3 := hBR4.frozen 3
  have z4 := hBR4.frozen 4
  have z5 := hBR4.frozen 5
  have r0 : W4.cell? ⟨R, 0, none⟩ = some (.int .i64 0) := hBR4.cell 0
  have r1 : W4.cell? ⟨R, 1, none⟩ = some (.bool false) := hBR4.cell 1
  have r2 : W4.cell? ⟨R, 2, none⟩ = some (.int .i64 0) := hBR4.cell 2
  have r3 : W4.cell? ⟨R, 3, none⟩ = some (.slice none 0 0) := hBR4.cell 3
  have r4 : W4.cell? ⟨R, 4, none⟩ = some (.slice none 0 0) := hBR4.cell 4
  have r5 : W4.cell? ⟨R, 5, none⟩ = some (.string ⟨#[]⟩) := hBR4.cell 5
  have HW4 := Lib.hid hW4
  have HQ := Lib.hid hq
  have HP4 := Lib.hid hp4
  have HB4 := Lib.hid hb4
  have HBR4 := Lib.hid hBR4
  have HU3 := Lib.hid (show ∀ k, Value.ownBlock (.slice A3 5 cap3) = some k → R < k from fun k hk => by
    have h1 := hu3 k hk
    have h2 := HBR.out.lt
    simp at h1
    omega)
  clear he hp3 hp4 hb4 hBR4 hW4 hq hB3 hu3
  go_upto_region 2 with (fail)
  try refine wp_worldN HW4.out ?_
  try rw [HQ.out]
  go_wp2_with fail
  have hnf6 : NF [R] W4 (six W4 R (.int .i64 4) (.bool true) (.int .i64 fl) (.slice A3 5 cap3) (.slice none 0 0) (.string s)) := six_nf (NF.refl _ _) (.inl (by simp)) _ _ _ _ _ _
  have hB6 := six_blk HBR4.out (.int .i64 4) (.bool true) (.int .i64 fl) (.slice A3 5 cap3) (.slice none 0 0) (.string s)
  have hRw : W.heap.size ≤ R := by have := HRR.out; omega
  have hb6 : Below W.heap.size W (six W4 R (.int .i64 4) (.bool true) (.int .i64 fl) (.slice A3 5 cap3) (.slice none 0 0) (.string s)) := (((((HB4.out.setCell hRw _).setCell hRw _).setCell hRw _).setCell hRw _).setCell hRw _).setCell hRw _
  have hpf : PdFar [R] (textP fl noneN s, reqPart (.slice A3 5 cap3)) := ⟨fun _ j hj hm => by have h1 := HU3.out j hj; have h2 := List.mem_singleton.1 hm; omega, fun hn => absurd (show 0 < 0 from hn) (by decide)⟩
  refine bodyPost_ret (results_s1 rfl _ _ R _ _ _ (by rfl) hB6 Tryz.underlying41 rfl (by kernel_rfl)) rfl ?_
  exact ⟨⟨A3, cap3, rfl, HP4.out.nf hnf6 hpf, fun k hk => by have := HU3.out k hk; omega⟩, hb6⟩
/- rows of PDUs -/
theorem srd6_lit {w : World} {g n : Nat} {t : TypeId} {cs : Array Value} {xs : List Value} (h : Blk w g t cs) (hx : cs.toList = xs) (hn : xs.length = n * 6) (hm : n ≤ maxLen) : SRd w (.slice (some ⟨g, 0, none⟩) n n) 6 n xs := by
  refine ⟨hn, _, n, rfl, Nat.le_refl _, hm, fun _ => ⟨g, 0, rfl, h.lt, fun j u hu => ?_⟩⟩
  rw [Nat.zero_add, h.cell j, ← Array.getElem?_toList, hx]
  exact hu
theorem out_cells {w : World} {base : Nat} {v : Value} {M : List (AP × Value)} (h : OutRow w base v M) (hM : 0 < M.length) : ∃ g cap, v = .slice (some ⟨g, 0, none⟩) M.length cap ∧ base ≤ g ∧ g < w.heap.size ∧ ∀ j u, (apsC M)[j]? = some u → w.cell? ⟨g, j, none⟩ = some u := by
  obtain ⟨g, cap, rfl⟩ : ∃ g cap, v = .slice (some ⟨g, 0, none⟩) M.length cap := by
    rcases h.2 with ⟨_, h0⟩ | ⟨g, cap, cur, hv, _⟩
    · omega
    · exact ⟨g, cap, hv⟩
  obtain ⟨h1, h2⟩ := h.lt g rfl
  refine ⟨g, cap, rfl, h1, h2, fun j u hu => ?_⟩
  have hj : j < M.length * 6 := by
    have := (List.getElem?_eq_some_iff.1 hu).1
    rw [apsC_len] at this
    exact this
  exact (World.ownsRow.cellAt h j hj).trans hu
end Go.Proofs.YtamlepacljjpiaaGreatDoor
