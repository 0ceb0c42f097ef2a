/- The walk of the law FullParts. -/
import Derived.Test.YtamlepacljjpiaaGreatDoorFullPartsC
namespace Go.Proofs.YtamlepacljjpiaaGreatDoor
open Go.ChangeShapes Go.WideShapes Go.ChangeAt Go.RowKit Go.Shelf
set_option linter.unusedVariables false
set_option linter.unusedSimpArgs false
theorem plays_1 (X : FP) (p : PD) : playsP X [p] = takeP X p := rfl
theorem plays_2 (X : FP) (p q : PD) : playsP X [p, q] = ((takeP X p).1 ++ (takeP (takeP X p).2 q).1, (takeP (takeP X p).2 q).2) := rfl
theorem below_cut {w W : World} {n : Nat} (h : Below w.heap.size w W) (h1 : w.heap.size ≤ n) (h2 : n ≤ W.heap.size) : Below w.heap.size w (cutW W n) :=
  ⟨h.os, h.tape, h.output, by rw [cutW_size h2]; exact h1, fun k hk => by rw [cutW_at h2 (by omega)]; exact h.block k hk⟩
theorem map_one {M : List (AP × Value)} {q : AP} (h : M.map (·.1) = [q]) : ∃ v, M = [(q, v)] := by
  rcases M with _ | ⟨⟨a, v⟩, _ | ⟨b, M⟩⟩
  · cases h
  · simp at h
    exact ⟨v, by rw [h]⟩
  · simp at h
theorem map_two {M : List (AP × Value)} {p q : AP} (h : M.map (·.1) = [p, q]) : ∃ u v, M = [(p, u), (q, v)] := by
  rcases M with _ | ⟨⟨a, u⟩, _ | ⟨⟨b, v⟩, _ | ⟨c, M⟩⟩⟩
  · cases h
  · simp at h
  · simp at h
    exact ⟨u, v, by rw [h.1, h.2]⟩
  · simp at h
theorem cell_nf {S : List Nat} {w w' : World} {k j : Nat} (h : NF S w w') (hk : k < w.heap.size) (hS : k ∉ S) : w'.cell? ⟨k, j, none⟩ = w.cell? ⟨k, j, none⟩ := by
  unfold World.cell?
  simp only
  rw [h.block k hk hS]
theorem FullI.nego {w0 w : World} {S : List Nat} {f : Nat} {X : FP} (h : FullI w0 w S f X) : ∃ gn Sn, NegoH w Sn gn X.own X.rc ∧ (∀ k ∈ Sn, k ∈ S) ∧ f ∈ S ∧ w.cell? ⟨f, 0, none⟩ = some (.pointer (some ⟨gn, 0, none⟩)) ∧ X.rc.length ≤ 100000 ∧ ∃ cs, Blk w f 82 cs ∧ cs[0]? = some (.pointer (some ⟨gn, 0, none⟩)) := by
  obtain ⟨gn, gt, Sn, tv, pv, uv, ov, pc, hX, rfl⟩ := h
  exact ⟨gn, Sn, hX.nh, fun k hk => by simp [fS, hk], by simp [fS], hX.fb.cell 0, by have := recok_len hX.ok.rc; have := keyT_few; omega, _, hX.fb, rfl⟩
set_option maxRecDepth 20000 in
set_option maxHeartbeats 16000000 in
theorem partsFull (s : ByteArray) (at_ : Int) (disc : Bool) (w : World) (hz : s.size ≤ 140737488351232) (ha : -9223372036854775808 ≤ at_ ∧ at_ ≤ 9223372036854775807) (V : Env w) : Calls Tryz.prog 8 #[.string s, .int .i64 at_, .bool disc] w fun e w' => e = .returned (.bool true) ∧ Below w.heap.size w w' := by
  obtain ⟨A, hk, hA⟩ := pickE at_ (s.size + 1) (by omega)
  have hpick := fun (W : World) => pickK at_ (s.size + 1) A hk (by omega) (by omega) W
  have ecast : ((s.size + 1 : Nat) : Int) = (s.size : Int) + 1 := by omega
  rw [ecast] at hpick
  have HPICK := Lib.hid hpick
  have VV := Lib.hid V
  clear hpick hk ecast
  go_enter Tryz.func8, Tryz.ntmps8
  go_wp2_with fail
  refine (opened_any _ V).mono ?_
  rintro e w0 ⟨rfl, hb0⟩
  have V0 := VV.out.on hb0
  go_wp2_with fail
  refine (gathered_fact _ V0.L V0.S).mono ?_
  rintro e w1 ⟨rfl, hb1⟩
  have hw1 := below_step hb0 hb1
  by_cases hd : 1500 < s.size
  · have hd2 : (1500 : Int) < s.size := by omega
    go_wp2_with fail
    go_ret
    exact ⟨rfl, hw1⟩
  have hd2 : ¬ (1500 : Int) < s.size := by omega
  go_wp2_with fail
  refine (HPICK.out _).mono ?_
  rintro e w1b ⟨rfl, rfl⟩
  go_wp2_with fail
  refine (conf_fresh _).mono ?_
  rintro e w2 ⟨⟨tv1, pv1, uv1, ov1, rfl, hc1, _⟩, hb2⟩
  have hw2 := below_step hw1 hb2
  have V2 := VV.out.on hw2
  go_wp2_with fail
  refine (sessJ_any hc1 V2 (Below.refl _ _) disc).mono ?_
  rintro e w3 ⟨⟨f, S1, rfl, hJ3, hS1⟩, hb3⟩
  have hI3 := hJ3.i
  clear hJ3 hc1
  go_wp2_with fail
  refine (conf_fresh _).mono ?_
  rintro e w4 ⟨⟨tv2, pv2, uv2, ov2, rfl, hc2, hcf⟩, hb4⟩
  have hw4 := below_step (below_step hw2 hb3) hb4
  have V4 := VV.out.on hw4
  go_wp2_with fail
  refine (sessJ_any hc2 V4 (Below.refl _ _) disc).mono ?_
  rintro e w5 ⟨⟨g, S2, rfl, hJ5, hS2⟩, hb5⟩
  have hI5 := hI3.on (below_step hb4 hb5)
  have hb24 := below_step hb3 hb4
  have hw5 := below_step hw4 hb5
  have V5 := VV.out.on hw5
  obtain ⟨X, hX⟩ : ∃ X, sessP confC [] disc 0 0 = X := ⟨_, rfl⟩
  have hcl : X.closed = false := by rw [← hX]; rfl
  have htx : X.txt = ⟨#[]⟩ := by rw [← hX]; rfl
  have hpc : X.pcs = [] := by rw [← hX]; rfl
  have hXc : X.conf = confC := by rw [← hX]; rfl
  have hX0 : txtA X 0 1 noneN ⟨#[]⟩ = ⟨36, 0, [0, 1, noneN, X.stat, X.cmd, aft X.cmd 31], ⟨#[]⟩⟩ := rfl
  rw [hX] at hI5 hJ5
  have hcutE : s.extract 0 A ++ s.extract A s.size = s := by
    rw [ByteArray.extract_append_extract, Nat.zero_min, Nat.max_eq_right (by omega)]
    exact ext_whole s
  obtain ⟨q1, q2, Y1, Y2, Z, ht1, ht2, ht3, hop, hdf, hrc⟩ := parts_like X hcl htx s (s.extract 0 A) (s.extract A s.size) hcutE (by omega)
  have hp1 : playsP X [textP 128 noneN s] = ([q1], Y1) := by rw [plays_1, ht1]
  have hp2 : playsP X [textP 64 noneN (s.extract 0 A), textP 128 noneN (s.extract A s.size)] = ([txtA X 0 1 noneN ⟨#[]⟩, q2], Y2) := by
    rw [plays_2, ht2, ht3]
    rfl
  have HASK1 := Lib.hid (askF_any 128 s w5 (.inr rfl) (by omega) V5)
  have HS1 := Lib.hid hS1
  have HS2 := Lib.hid hS2
  have HJ5 := Lib.hid hJ5
  have HI5 := Lib.hid hI5
  have HP1 := Lib.hid hp1
  have HP2 := Lib.hid hp2
  have HREL := Lib.hid (And.intro hop (And.intro hdf hrc))
  have HCF := Lib.hid hcf
  have HLT1 := Lib.hid hI3.lt
  clear hX hI3 hI5 hJ5 hc2 hcf ht1 ht2 ht3 hp1 hp2 hop hdf hrc hcutE hS1 hS2 htx hcl
  go_wp2_with fail
  refine HASK1.out.mono ?_
  rintro e w6 ⟨⟨A6, c6, rfl, hp6, hu6⟩, hb6⟩
  have hb6a : Below w6.heap.size w6 (w6.alloc (.cells #[.int .i64 4, .bool true, .int .i64 128, .slice A6 5 c6, .slice none 0 0, .string s] 41)) := (Below.refl _ _).alloc (Nat.le_refl _) _
  have hB6 := Blk.new w6 41 #[.int .i64 4, .bool true, .int .i64 128, .slice A6 5 c6, .slice none 0 0, .string s]
  have hI6 := HI5.out.on (below_step hb6 hb6a)
  have hz6 := hb6.size
  have hS1w : ∀ k ∈ S1, k < w3.heap.size := fun k hk => (HLT1.out k hk).1
  have hplay := plays_any hI6 V2 [(textP 128 noneN s, reqPart (.slice A6 5 c6))] (.slice (some ⟨w6.heap.size, 0, none⟩) 1 1) ⟨srd6_lit hB6 rfl rfl (by decide), fun x hx => by rw [List.mem_singleton.1 hx]; exact hp6.on hb6a⟩
    (fun _ k hk hm => by
      have h1 : w6.heap.size = k := by injection hk
      have h2 := (HI5.out.lt k hm).1
      omega)
    (fun x hx => by
      rw [List.mem_singleton.1 hx]
      exact ⟨fun _ k hk hm => by have h1 := hu6 k hk; have h2 := (HI5.out.lt k hm).1; omega, fun hn => absurd (show 0 < 0 from hn) (by decide)⟩) (by show 1 * 88 ≤ _; decide)
  have hpm : [((textP 128 noneN s, reqPart (.slice A6 5 c6)) : PD × PdPart)].map (·.1) = [textP 128 noneN s] := rfl
  rw [hpm, HP1.out] at hplay
  have HPLAY := Lib.hid hplay
  have hb56 := below_step hb6 hb6a
  have HB56 := Lib.hid hb56
  clear hplay hB6 hI6 hp6 hu6 hpm hb6a
  go_wp2_with fail
  refine HPLAY.out.mono ?_
  rintro e w8 ⟨v8, rfl, M8, S1', hM8, hr8, hv8, hI8, hN8, hS8⟩
  have hw8 : Below w.heap.size w w8 := below_step hw2 hI8.b
  have hz4 : w4.heap.size ≤ w8.heap.size := by have h1 := hb5.size; have h2 := HB56.out.size; have h3 := hN8.size; omega
  have hJ8 := (HJ5.out.on HB56.out).rebase hN8 (n := w3.heap.size) hS1w hb4.size (by rw [hXc]; exact HCF.out) hpc
  have hI8g := hJ8.i
  have Vc : Env (cutW w8 w4.heap.size) := VV.out.on (below_cut hw8 hw4.size hz4)
  have V8 := VV.out.on hw8
  obtain ⟨s1, hs1⟩ : ∃ x, s.extract 0 A = x := ⟨_, rfl⟩
  obtain ⟨s2, hs2⟩ : ∃ x, s.extract A s.size = x := ⟨_, rfl⟩
  have hs1z : s1.size ≤ 1500 := by rw [← hs1, ByteArray.size_extract]; omega
  have hs2z : s2.size ≤ 1500 := by rw [← hs2, ByteArray.size_extract]; omega
  have hA2 : (A : Int) ≤ s.size := by omega
  have HAB := Lib.hid (fun (fl : Int) (x : ByteArray) (h64 : (fl = 64 ∧ x = s1) ∨ (fl = 128 ∧ x = s2)) (W : World) (h : Below w8.heap.size w8 W) => askF_any fl x W (by rcases h64 with h | h; exact .inl h.1; exact .inr h.1) (by rcases h64 with h | h; rw [h.2]; omega; rw [h.2]; omega) (V8.on h))
  have hp2 := HP2.out
  rw [hs1, hs2] at hp2
  have HPL := Lib.hid (fun (W : World) (v : Value) (A1 A2 : Option Addr) (c1 c2 : Nat) (h : Below w8.heap.size w8 W) (hv : PdsRd W v [(textP 64 noneN s1, reqPart (.slice A1 5 c1)), (textP 128 noneN s2, reqPart (.slice A2 5 c2))]) (hvb : ∀ k, v.ownBlock = some k → w8.heap.size ≤ k) (h1 : ∀ k, Value.ownBlock (.slice A1 5 c1) = some k → w8.heap.size ≤ k) (h2 : ∀ k, Value.ownBlock (.slice A2 5 c2) = some k → w8.heap.size ≤ k) =>
    (show Calls Tryz.prog 20 #[.pointer (some ⟨g, 0, none⟩), v] W fun e w' => ∃ v', e = .returned v' ∧ PlaysAt (cutW w8 w4.heap.size) W S2 g Y2 [txtA X 0 1 noneN ⟨#[]⟩, q2] v' w' from by
      have hp := plays_any (hI8g.on h) Vc _ v hv (fun _ k hk hm => by have h3 := hvb k hk; have h4 := (hI8g.lt k hm).1; omega) (fun x hx => by
        simp only [List.mem_cons, List.not_mem_nil, or_false] at hx
        rcases hx with rfl | rfl
        · exact ⟨fun _ k hk hm => by have h3 := h1 k hk; have h4 := (hI8g.lt k hm).1; omega, fun hn => absurd (show 0 < 0 from hn) (by decide)⟩
        · exact ⟨fun _ k hk hm => by have h3 := h2 k hk; have h4 := (hI8g.lt k hm).1; omega, fun hn => absurd (show 0 < 0 from hn) (by decide)⟩) (by show 2 * 88 ≤ _; decide)
      have hpm : [((textP 64 noneN s1, reqPart (.slice A1 5 c1)) : PD × PdPart), (textP 128 noneN s2, reqPart (.slice A2 5 c2))].map (·.1) = [textP 64 noneN s1, textP 128 noneN s2] := rfl
      rw [hpm, hp2] at hp
      exact hp))
  have HI8 := Lib.hid hI8
  have HR8 := Lib.hid hr8
  have HV8 := Lib.hid hv8
  have HM8 := Lib.hid hM8
  have HS8 := Lib.hid hS8
  have HI8G := Lib.hid hI8g
  have HE1 := Lib.hid hs1
  have HE2 := Lib.hid hs2
  clear hI8 hr8 hv8 hM8 hS8 hI8g hJ8 hN8 hp2 hs1 hs2
  go_upto_region 11 with (fail)
  go_region_held3 (fun _ => True) (trivial) ((first
    | (go_simp; go_at_call 36; (try rw [HE1.out]); (try rw [HE2.out]); refine (HAB.out _ _ (by first | exact .inl ⟨rfl, rfl⟩ | exact .inr ⟨rfl, rfl⟩) _ (by first | exact Below.refl _ _ | exact (Below.refl _ _).drew | exact hxa | exact hxa.drew | exact hxb | exact hxb.drew)).mono ?_; (first | (have hyy := hxa; clear hyy; rintro e xb ⟨⟨Ab, cb, rfl, hpb, hub⟩, hbb⟩; have hxb : Below w8.heap.size w8 xb := below_step (by first | exact Below.refl _ _ | exact (Below.refl _ _).drew | exact hxa | exact hxa.drew | exact hxb | exact hxb.drew) hbb) | (rintro e xa ⟨⟨Aa, ca, rfl, hpa, hua⟩, hba⟩; have hxa : Below w8.heap.size w8 xa := below_step (by first | exact Below.refl _ _ | exact (Below.refl _ _).drew | exact hxa | exact hxa.drew | exact hxb | exact hxb.drew) hba)); dsimp only)
    | (go_at_call 20; refine (HPL.out _ _ _ _ _ _ (by first | exact below_a hxb _ | exact below_a hxa _ | exact (below_a hxb _).drew | exact (below_a hxa _).drew | exact below_a hxb.drew _ | exact below_a hxa.drew _) ⟨(by first | exact srd6_lit (Blk.new _ _ _) rfl rfl (by decide) | exact srd6_lit (Blk.drew (Blk.new _ _ _)) rfl rfl (by decide)), (fun x hx => by
        simp only [List.mem_cons, List.not_mem_nil, or_false] at hx
        rcases hx with rfl | rfl
        · first | exact hpa.on (below_a (Below.refl _ _) _) | exact hpa.on (below_a hbb _) | exact hpa.on (below_a (Below.refl _ _) _).drew | exact hpa.on (below_a hbb _).drew | exact hpa.on (below_a (Below.refl _ _).drew _) | exact hpa.on (below_a hbb.drew _)
        · first | exact hpb.on (below_a (Below.refl _ _) _) | exact hpb.on (below_a hba _) | exact hpb.on (below_a (Below.refl _ _) _).drew | exact hpb.on (below_a hba _).drew | exact hpb.on (below_a (Below.refl _ _).drew _) | exact hpb.on (below_a hba.drew _))⟩
        (fun k hk => by injection hk with hk; have h1 := hxa.size; have h2 := hxb.size; first | omega | (simp at hk; omega)) (fun k hk => by have h1 := hua k hk; first | exact h1 | exact Nat.le_trans hxb.size h1) (fun k hk => by have h1 := hub k hk; first | exact h1 | exact Nat.le_trans hxa.size h1)).mono ?_; rintro e w12 ⟨v12, rfl, M12, S2', hM12, hr12, hv12, hI12, hN12, hS12⟩)))
  obtain ⟨Wr, hWr⟩ : ∃ W : World, xb.alloc (.cells #[.int .i64 4, .bool true, .int .i64 64, .slice Aa 5 ca, .slice none 0 0, .string s1, .int .i64 4, .bool true, .int .i64 128, .slice Ab 5 cb, .slice none 0 0, .string s2] 41) = W := ⟨_, rfl⟩
  have hb8r : Below w8.heap.size w8 Wr := by rw [← hWr]; exact below_a hxb _
  rw [hWr] at hr12 hN12 hS12
  have hN812 : NF S2 w8 w12 := (NF.of_below hb8r).trans hN12 (fun x hx => .inl hx)
  obtain ⟨hop, hdf, hrc⟩ := HREL.out
  obtain ⟨h1, rfl⟩ := map_one HM8.out
  obtain ⟨h0, h2, rfl⟩ := map_two hM12
  obtain ⟨qo, qf1, qv1, qd1⟩ := q1
  obtain ⟨qo2, qf2, qv2, qd2⟩ := q2
  simp only at hop hdf
  subst hop
  obtain ⟨ga, cga, rfl, hga1, hga2, hca⟩ := out_cells HR8.out (by simp)
  obtain ⟨gb, cgb, rfl, hgb1, hgb2, hcb⟩ := out_cells hr12 (by simp)
  have hS2lt : ∀ k ∈ S2, w4.heap.size ≤ k ∧ k < w5.heap.size := fun k hk => ⟨HS2.out k hk, (HJ5.out.i.lt k hk).1⟩
  have hz56 := HB56.out.size
  have hgaS : ga ∉ S2 := fun hm => by have := (hS2lt ga hm).2; omega
  have hdis : ∀ k ∈ S1', k ∉ S2 := fun k hk hm => by
    have h3 := hS2lt k hm
    rcases HS8.out k hk with h | h
    · have h4 := (HLT1.out k h).1
      have h5 := hb4.size
      omega
    · omega
  obtain ⟨gn1, Sn1, hn1, hs1n, hf1, cf1, hl1, _⟩ := FullI.nego HI8.out
  obtain ⟨gn2, Sn2, hn2, hs2n, hg2, cg2, hl2, _⟩ := FullI.nego hI12
  have hn1' := hn1.other hN812 (fun k hk => hdis k (hs1n k hk))
  have hfl := (HI8.out.lt f hf1).1
  have cf12 : w12.cell? ⟨f, 0, none⟩ = some (.pointer (some ⟨gn1, 0, none⟩)) := (cell_nf hN812 hfl (hdis f hf1)).trans cf1
  have hlt12 : f < w12.heap.size ∧ ga < w12.heap.size ∧ g < w12.heap.size := ⟨by have := hN812.size; omega, by have := hN812.size; omega, (hI12.lt g hg2).1⟩
  have hcA : ∀ j u, (apsC [((⟨qo, qf1, qv1, qd1⟩ : AP), h1)])[j]? = some u → w12.cell? ⟨ga, j, none⟩ = some u := fun j u hu => (cell_nf hN812 hga2 hgaS).trans (hca j u hu)
  have hb12w : Below w.heap.size w w12 := below_nf hw8 hN812 (fun k hk => by have h3 := (hS2lt k hk).1; have h4 := hw4.size; omega)
  have a0 := hcA 0 _ rfl
  have a2 := hcA 2 _ rfl
  have a5 := hcA 5 _ rfl
  have b2 := hcb 2 _ rfl
  have b5 := hcb 5 _ rfl
  have b6 := hcb 6 _ rfl
  have b8 := hcb 8 _ rfl
  have b11 := hcb 11 _ rfl
  have HR1 := Lib.hid (fun (W : World) (h : Below w12.heap.size w12 W) => nrec_any gn1 Sn1 _ _ W (hn1'.on h) hl1)
  have hr2 := fun (W : World) (h : Below w12.heap.size w12 W) => nrec_any gn2 Sn2 _ _ W (hn2.on h) hl2
  rw [← hrc] at hr2
  have HR2 := Lib.hid hr2
  have HLT12 := Lib.hid hlt12
  have HGB := Lib.hid hgb2
  have HCG := Lib.hid (And.intro cf12 cg2)
  clear hr2 hn1 hn1' hn2 hs1n hs2n hl1 hl2 hcA hca hcb hM12 hr12 hv12 hI12 hN12 hS12 hWr hxa hxb hba hbb hpa hpb hua hub hrc hlt12 cf12 cg2 cf1 hdis hS2lt hgaS hN812 hga1 hga2 hgb1 hgb2 hfl
  go_upto_region 12 with (fail)
  by_cases h63 : qo = 63
  · have h63z : decide ((qo : Int) = 63) = true := by simp; omega
    have h63y : ((qo : Int) == 63) = true := by simp; omega
    clear h63 hdf
    have HK := Lib.hid (show ∀ W : World, Below w12.heap.size w12 W → (W.cell? ⟨ga, 0, none⟩ = some (.int .i64 (qo : Nat)) ∧ W.cell? ⟨ga, 2, none⟩ = some (.int .i64 (qf1 : Nat)) ∧ W.cell? ⟨ga, 5, none⟩ = some (.string qd1) ∧ W.cell? ⟨gb, 2, none⟩ = some (.int .i64 0) ∧ W.cell? ⟨gb, 5, none⟩ = some (.string ⟨#[]⟩) ∧ W.cell? ⟨gb, 6, none⟩ = some (.int .i64 (qo : Nat)) ∧ W.cell? ⟨gb, 8, none⟩ = some (.int .i64 (qf2 : Nat)) ∧ W.cell? ⟨gb, 11, none⟩ = some (.string qd2) ∧ W.cell? ⟨f, 0, none⟩ = some (.pointer (some ⟨gn1, 0, none⟩)) ∧ W.cell? ⟨g, 0, none⟩ = some (.pointer (some ⟨gn2, 0, none⟩))) from fun W h => ⟨(h.cell (p := ⟨ga, 0, none⟩) HLT12.out.2.1).trans a0, (h.cell (p := ⟨ga, 2, none⟩) HLT12.out.2.1).trans a2, (h.cell (p := ⟨ga, 5, none⟩) HLT12.out.2.1).trans a5, (h.cell (p := ⟨gb, 2, none⟩) HGB.out).trans b2, (h.cell (p := ⟨gb, 5, none⟩) HGB.out).trans b5, (h.cell (p := ⟨gb, 6, none⟩) HGB.out).trans b6, (h.cell (p := ⟨gb, 8, none⟩) HGB.out).trans b8, (h.cell (p := ⟨gb, 11, none⟩) HGB.out).trans b11, (h.cell (p := ⟨f, 0, none⟩) HLT12.out.1).trans HCG.out.1, (h.cell (p := ⟨g, 0, none⟩) HLT12.out.2.2).trans HCG.out.2⟩)
    obtain ⟨k0, k1, k2, k3, k4, k5, k6, k7, k8, k9⟩ := HK.out w12 (Below.refl _ _)
    have kk0 := HK.out w12 (Below.refl _ _)
    clear a0 a2 a5 b2 b5 b6 b8 b11
    go_wp2_with fail
    refine wp_region_held_drew (S := (fun w' => w'.cell? ⟨ga, 0, none⟩ = some (.int .i64 (qo : Nat)) ∧ w'.cell? ⟨ga, 2, none⟩ = some (.int .i64 (qf1 : Nat)) ∧ w'.cell? ⟨ga, 5, none⟩ = some (.string qd1) ∧ w'.cell? ⟨gb, 2, none⟩ = some (.int .i64 0) ∧ w'.cell? ⟨gb, 5, none⟩ = some (.string ⟨#[]⟩) ∧ w'.cell? ⟨gb, 6, none⟩ = some (.int .i64 (qo : Nat)) ∧ w'.cell? ⟨gb, 8, none⟩ = some (.int .i64 (qf2 : Nat)) ∧ w'.cell? ⟨gb, 11, none⟩ = some (.string qd2) ∧ w'.cell? ⟨f, 0, none⟩ = some (.pointer (some ⟨gn1, 0, none⟩)) ∧ w'.cell? ⟨g, 0, none⟩ = some (.pointer (some ⟨gn2, 0, none⟩)))) (by kernel_rfl) kk0 (fun hHeld => ?_)
    refine wpAnyH_take (i := 0) (v := ?_) rfl (by kernel_rfl) (by kernel_rfl) (by kernel_rfl) (fun _ _ _ h => h) (Or.inl ⟨by kernel_rfl, ?_⟩) (by assumption) ?_
    rotate_left
    · intro wq hSq
      (try dsimp only at hSq)
      go_simp
      all_goals with_reducible rfl
    try simp only [Act.put, List.setIfInBounds_toArray, List.set_cons_zero, List.set_cons_succ]
    refine wpAnyH_take (i := 1) (v := ?_) rfl (by kernel_rfl) (by kernel_rfl) (by kernel_rfl) (fun _ _ _ h => h) (Or.inl ⟨by kernel_rfl, ?_⟩) (by assumption) ?_
    rotate_left
    · intro wq hSq
      (try dsimp only at hSq)
      go_simp
      all_goals with_reducible rfl
    try simp only [Act.put, List.setIfInBounds_toArray, List.set_cons_zero, List.set_cons_succ]
    refine wpAnyH_take (i := 2) (v := ?_) rfl (by kernel_rfl) (by kernel_rfl) (by kernel_rfl) (fun _ _ _ h => h) (Or.inl ⟨by kernel_rfl, ?_⟩) (by assumption) ?_
    rotate_left
    · intro wq hSq
      (try dsimp only at hSq)
      go_simp
      all_goals with_reducible rfl
    try simp only [Act.put, List.setIfInBounds_toArray, List.set_cons_zero, List.set_cons_succ]
    refine wpAnyH_take (i := 3) (v := ?_) rfl (by kernel_rfl) (by kernel_rfl) (by kernel_rfl) (fun _ _ _ h => h) (Or.inl ⟨by kernel_rfl, ?_⟩) (by assumption) ?_
    rotate_left
    · intro wq hSq
      (try dsimp only at hSq)
      go_simp
      all_goals with_reducible rfl
    try simp only [Act.put, List.setIfInBounds_toArray, List.set_cons_zero, List.set_cons_succ]
    refine wpAnyH_take (i := 4) (v := ?_) rfl (by kernel_rfl) (by kernel_rfl) (by kernel_rfl) (fun _ _ _ h => h) (Or.inl ⟨by kernel_rfl, ?_⟩) (by assumption) ?_
    rotate_left
    · intro wq hSq
      (try dsimp only at hSq)
      go_simp
      all_goals with_reducible rfl
    try simp only [Act.put, List.setIfInBounds_toArray, List.set_cons_zero, List.set_cons_succ]
    refine wpAnyH_take (i := 5) (v := ?_) rfl (by kernel_rfl) (by kernel_rfl) (by kernel_rfl) (fun _ _ _ h => h) (Or.inl ⟨by kernel_rfl, ?_⟩) (by assumption) ?_
    rotate_left
    · intro wq hSq
      (try dsimp only at hSq)
      go_simp
      all_goals with_reducible rfl
    try simp only [Act.put, List.setIfInBounds_toArray, List.set_cons_zero, List.set_cons_succ]
    refine wpAnyH_take (i := 6) (v := ?_) rfl (by kernel_rfl) (by kernel_rfl) (by kernel_rfl) (fun _ _ _ h => h) (Or.inl ⟨by kernel_rfl, ?_⟩) (by assumption) ?_
    rotate_left
    · intro wq hSq
      (try dsimp only at hSq)
      go_simp
      all_goals with_reducible rfl
    try simp only [Act.put, List.setIfInBounds_toArray, List.set_cons_zero, List.set_cons_succ]
    refine wpAnyH_take (i := 7) (v := ?_) rfl (by kernel_rfl) (by kernel_rfl) (by kernel_rfl) (fun _ _ _ h => h) (Or.inl ⟨by kernel_rfl, ?_⟩) (by assumption) ?_
    rotate_left
    · intro wq hSq
      (try dsimp only at hSq)
      go_simp
      all_goals with_reducible rfl
    try simp only [Act.put, List.setIfInBounds_toArray, List.set_cons_zero, List.set_cons_succ]
    refine wpAnyH_take (i := 8) (v := ?_) rfl (by kernel_rfl) (by kernel_rfl) (by kernel_rfl) (fun _ _ _ h => h) (Or.inl ⟨by kernel_rfl, ?_⟩) (by assumption) ?_
    rotate_left
    · intro wq hSq
      (try dsimp only at hSq)
      go_simp
      all_goals with_reducible rfl
    try simp only [Act.put, List.setIfInBounds_toArray, List.set_cons_zero, List.set_cons_succ]
    refine wpAnyH_take (i := 9) (v := ?_) rfl (by kernel_rfl) (by kernel_rfl) (by kernel_rfl) (fun _ _ _ h => h) (Or.inl ⟨by kernel_rfl, ?_⟩) (by assumption) ?_
    rotate_left
    · intro wq hSq
      (try dsimp only at hSq)
      go_simp
      all_goals with_reducible rfl
    try simp only [Act.put, List.setIfInBounds_toArray, List.set_cons_zero, List.set_cons_succ]
    refine wpAnyH_take (i := 10) (v := ?_) rfl (by kernel_rfl) (by kernel_rfl) (by kernel_rfl) (fun _ _ _ h => h) (Or.inl ⟨by kernel_rfl, ?_⟩) (by assumption) ?_
    rotate_left
    · intro wq hSq
      (try dsimp only at hSq)
      go_simp
      all_goals with_reducible rfl
    try simp only [Act.put, List.setIfInBounds_toArray, List.set_cons_zero, List.set_cons_succ]
    refine wpAnyH_take (i := 11) (v := ?_) rfl (by kernel_rfl) (by kernel_rfl) (by kernel_rfl) (fun _ _ _ h => h) (Or.inl ⟨by kernel_rfl, ?_⟩) (by assumption) ?_
    rotate_left
    · intro wq hSq
      (try dsimp only at hSq)
      go_simp
      all_goals with_reducible rfl
    try simp only [Act.put, List.setIfInBounds_toArray, List.set_cons_zero, List.set_cons_succ]
    refine wpAnyH_take (i := 12) (v := ?_) rfl (by kernel_rfl) (by kernel_rfl) (by kernel_rfl) (fun _ _ _ h => h) (Or.inl ⟨by kernel_rfl, ?_⟩) (by assumption) ?_
    rotate_left
    · intro wq hSq
      (try dsimp only at hSq)
      go_simp
      all_goals with_reducible rfl
    try simp only [Act.put, List.setIfInBounds_toArray, List.set_cons_zero, List.set_cons_succ]
    refine wpAnyH_take (i := 13) (v := ?_) rfl (by kernel_rfl) (by kernel_rfl) (by kernel_rfl) (fun _ _ _ h => h) (Or.inl ⟨by kernel_rfl, ?_⟩) (by assumption) ?_
    rotate_left
    · intro wq hSq
      (try dsimp only at hSq)
      go_simp
      all_goals with_reducible rfl
    try simp only [Act.put, List.setIfInBounds_toArray, List.set_cons_zero, List.set_cons_succ]
    refine wpAnyH_take (i := 14) (v := ?_) rfl (by kernel_rfl) (by kernel_rfl) (by kernel_rfl) (fun _ _ _ h => h) (Or.inl ⟨by kernel_rfl, ?_⟩) (by assumption) ?_
    rotate_left
    · intro wq hSq
      (try dsimp only at hSq)
      go_simp
      all_goals with_reducible rfl
    try simp only [Act.put, List.setIfInBounds_toArray, List.set_cons_zero, List.set_cons_succ]
    refine wpAnyH_take (i := 15) (v := ?_) rfl (by kernel_rfl) (by kernel_rfl) (by kernel_rfl) (fun _ _ _ h => h) (Or.inl ⟨by kernel_rfl, ?_⟩) (by assumption) ?_
    rotate_left
    · intro wq hSq
      (try dsimp only at hSq)
      go_simp
      all_goals with_reducible rfl
    try simp only [Act.put, List.setIfInBounds_toArray, List.set_cons_zero, List.set_cons_succ]
    refine wpAnyH_take (i := 16) (v := ?_) rfl (by kernel_rfl) (by kernel_rfl) (by kernel_rfl) (fun _ _ _ h => h) (Or.inl ⟨by kernel_rfl, ?_⟩) (by assumption) ?_
    rotate_left
    · intro wq hSq
      (try dsimp only at hSq)
      go_simp
      all_goals with_reducible rfl
    try simp only [Act.put, List.setIfInBounds_toArray, List.set_cons_zero, List.set_cons_succ]
    refine wpAnyH_take (i := 17) (v := ?_) rfl (by kernel_rfl) (by kernel_rfl) (by kernel_rfl) (fun _ _ _ h => h) (Or.inl ⟨by kernel_rfl, ?_⟩) (by assumption) ?_
    rotate_left
    · intro wq hSq
      (try dsimp only at hSq)
      go_simp
      all_goals with_reducible rfl
    try simp only [Act.put, List.setIfInBounds_toArray, List.set_cons_zero, List.set_cons_succ]
    refine wpAnyH_take (i := 18) (v := ?_) rfl (by kernel_rfl) (by kernel_rfl) (by kernel_rfl) (fun _ _ _ h => h) (Or.inl ⟨by kernel_rfl, ?_⟩) (by assumption) ?_
    rotate_left
    · intro wq hSq
      (try dsimp only at hSq)
      go_simp
      all_goals with_reducible rfl
    try simp only [Act.put, List.setIfInBounds_toArray, List.set_cons_zero, List.set_cons_succ]
    refine wpAnyH_take (i := 19) (v := undef) rfl (by kernel_rfl) (by kernel_rfl) (by kernel_rfl) (fun _ _ _ h => h) (Or.inr ⟨by kernel_rfl, rfl⟩) (by assumption) ?_
    try simp only [Act.put, List.setIfInBounds_toArray, List.set_cons_zero, List.set_cons_succ]
    refine wpAnyH_take (i := 20) (v := undef) rfl (by kernel_rfl) (by kernel_rfl) (by kernel_rfl) (fun _ _ _ h => h) (Or.inr ⟨by kernel_rfl, rfl⟩) (by assumption) ?_
    try simp only [Act.put, List.setIfInBounds_toArray, List.set_cons_zero, List.set_cons_succ]
    refine wpAnyH_take (i := 21) (v := undef) rfl (by kernel_rfl) (by kernel_rfl) (by kernel_rfl) (fun _ _ _ h => h) (Or.inr ⟨by kernel_rfl, rfl⟩) (by assumption) ?_
    try simp only [Act.put, List.setIfInBounds_toArray, List.set_cons_zero, List.set_cons_succ]
    refine wpAnyH_take (i := 22) (v := undef) rfl (by kernel_rfl) (by kernel_rfl) (by kernel_rfl) (fun _ _ _ h => h) (Or.inr ⟨by kernel_rfl, rfl⟩) (by assumption) ?_
    try simp only [Act.put, List.setIfInBounds_toArray, List.set_cons_zero, List.set_cons_succ]
    refine wpAnyH_take (i := 23) (v := undef) rfl (by kernel_rfl) (by kernel_rfl) (by kernel_rfl) (fun _ _ _ h => h) (Or.inr ⟨by kernel_rfl, rfl⟩) (by assumption) ?_
    try simp only [Act.put, List.setIfInBounds_toArray, List.set_cons_zero, List.set_cons_succ]
    refine wpAnyH_take (i := 24) (v := undef) rfl (by kernel_rfl) (by kernel_rfl) (by kernel_rfl) (fun _ _ _ h => h) (Or.inr ⟨by kernel_rfl, rfl⟩) (by assumption) ?_
    try simp only [Act.put, List.setIfInBounds_toArray, List.set_cons_zero, List.set_cons_succ]
    refine wpAnyH_take (i := 25) (v := undef) rfl (by kernel_rfl) (by kernel_rfl) (by kernel_rfl) (fun _ _ _ h => h) (Or.inr ⟨by kernel_rfl, rfl⟩) (by assumption) ?_
    try simp only [Act.put, List.setIfInBounds_toArray, List.set_cons_zero, List.set_cons_succ]
    refine wpAnyH_take (i := 26) (v := undef) rfl (by kernel_rfl) (by kernel_rfl) (by kernel_rfl) (fun _ _ _ h => h) (Or.inr ⟨by kernel_rfl, rfl⟩) (by assumption) ?_
    try simp only [Act.put, List.setIfInBounds_toArray, List.set_cons_zero, List.set_cons_succ]
    refine wpAnyH_take (i := 27) (v := undef) rfl (by kernel_rfl) (by kernel_rfl) (by kernel_rfl) (fun _ _ _ h => h) (Or.inr ⟨by kernel_rfl, rfl⟩) (by assumption) ?_
    try simp only [Act.put, List.setIfInBounds_toArray, List.set_cons_zero, List.set_cons_succ]
    refine wpAnyH_take (i := 28) (v := undef) rfl (by kernel_rfl) (by kernel_rfl) (by kernel_rfl) (fun _ _ _ h => h) (Or.inr ⟨by kernel_rfl, rfl⟩) (by assumption) ?_
    try simp only [Act.put, List.setIfInBounds_toArray, List.set_cons_zero, List.set_cons_succ]
    refine wpAnyH_take (i := 29) (v := undef) rfl (by kernel_rfl) (by kernel_rfl) (by kernel_rfl) (fun _ _ _ h => h) (Or.inr ⟨by kernel_rfl, rfl⟩) (by assumption) ?_
    try simp only [Act.put, List.setIfInBounds_toArray, List.set_cons_zero, List.set_cons_succ]
    refine wpAnyH_take (i := 30) (v := undef) rfl (by kernel_rfl) (by kernel_rfl) (by kernel_rfl) (fun _ _ _ h => h) (Or.inr ⟨by kernel_rfl, rfl⟩) (by assumption) ?_
    try simp only [Act.put, List.setIfInBounds_toArray, List.set_cons_zero, List.set_cons_succ]
    refine wpAnyH_take (i := 31) (v := undef) rfl (by kernel_rfl) (by kernel_rfl) (by kernel_rfl) (fun _ _ _ h => h) (Or.inr ⟨by kernel_rfl, rfl⟩) (by assumption) ?_
    try simp only [Act.put, List.setIfInBounds_toArray, List.set_cons_zero, List.set_cons_succ]
    refine wpAnyH_take (i := 32) (v := undef) rfl (by kernel_rfl) (by kernel_rfl) (by kernel_rfl) (fun _ _ _ h => h) (Or.inr ⟨by kernel_rfl, rfl⟩) (by assumption) ?_
    try simp only [Act.put, List.setIfInBounds_toArray, List.set_cons_zero, List.set_cons_succ]
    refine wpAnyH_take (i := 33) (v := undef) rfl (by kernel_rfl) (by kernel_rfl) (by kernel_rfl) (fun _ _ _ h => h) (Or.inr ⟨by kernel_rfl, rfl⟩) (by assumption) ?_
    try simp only [Act.put, List.setIfInBounds_toArray, List.set_cons_zero, List.set_cons_succ]
    refine wpAnyH_take (i := 34) (v := undef) rfl (by kernel_rfl) (by kernel_rfl) (by kernel_rfl) (fun _ _ _ h => h) (Or.inr ⟨by kernel_rfl, rfl⟩) (by assumption) ?_
    try simp only [Act.put, List.setIfInBounds_toArray, List.set_cons_zero, List.set_cons_succ]
    refine wpAnyH_take (i := 35) (v := undef) rfl (by kernel_rfl) (by kernel_rfl) (by kernel_rfl) (fun _ _ _ h => h) (Or.inr ⟨by kernel_rfl, rfl⟩) (by assumption) ?_
    try simp only [Act.put, List.setIfInBounds_toArray, List.set_cons_zero, List.set_cons_succ]
    refine wpAnyH_take (i := 36) (v := undef) rfl (by kernel_rfl) (by kernel_rfl) (by kernel_rfl) (fun _ _ _ h => h) (Or.inr ⟨by kernel_rfl, rfl⟩) (by assumption) ?_
    try simp only [Act.put, List.setIfInBounds_toArray, List.set_cons_zero, List.set_cons_succ]
    refine wpAnyH_take (i := 37) (v := undef) rfl (by kernel_rfl) (by kernel_rfl) (by kernel_rfl) (fun _ _ _ h => h) (Or.inr ⟨by kernel_rfl, rfl⟩) (by assumption) ?_
    try simp only [Act.put, List.setIfInBounds_toArray, List.set_cons_zero, List.set_cons_succ]
    refine wpAnyH_take (i := 38) (v := undef) rfl (by kernel_rfl) (by kernel_rfl) (by kernel_rfl) (fun _ _ _ h => h) (Or.inr ⟨by kernel_rfl, rfl⟩) (by assumption) ?_
    try simp only [Act.put, List.setIfInBounds_toArray, List.set_cons_zero, List.set_cons_succ]
    refine wpAnyH_take (i := 39) (v := undef) rfl (by kernel_rfl) (by kernel_rfl) (by kernel_rfl) (fun _ _ _ h => h) (Or.inr ⟨by kernel_rfl, rfl⟩) (by assumption) ?_
    try simp only [Act.put, List.setIfInBounds_toArray, List.set_cons_zero, List.set_cons_succ]
    refine wpAnyH_take (i := 40) (v := undef) rfl (by kernel_rfl) (by kernel_rfl) (by kernel_rfl) (fun _ _ _ h => h) (Or.inr ⟨by kernel_rfl, rfl⟩) (by assumption) ?_
    try simp only [Act.put, List.setIfInBounds_toArray, List.set_cons_zero, List.set_cons_succ]
    refine wpAnyH_take (i := 41) (v := ?_) rfl (by kernel_rfl) (by kernel_rfl) (by kernel_rfl) (fun _ _ _ h => h) (Or.inl ⟨by kernel_rfl, ?_⟩) (by assumption) ?_
    rotate_left
    · intro wq hSq
      (try dsimp only at hSq)
      go_simp
      all_goals with_reducible rfl
    try simp only [Act.put, List.setIfInBounds_toArray, List.set_cons_zero, List.set_cons_succ]
    refine wpAnyH_take (i := 42) (v := ?_) rfl (by kernel_rfl) (by kernel_rfl) (by kernel_rfl) (fun _ _ _ h => h) (Or.inl ⟨by kernel_rfl, ?_⟩) (by assumption) ?_
    rotate_left
    · intro wq hSq
      (try dsimp only at hSq)
      go_simp
      all_goals with_reducible rfl
    try simp only [Act.put, List.setIfInBounds_toArray, List.set_cons_zero, List.set_cons_succ]
    refine wpAnyH_take (i := 43) (v := ?_) rfl (by kernel_rfl) (by kernel_rfl) (by kernel_rfl) (fun _ _ _ h => h) (Or.inl ⟨by kernel_rfl, ?_⟩) (by assumption) ?_
    rotate_left
    · intro wq hSq
      (try dsimp only at hSq)
      go_simp
      all_goals with_reducible rfl
    try simp only [Act.put, List.setIfInBounds_toArray, List.set_cons_zero, List.set_cons_succ]
    refine wpAnyH_take (i := 44) (v := ?_) rfl (by kernel_rfl) (by kernel_rfl) (by kernel_rfl) (fun _ _ _ h => h) (Or.inl ⟨by kernel_rfl, ?_⟩) (by assumption) ?_
    rotate_left
    · intro wq hSq
      (try dsimp only at hSq)
      go_simp
      all_goals with_reducible rfl
    try simp only [Act.put, List.setIfInBounds_toArray, List.set_cons_zero, List.set_cons_succ]
    refine wpAnyH_take (i := 45) (v := ?_) rfl (by kernel_rfl) (by kernel_rfl) (by kernel_rfl) (fun _ _ _ h => h) (Or.inl ⟨by kernel_rfl, ?_⟩) (by assumption) ?_
    rotate_left
    · intro wq hSq
      (try dsimp only at hSq)
      go_simp
      all_goals with_reducible rfl
    try simp only [Act.put, List.setIfInBounds_toArray, List.set_cons_zero, List.set_cons_succ]
    refine wpAnyH_take (i := 46) (v := ?_) rfl (by kernel_rfl) (by kernel_rfl) (by kernel_rfl) (fun _ _ _ h => h) (Or.inl ⟨by kernel_rfl, ?_⟩) (by assumption) ?_
    rotate_left
    · intro wq hSq
      (try dsimp only at hSq)
      go_simp
      all_goals with_reducible rfl
    try simp only [Act.put, List.setIfInBounds_toArray, List.set_cons_zero, List.set_cons_succ]
    refine wpAnyH_take (i := 47) (v := ?_) rfl (by kernel_rfl) (by kernel_rfl) (by kernel_rfl) (fun _ _ _ h => h) (Or.inl ⟨by kernel_rfl, ?_⟩) (by assumption) ?_
    rotate_left
    · intro wq hSq
      (try dsimp only at hSq)
      go_simp
      all_goals with_reducible rfl
    try simp only [Act.put, List.setIfInBounds_toArray, List.set_cons_zero, List.set_cons_succ]
    refine wpAnyH_take (i := 49) (v := ?_) rfl (by kernel_rfl) (by kernel_rfl) (by kernel_rfl) (fun _ _ _ h => h) (Or.inl ⟨by kernel_rfl, ?_⟩) (by assumption) ?_
    rotate_left
    · intro wq hSq
      (try dsimp only at hSq)
      go_simp
      all_goals with_reducible rfl
    try simp only [Act.put, List.setIfInBounds_toArray, List.set_cons_zero, List.set_cons_succ]
    refine wpAnyH_take (i := 50) (v := ?_) rfl (by kernel_rfl) (by kernel_rfl) (by kernel_rfl) (fun _ _ _ h => h) (Or.inl ⟨by kernel_rfl, ?_⟩) (by assumption) ?_
    rotate_left
    · intro wq hSq
      (try dsimp only at hSq)
      go_simp
      all_goals with_reducible rfl
    try simp only [Act.put, List.setIfInBounds_toArray, List.set_cons_zero, List.set_cons_succ]
    refine wpAnyH_take (i := 51) (v := ?_) rfl (by kernel_rfl) (by kernel_rfl) (by kernel_rfl) (fun _ _ _ h => h) (Or.inl ⟨by kernel_rfl, ?_⟩) (by assumption) ?_
    rotate_left
    · intro wq hSq
      (try dsimp only at hSq)
      go_simp
      all_goals with_reducible rfl
    try simp only [Act.put, List.setIfInBounds_toArray, List.set_cons_zero, List.set_cons_succ]
    refine wpAnyH_take (i := 52) (v := ?_) rfl (by kernel_rfl) (by kernel_rfl) (by kernel_rfl) (fun _ _ _ h => h) (Or.inl ⟨by kernel_rfl, ?_⟩) (by assumption) ?_
    rotate_left
    · intro wq hSq
      (try dsimp only at hSq)
      go_simp
      all_goals with_reducible rfl
    try simp only [Act.put, List.setIfInBounds_toArray, List.set_cons_zero, List.set_cons_succ]
    refine wpAnyH_ready (rs := [48]) (by kernel_rfl) (by simp) ?_
    refine AllReadyH.cons rfl (fun K hK => ?_) AllReadyH.nil
    go_simp
    go_at_call 37
    refine (HR1.out _ (by first | exact Below.refl _ _ | exact (Below.refl _ _).drew | exact hy1 | exact hy1.drew | exact hy2 | exact hy2.drew)).mono ?_
    rintro e y1 ⟨r1, rfl, hr1, hy1b⟩
    have hy1 : Below w12.heap.size w12 y1 := below_step (by first | exact Below.refl _ _ | exact (Below.refl _ _).drew | exact hy1 | exact hy1.drew | exact hy2 | exact hy2.drew) hy1b
    have kk1 := HK.out y1 hy1
    go_wp2_with fail
    refine hK.out _ _ kk1 (fun hHeld => ?_)
    try simp only [Act.put, List.setIfInBounds_toArray, List.set_cons_zero, List.set_cons_succ]
    refine wpAnyH_ready (rs := [53]) (by kernel_rfl) (by simp) ?_
    refine AllReadyH.cons rfl (fun K hK => ?_) AllReadyH.nil
    go_simp
    go_at_call 37
    refine (HR2.out _ (by first | exact Below.refl _ _ | exact (Below.refl _ _).drew | exact hy1 | exact hy1.drew | exact hy2 | exact hy2.drew)).mono ?_
    rintro e y2 ⟨r2, rfl, hr2, hy2b⟩
    have hy2 : Below w12.heap.size w12 y2 := below_step (by first | exact Below.refl _ _ | exact (Below.refl _ _).drew | exact hy1 | exact hy1.drew | exact hy2 | exact hy2.drew) hy2b
    have kk2 := HK.out y2 hy2
    go_wp2_with fail
    refine hK.out _ _ kk2 (fun hHeld => ?_)
    try simp only [Act.put, List.setIfInBounds_toArray, List.set_cons_zero, List.set_cons_succ]
    refine wpAnyH_ready (rs := [54]) (by kernel_rfl) (by simp) ?_
    refine AllReadyH.cons rfl (fun K hK => ?_) AllReadyH.nil
    go_simp
    go_at_call 32
    refine (pequal_same _ r1 r2 _ ((SRd.of_m hr1).on (by first | exact hy2b | exact hy2b.drew)) (by first | exact SRd.of_m hr2 | exact (SRd.of_m hr2).on (Below.refl _ _).drew)).mono ?_
    rintro e y3 ⟨rfl, n3, rfl⟩
    have hy3 : Below w12.heap.size w12 (y2.drewN n3) := below_dK hy2 _
    have kk3 := HK.out _ hy3
    go_wp2_with fail
    refine hK.out _ _ kk3 (fun hHeld => ?_)
    try simp only [Act.put, List.setIfInBounds_toArray, List.set_cons_zero, List.set_cons_succ]
    refine wpAnyH_take (i := 55) (v := ?_) rfl (by kernel_rfl) (by kernel_rfl) (by kernel_rfl) (fun _ _ _ h => h) (Or.inl ⟨by kernel_rfl, ?_⟩) (by assumption) ?_
    rotate_left
    · intro wq hSq
      (try dsimp only at hSq)
      go_simp
      all_goals with_reducible rfl
    try simp only [Act.put, List.setIfInBounds_toArray, List.set_cons_zero, List.set_cons_succ]
    refine wpAnyH_take (i := 56) (v := ?_) rfl (by kernel_rfl) (by kernel_rfl) (by kernel_rfl) (fun _ _ _ h => h) (Or.inl ⟨by kernel_rfl, ?_⟩) (by assumption) ?_
    rotate_left
    · intro wq hSq
      (try dsimp only at hSq)
      go_simp
      all_goals with_reducible rfl
    try simp only [Act.put, List.setIfInBounds_toArray, List.set_cons_zero, List.set_cons_succ]
    refine wpAnyH_done (by kernel_rfl) ?_ _
    try simp only [Act.put, List.getElem_toArray, List.getElem_cons_succ, List.getElem_cons_zero, List.setIfInBounds_toArray, List.set_cons_zero, List.set_cons_succ]
    go_wp2_with fail
    go_ret
    exact ⟨by first | rfl | simp, by first | exact below_step hb12w hy3 | exact below_step hb12w (below_dK hy2 _) | exact below_step hb12w hy2⟩
  · have hdf2 : qd1 = qd2 ∧ qf1 = qf2 := by
      rcases hdf with h | h
      · exact absurd h h63
      · exact h
    obtain ⟨rfl, rfl⟩ := hdf2
    have h63z : decide ((qo : Int) = 63) = false := by simp; omega
    have h63y : ((qo : Int) == 63) = false := by simp; omega
    clear hdf
    have HK := Lib.hid (show ∀ W : World, Below w12.heap.size w12 W → (W.cell? ⟨ga, 0, none⟩ = some (.int .i64 (qo : Nat)) ∧ W.cell? ⟨ga, 2, none⟩ = some (.int .i64 (qf1 : Nat)) ∧ W.cell? ⟨ga, 5, none⟩ = some (.string qd1) ∧ W.cell? ⟨gb, 2, none⟩ = some (.int .i64 0) ∧ W.cell? ⟨gb, 5, none⟩ = some (.string ⟨#[]⟩) ∧ W.cell? ⟨gb, 6, none⟩ = some (.int .i64 (qo : Nat)) ∧ W.cell? ⟨gb, 8, none⟩ = some (.int .i64 (qf1 : Nat)) ∧ W.cell? ⟨gb, 11, none⟩ = some (.string qd1) ∧ W.cell? ⟨f, 0, none⟩ = some (.pointer (some ⟨gn1, 0, none⟩)) ∧ W.cell? ⟨g, 0, none⟩ = some (.pointer (some ⟨gn2, 0, none⟩))) from fun W h => ⟨(h.cell (p := ⟨ga, 0, none⟩) HLT12.out.2.1).trans a0, (h.cell (p := ⟨ga, 2, none⟩) HLT12.out.2.1).trans a2, (h.cell (p := ⟨ga, 5, none⟩) HLT12.out.2.1).trans a5, (h.cell (p := ⟨gb, 2, none⟩) HGB.out).trans b2, (h.cell (p := ⟨gb, 5, none⟩) HGB.out).trans b5, (h.cell (p := ⟨gb, 6, none⟩) HGB.out).trans b6, (h.cell (p := ⟨gb, 8, none⟩) HGB.out).trans b8, (h.cell (p := ⟨gb, 11, none⟩) HGB.out).trans b11, (h.cell (p := ⟨f, 0, none⟩) HLT12.out.1).trans HCG.out.1, (h.cell (p := ⟨g, 0, none⟩) HLT12.out.2.2).trans HCG.out.2⟩)
    obtain ⟨k0, k1, k2, k3, k4, k5, k6, k7, k8, k9⟩ := HK.out w12 (Below.refl _ _)
    have kk0 := HK.out w12 (Below.refl _ _)
    clear a0 a2 a5 b2 b5 b6 b8 b11
    go_wp2_with fail
    go_region_held3 (fun w' => w'.cell? ⟨ga, 0, none⟩ = some (.int .i64 (qo : Nat)) ∧ w'.cell? ⟨ga, 2, none⟩ = some (.int .i64 (qf1 : Nat)) ∧ w'.cell? ⟨ga, 5, none⟩ = some (.string qd1) ∧ w'.cell? ⟨gb, 2, none⟩ = some (.int .i64 0) ∧ w'.cell? ⟨gb, 5, none⟩ = some (.string ⟨#[]⟩) ∧ w'.cell? ⟨gb, 6, none⟩ = some (.int .i64 (qo : Nat)) ∧ w'.cell? ⟨gb, 8, none⟩ = some (.int .i64 (qf1 : Nat)) ∧ w'.cell? ⟨gb, 11, none⟩ = some (.string qd1) ∧ w'.cell? ⟨f, 0, none⟩ = some (.pointer (some ⟨gn1, 0, none⟩)) ∧ w'.cell? ⟨g, 0, none⟩ = some (.pointer (some ⟨gn2, 0, none⟩))) (first | go_keep | exact kk0 | exact kk1 | exact kk2 | exact HK.out _ (Below.refl _ _).drew) ((first
      | (go_at_call 37; (first | (have hyy := hy1; clear hyy; (with_reducible refine (HR2.out _ (by first | exact Below.refl _ _ | exact (Below.refl _ _).drew | exact hy1 | exact hy1.drew | exact hy2 | exact hy2.drew)).mono ?_); rintro e y2 ⟨r2, rfl, hr2, hy2b⟩; have hy2 : Below w12.heap.size w12 y2 := below_step (by first | exact Below.refl _ _ | exact (Below.refl _ _).drew | exact hy1 | exact hy1.drew | exact hy2 | exact hy2.drew) hy2b; have kk2 := HK.out y2 hy2) | ((with_reducible refine (HR1.out _ (by first | exact Below.refl _ _ | exact (Below.refl _ _).drew | exact hy1 | exact hy1.drew | exact hy2 | exact hy2.drew)).mono ?_); rintro e y1 ⟨r1, rfl, hr1, hy1b⟩; have hy1 : Below w12.heap.size w12 y1 := below_step (by first | exact Below.refl _ _ | exact (Below.refl _ _).drew | exact hy1 | exact hy1.drew | exact hy2 | exact hy2.drew) hy1b; have kk1 := HK.out y1 hy1)))
      | (go_at_call 32; refine (pequal_same _ r1 r2 _ ((SRd.of_m hr1).on (by first | exact hy2b | exact hy2b.drew)) (by first | exact SRd.of_m hr2 | exact (SRd.of_m hr2).on (Below.refl _ _).drew)).mono ?_; rintro e y3 ⟨rfl, n3, rfl⟩; have hy3 : Below w12.heap.size w12 (y2.drewN n3) := below_dK hy2 _; have kk3 := HK.out _ hy3)))
    go_wp2_with fail
    go_ret
    exact ⟨by simp, by first | exact below_step hb12w hy3 | exact below_step hb12w (below_dK hy2 _) | exact below_step hb12w hy2⟩
end Go.Proofs.YtamlepacljjpiaaGreatDoor
