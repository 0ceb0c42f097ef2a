/- The walk of NegoNothing. -/
import Derived.Test.YtadhlnpegigadaaGreatDoorNegoTwo
namespace Go.Proofs.YtadhlnpegigadaaGreatDoor
open Go.ChangeShapes Go.WideShapes Go.ChangeAt Go.RowKit Go.Shelf
set_option linter.unusedVariables false
theorem results_p1 {P : Program} {fn : Func} {p : Tmp} {ty : TypeId} (h : fn.results = #[.cell p ty]) (tmps : Array Value) (w : World) (g : Nat) (t : TypeId) (cs : Array Value) (d : TypeDesc)
    (hp : tmps.getD p undef = .pointer (some ⟨g, 0, none⟩)) (hg : Blk w g t cs)
    (hu : P.underlying ty = some d) (hd : (match d with | .struct _ | .array _ _ => true | _ => false) = true) (hi : (P.info? ty).map (·.size) = some cs.size) :
    (results fn tmps).run P w = .ok (.agg cs) w := by
  have e : (results fn tmps).run P w = ((asAddr (tmps.getD p undef)).run P w).andThen fun x w₁ => (loadVar ty x).run P w₁ := by
    simp only [results, h]
    simp [Sem.run_bind, Result.andThen]
  rw [e, hp]
  have := run_loadVar_row (P := P) w g t ty cs (0, 0) d hg hu hd hi
  simp [asAddr, this]
theorem pair_any (a b : ByteArray) (w : World) : Calls Tryz.prog 43 #[.string a, .string b] w fun e w' => e = .returned (.agg #[.string a, .string b]) ∧ Below w.heap.size w w' := by
  have hb0 : Below w.heap.size w (w.alloc (.cells #[.string a, .string b] 52)) := (Below.refl _ _).alloc (Nat.le_refl _) _
  have hB0 := Blk.new w 52 #[.string a, .string b]
  go_enter Tryz.func43, Tryz.ntmps43
  go_wp2_with fail
  refine bodyPost_ret (results_p1 rfl _ _ w.heap.size _ _ _ (by rfl) hB0 Tryz.underlying52 rfl (by kernel_rfl)) rfl ?_
  exact ⟨rfl, hb0⟩
def iaB : ByteArray := ⟨#[73, 110, 105, 116, 105, 97, 116, 111, 114, 65, 108, 105, 97, 115]⟩
def iaxy : PairL := [(iaB, ⟨#[120]⟩), (iaB, ⟨#[121]⟩)]
theorem twice_bad (rc l : PairL) : ∃ E, ansE rc (l ++ iaxy) true = some E := by
  rcases h : ansE rc (l ++ iaxy) true with _ | E
  · have hk := ((ansE_none _ _ _).1 h).2.2.2
    exfalso
    unfold KD at hk
    rw [List.map_append, List.nodup_append] at hk
    have := hk.2.1
    simp [iaxy] at this
    exact this rfl
  · exact ⟨E, rfl⟩
set_option maxRecDepth 20000 in
set_option maxHeartbeats 8000000 in
theorem nothingNego (own : PairL) (vo : Value) (off : PairL) (vf : Value) (more : PairL) (vm : Value) (w : World) (hv : SRd w vo 2 own.length (pairCells own)) (hd : ∀ p ∈ own, psmall p) (hv2 : SRd w vf 2 off.length (pairCells off)) (hd2 : ∀ p ∈ off, psmall p) (hv3 : SRd w vm 2 more.length (pairCells more)) (hd3 : ∀ p ∈ more, psmall p)
    (hl1 : own.length * 32 ≤ 140737488351232) (hl2 : off.length * 32 ≤ 140737488351232) (hl3 : more.length * 32 ≤ 140737488351232) (V : Env w) :
    Calls Tryz.prog 9 #[vo, vf, vm] w fun e w' => e = .returned (.bool true) ∧ Below w.heap.size w w' := by
  go_enter Tryz.func9, Tryz.ntmps9
  go_wp2_with fail
  refine (settled_fact _ V).mono ?_
  rintro e w1 ⟨rfl, hb1⟩
  have V1 := V.on hb1
  go_wp2_with fail
  refine (made_any own _ _ (hv.on hb1) hd V1).mono ?_
  rintro e w2 ⟨hma, hb2⟩
  have hb2w := below_step hb1 hb2
  have V2 := V.on hb2w
  rcases hma with rfl | ⟨Sa, ga, rfl, hNa, hSa, hnew⟩
  · go_wp2_with fail
    refine (made_any own _ _ (hv.on hb2w) hd V2).mono ?_
    rintro e w3 ⟨hmb, hb3⟩
    rcases hmb with rfl | ⟨Sb, gb, rfl, hNb, hSb, _⟩
    · go_wp2_with fail
      go_ret
      exact ⟨rfl, below_step hb2w hb3⟩
    · go_wp2_with fail
      go_ret
      exact ⟨rfl, below_step hb2w hb3⟩
  go_wp2_with fail
  refine (made_any own _ _ (hv.on hb2w) hd V2).mono ?_
  rintro e w3 ⟨hmb, hb3⟩
  rcases hmb with rfl | ⟨Sb, gb, rfl, hNb, hSb, _⟩
  · go_wp2_with fail
    go_ret
    exact ⟨rfl, below_step hb2w hb3⟩
  have T3 : Two w w3 Sa Sb ga gb own [] [] [] := two_made hb1 hb2 hNa hSa hb3 hNb hSb
  clear hNa hNb hSa hSb
  go_wp2_with fail
  refine (thick_any off _ _ (hv2.on T3.b) hd2).mono ?_
  rintro e w4 ⟨b, rfl, hb4⟩
  have T4 := T3.on hb4
  rcases b with _ | _
  rotate_left
  · go_wp2_with fail
    go_ret
    exact ⟨rfl, T4.b⟩
  go_wp2_with fail
  refine (thick_any more _ _ (hv3.on T4.b) hd3).mono ?_
  rintro e w5 ⟨b, rfl, hb5⟩
  have T5 := T4.on hb5
  rcases b with _ | _
  rotate_left
  · go_wp2_with fail
    go_ret
    exact ⟨rfl, T5.b⟩
  clear T3 T4
  go_wp2_with fail
  refine (two_arg T5 off false vf V hv2 hd2 hnew (by simp)).mono ?_
  rintro e w6 he6
  obtain ⟨Sa6, u6, er6, rfl, hu6, ht6, T6, _⟩ := T5.ans he6
  have T6 := T6.less (L' := (erBlock er6).toList) (fun k hk => by simp at hk ⊢; simp [hk])
  clear he6 hu6 T5
  go_wp2_with fail
  refine (two_arg T6.swap off false vf V hv2 hd2 hnew (by simp)).mono ?_
  rintro e w7 he7
  obtain ⟨Sb7, u7, er7, rfl, hu7, ht7, T7, hk7⟩ := T6.swap.ans he7
  have ht6 := ht6.keepL hk7 (fun k hk => by simp [hk])
  have T7 := T7.swap.less (L' := (erBlock er7).toList ++ (erBlock er6).toList) (fun k hk => by simp at hk ⊢; rcases hk with h | h <;> simp [h])
  have hrl : (ansRc own [] off true false).length ≤ 60 := by have := ansRc_len (own := own) (rc := []) (offers := off) (login := true) (disc := false); simpa using this
  obtain ⟨R, hR⟩ : ∃ R, ansRc own [] off true false = R := ⟨_, rfl⟩
  rw [hR] at T7 hrl
  clear he7 hu7 T6 hk7 hR
  go_wp2_with fail
  refine (clone_pair more _ _ (hv3.on T7.b) hl3).mono ?_
  rintro e w8 ⟨u8, rfl, hr8, hb8⟩
  have T8 := T7.on hb8
  have ht6 := ht6.on hb8
  have ht7 := ht7.on hb8
  obtain ⟨A8, cap8, rfl, _⟩ := hr8.form
  have h7a := T7.na.lt
  have h7b := T7.nb.lt
  have h7l := fun k hk => (T7.l k hk).1
  have h7w := T7.b.size
  clear T7
  go_wp2_with fail
  refine (pair_any iaB ⟨#[120]⟩ _).mono ?_
  rintro e w9 ⟨rfl, hb9⟩
  have T9 := T8.on hb9
  have ht6 := ht6.on hb9
  have ht7 := ht7.on hb9
  have hr9 := hr8.below hb9 (Nat.le_refl _)
  go_wp2_with fail
  refine (pair_any iaB ⟨#[121]⟩ _).mono ?_
  rintro e w10 ⟨rfl, hb10⟩
  have T10 := T9.on hb10
  have ht6 := ht6.on hb10
  have ht7 := ht7.on hb10
  have hr10 := MRow.below hr9 hb10 (Nat.le_refl _)
  have h78 := hb8.size
  have h710 : w7.heap.size ≤ w10.heap.size := by have := hb9.size; have := hb10.size; omega
  clear T8 T9 hr8 hr9
  go_wp2_with (at_builtin; refine wpList_append_pairs _ rfl _ _ rfl w7.heap.size _ more rfl (MRow.alloc hr10 _) _ iaxy rfl (SRd.litp (Blk.new w10 _ _) rfl (by decide) (by decide)) (by show (more.length + 2) * 32 ≤ _; omega) (by simp; omega) (Below.refl _ _) ?_)
  intro u11 w11 hr11 hb11 hg11
  have hba : Below w10.heap.size w10 (w10.alloc (.cells #[.string iaB, .string ⟨#[120]⟩, .string iaB, .string ⟨#[121]⟩] 52)) := (Below.refl _ _).alloc (Nat.le_refl _) _
  have T11 := (T10.on hba).past hb11 h7w h7a h7b h7l
  have ht6 := (ht6.on hba).keep fun k hk => hb11.block k (h7l k (by simp [hk]))
  have ht7 := (ht7.on hba).keep fun k hk => hb11.block k (h7l k (by simp [hk]))
  have hr11b := MRow.lt hr11
  have hrd11 := SRd.of_m hr11
  obtain ⟨A11, cap11, rfl, _⟩ := MRow.form hr11
  have hdm : ∀ p ∈ more ++ iaxy, psmall p := fun p hp => by
    rcases List.mem_append.1 hp with hp | hp
    · exact hd3 p hp
    · simp [iaxy] at hp
      rcases hp with rfl | rfl <;> exact ⟨by decide, by decide⟩
  obtain ⟨E, hE⟩ := twice_bad R more
  have hX : ansX own R (more ++ iaxy) true false = [] := by unfold ansX; rw [hE]
  have hRc : ansRc own R (more ++ iaxy) true false = R := by unfold ansRc; rw [hE]
  have hEn := ansE_nz hE
  have hcE : codeE (ansE R (more ++ iaxy) true) = E.1 := by rw [hE]; rfl
  have hans := nanswer_any ga Sa6 own R (more ++ iaxy) true false _ w11 w T11.na hrd11 (fun _ k hk hm => by have h1 := h7a k hm; have h2 := (hr11b k hk).1; omega) hdm (own_ok hnew).1 (by omega) (.inl rfl) V T11.b T11.sa
  obtain ⟨n11, hn11⟩ : ∃ n, (more ++ iaxy).length = n := ⟨_, rfl⟩
  rw [hn11] at hans ⊢
  have HX := Lib.hid hX
  have HRC := Lib.hid hRc
  have HCE := Lib.hid hcE
  have HEN := Lib.hid hEn
  have HANS := Lib.hid hans
  clear hr11 hrd11 hr10 hg11 hb11 T10 hX hRc hcE hans hE hEn hdm hn11
  go_wp2_with fail
  refine HANS.out.mono ?_
  rintro e w12 he12
  obtain ⟨Sa12, u12, er12, rfl, hu12, ht12, T12, hk12⟩ := T11.ans he12
  rw [HX.out] at hu12
  rw [HRC.out] at T12
  rw [HCE.out] at ht12
  obtain ⟨t12, x12, rfl⟩ := ht12.iface HEN.out
  obtain ⟨A12, cap12, rfl⟩ := hu12.form
  have ht6 := ht6.keepL hk12 (fun k hk => by simp [hk])
  have ht7 := ht7.keepL hk12 (fun k hk => by simp [hk])
  have T12 := T12.less (L' := (erBlock er7).toList ++ (erBlock er6).toList) (fun k hk => by simp at hk ⊢; rcases hk with h | h <;> simp [h])
  clear he12 hu12 ht12 T11 hk12
  go_wp2_with fail
  refine (two_arg T12 more false vm V hv3 hd3 hnew (by omega)).mono ?_
  rintro e w13 he13
  obtain ⟨Sa13, u13, er13, rfl, hu13, ht13, T13, hk13⟩ := T12.ans he13
  have ht6 := ht6.keepL hk13 (fun k hk => by simp [hk])
  have ht7 := ht7.keepL hk13 (fun k hk => by simp [hk])
  clear he13 T12 hk13
  go_wp2_with fail
  refine (two_arg T13.swap more false vm V hv3 hd3 hnew (by omega)).mono ?_
  rintro e w14 he14
  obtain ⟨Sb14, u14, er14, rfl, hu14, ht14, T14, hk14⟩ := T13.swap.ans he14
  have ht6 := ht6.keepL hk14 (fun k hk => by simp [hk])
  have ht7 := ht7.keepL hk14 (fun k hk => by simp [hk])
  have ht13 := ht13.keepL hk14 (fun k hk => by simp [hk])
  have hu13 := hu13.keepL hk14 (fun k hk => by simp [hk])
  have T14 := T14.swap
  have hxl := ansX_len (own := own) (rc := R) (offers := more) (login := true) (disc := false)
  have hrl2 : (ansRc own R more true false).length ≤ 120 := by have := ansRc_len (own := own) (rc := R) (offers := more) (login := true) (disc := false); omega
  obtain ⟨c1, hc1⟩ : ∃ c, codeE (ansE [] off true) = c := ⟨_, rfl⟩
  obtain ⟨c2, hc2⟩ : ∃ c, codeE (ansE R more true) = c := ⟨_, rfl⟩
  obtain ⟨X, hX⟩ : ∃ X, ansX own R more true false = X := ⟨_, rfl⟩
  obtain ⟨R2, hR2⟩ : ∃ X, ansRc own R more true false = X := ⟨_, rfl⟩
  rw [hc1] at ht6 ht7
  rw [hc2] at ht13 ht14
  rw [hX] at hu13 hu14
  rw [hR2] at T14 hrl2
  clear he14 T13 hk14 hc1 hc2 hX hR2 hxl
  have b14 := T14.b
  have V14 := V.on T14.b
  have hx13 := hu13.rd
  have hx14 := hu14.rd
  obtain ⟨A13, cap13, rfl⟩ := hu13.form
  obtain ⟨A14, cap14, rfl⟩ := hu14.form
  clear hu13 hu14
  go_wp2_with fail
  refine (ht6.calls V14.L).mono ?_
  rintro e w15 ⟨rfl, hb15⟩
  have ht7 := ht7.on hb15
  have V15 := V14.on hb15
  go_wp2_with fail
  refine (ht7.calls V15.L).mono ?_
  rintro e w16 ⟨rfl, hb16⟩
  have hb1416 := below_step hb15 hb16
  have ht13 := ht13.on hb1416
  have V16 := V14.on hb1416
  go_wp2_with fail
  refine (ht13.calls V16.L).mono ?_
  rintro e w17 ⟨rfl, hb17⟩
  have hb1417 := below_step hb1416 hb17
  have ht14 := ht14.on hb1417
  have V17 := V14.on hb1417
  go_wp2_with fail
  refine (ht14.calls V17.L).mono ?_
  rintro e w18 ⟨rfl, hb18⟩
  have hb1418 := below_step hb1417 hb18
  go_wp2_with fail
  refine (pequal_same X _ _ _ (hx13.on hb1418) (hx14.on hb1418)).mono ?_
  rintro e w19 ⟨rfl, kq, hw19⟩
  have hb1419 : Below w14.heap.size w14 w19 := by rw [hw19]; exact below_dK hb1418 kq
  have T19 := T14.on hb1419
  clear hw19 hx13 hx14 ht6 ht7 ht13 ht14 T14
  go_wp2_with fail
  refine (nrec_any ga Sa13 own R2 _ T19.na (by omega)).mono ?_
  rintro e w20 ⟨v20, rfl, hr20, hb20⟩
  have T20 := T19.on hb20
  have hrd20 := SRd.of_m hr20
  obtain ⟨A20, cap20, rfl, _⟩ := hr20.form
  clear hr20 T19
  go_wp2_with fail
  refine (nrec_any gb Sb14 own R2 _ T20.nb (by omega)).mono ?_
  rintro e w21 ⟨v21, rfl, hr21, hb21⟩
  have hrd21 := SRd.of_m hr21
  have hrd20 := hrd20.on hb21
  have b21 := (T20.on hb21).b
  obtain ⟨A21, cap21, rfl, _⟩ := hr21.form
  clear hr21 T20
  go_wp2_with fail
  refine (pequal_same R2 _ _ _ hrd20 hrd21).mono ?_
  rintro e w22 ⟨rfl, kr, rfl⟩
  go_wp2_with fail
  go_ret
  exact ⟨rfl, below_dK b21 kr⟩
end Go.Proofs.YtadhlnpegigadaaGreatDoor
