/- The walk of the law KeysLists. -/
import Derived.Test.YtecembemhjjdhaaGreatDoorKeysW4
import Derived.Test.YtecembemhjjdhaaGreatDoorStrRow
import Derived.Test.YtecembemhjjdhaaGreatDoorShelfB
import Derived.Lib.IndexLaws
import Derived.Lib.AppendZeros
namespace Go.Proofs.YtecembemhjjdhaaGreatDoor
open Go.ChangeShapes Go.WideShapes Go.ChangeAt Go.RowKit Go.Shelf
set_option linter.unusedVariables false
set_option linter.unusedSimpArgs false
theorem listP_cat (s word : List UInt8) (la : List (List UInt8)) (h : listP s = some la) (hc : 44 ∉ word) : listP (s ++ 44 :: word) = if word ≠ [] ∧ word ∉ la then some (la ++ [word]) else none := by
  unfold listP at h ⊢
  split at h
  · rename_i hok
    have hl := Option.some.inj h
    rw [splitC_cat, splitC_none 44 word hc, hl]
    rw [hl] at hok
    by_cases hw : word ≠ [] ∧ word ∉ la
    · rw [if_pos hw, if_pos ((okWords_snoc la word hok).2 hw)]
    · rw [if_neg hw, if_neg (fun h => hw ((okWords_snoc la word hok).1 h))]
  · cases h
theorem list_join {l : List UInt8} {la : List (List UInt8)} (h : listP l = some la) : Lib.join ((la.map fun l => (⟨l.toArray⟩ : ByteArray)).map (·.data.toList)) (⟨#[44]⟩ : ByteArray).data.toList = l := by
  have hl : splitC 44 l = la := by
    unfold listP at h
    split at h
    · exact Option.some.inj h
    · cases h
  have h2 := join_split 44 l
  rw [hl] at h2
  have he : (la.map fun l => (⟨l.toArray⟩ : ByteArray)).map (·.data.toList) = la := by
    rw [List.map_map]
    exact List.map_id' la
  rw [he]
  exact h2
theorem wpList_append_guarded {P : Program} (w : World) {ops : Array Oper} {rest : List Oper} {o : Oper} {a : Act} {Q : Exit → Act → World → Prop} (hw : Region.wanted o (yielded ops a.tmps) = true) (s x : Operand) (t tn : TypeId)
    (ho : o.op = .call { callee := .builtin .append, args := #[s, x], argTypes := #[t, tn] }) (vs vx : Value) (hs : a.eval s = vs) (hx : a.eval x = vx)
    (v' : Value) (w' : World) (hr : (Builtin.append_ #[t, tn] o.type #[vs, vx]).run P w = .ok v' w') (h : wpList P ops Q rest (a.put o.dst v') w') : wpList P ops Q (o :: rest) a w :=
  wpList_step fun _ hK => by
    rw [if_pos hw]
    exact Lib.wp_append_run w s x t tn ho vs vx hs hx v' w' hr (hK _ _ h)
theorem comma_no {l : List UInt8} (h : ¬ 0 ≤ Lib.indexByte l 44) : 44 ∉ l := by
  have hg := Lib.indexByte_ge l 44
  have h1 : Lib.indexByte l 44 = -1 := by omega
  intro hm
  obtain ⟨k, hk⟩ := List.mem_iff_getElem?.1 hm
  exact Lib.indexByte_none h1 k hk
set_option maxRecDepth 20000 in
set_option maxHeartbeats 4000000 in
theorem listsKeys (s word : ByteArray) (w : World) (hs : s.size ≤ 140737488351232) (hw : word.size ≤ 140737488351232) (V : Env w) :
    Calls Tryz.prog 9 #[.string s, .string word] w fun e w' => e = .returned (.bool true) ∧ Below w.heap.size w w' := by
  have hcon := fun w => Tryz.strings_Contains_one word 44 w
  have HCON := Lib.hid hcon
  clear hcon
  go_enter Tryz.func9, Tryz.ntmps9
  go_wp2_with fail
  refine (keyed_fact _ V).mono ?_
  rintro e w1 ⟨rfl, hb1⟩
  have V1 := V.on hb1
  by_cases hbig : 300 < s.size + word.size
  · go_wp2_with fail
    go_ret
    exact ⟨rfl, hb1⟩
  have hna : (s.size : Int) + word.size ≤ 300 := by omega
  have hs2 : s.size ≤ 300 := by omega
  have hw2 : word.size ≤ 300 := by omega
  by_cases hcm : 0 ≤ Lib.indexByte word.data.toList 44
  · have hd : decide (0 ≤ Lib.indexByte word.data.toList 44) = true := by simpa using hcm
    have HD := Lib.hid hd
    clear hcm hd
    go_wp2_with fail
    refine (HCON.out _).mono ?_
    rintro e w' ⟨rfl, rfl⟩
    rw [HD.out]
    go_wp2_with fail
    go_ret
    exact ⟨rfl, hb1⟩
  have hd : decide (0 ≤ Lib.indexByte word.data.toList 44) = false := by simpa using hcm
  have hno := comma_no hcm
  have HD := Lib.hid hd
  have HNO := Lib.hid hno
  clear hcm hd hno
  go_wp2_with fail
  refine (HCON.out _).mono ?_
  rintro e w' ⟨rfl, rfl⟩
  rw [HD.out]
  rcases hla : listP s.data.toList with _ | la
  · have HLA := Lib.hid hla
    clear hla
    go_wp2_with fail
    refine (list_no s HLA.out _ (by omega) V1.S).mono ?_
    rintro e w2 ⟨rfl, hb3⟩
    go_wp2_with fail
    go_ret
    exact ⟨rfl, below_step hb1 hb3⟩
  have hcat := listP_cat s.data.toList word.data.toList la hla HNO.out
  have HLA := Lib.hid hla
  clear hla
  go_wp2_with fail
  refine (list_words s la HLA.out _ (by omega) V1.S).mono ?_
  rintro e w2 ⟨g1, rfl, hA2, hB2, hAn, hb3⟩
  have hbw2 := below_step hb1 hb3
  obtain ⟨T, hT⟩ : ∃ T : ByteArray, s ++ ⟨#[44]⟩ ++ word = T := ⟨_, rfl⟩
  have hTl : T.data.toList = s.data.toList ++ 44 :: word.data.toList := by rw [← hT]; simp
  have hTz : T.size ≤ 301 := by
    rw [← len_of, hTl, List.length_append, List.length_cons, len_of, len_of]
    omega
  rw [← hTl] at hcat
  have laI : (la.length : Int) ≤ 301 := by omega
  have HT := Lib.hid hT
  have HTL := Lib.hid hTl
  clear hT hTl
  by_cases hgood : word.data.toList ≠ [] ∧ word.data.toList ∉ la
  · rw [if_pos hgood] at hcat
    have HC := Lib.hid hcat
    have f1 : ¬ word.toList = [] := by rw [toList_of]; exact hgood.1
    have f2 : word.toList.isEmpty = false := by
      rcases hl : word.toList with _ | ⟨y, l⟩
      · exact absurd hl f1
      · rfl
    have hdec : decide (word.data.toList ∈ la) = false := by simpa using hgood.2
    have HDEC := Lib.hid hdec
    clear hcat hgood hdec
    go_wp2_with fail
    rw [HT.out]
    refine (list_words T (la ++ [word.data.toList]) HC.out _ (by omega) (V.on hbw2).S).mono ?_
    rintro e w3 ⟨g2, rfl, hM3, _, hMn, hb4⟩
    have hbw3 := below_step hbw2 hb4
    have hA3 := hA2.on hb4
    have hB3 := hB2.below hb4 hB2.lt
    have hlen1 : (la ++ [word.data.toList]).length = la.length + 1 := by simp
    have hM4 : WRd w3 (.slice (some ⟨g2, 0, none⟩) (la.length + 1) (la.length + 1)) (la ++ [word.data.toList]) := by rw [← hlen1]; exact hM3
    have hzz : (w3.alloc (.cells #[.string word] 9)).heap.size = w3.heap.size + 1 := by simp
    obtain ⟨i0, hi, hz0, hz1, hz2⟩ := info_parts infoStr
    have hal : Below w3.heap.size w3 (w3.alloc (.cells #[.string word] 9)) := (Below.refl _ _).alloc (Nat.le_refl _) _
    have hB4 := hB3.alloc (.cells #[.string word] 9)
    obtain ⟨v', w4, r0, r1, r2⟩ := run_append_arg_grows (P := Tryz.prog) (w3.alloc (.cells #[.string word] 9)) 35 35 9 i0 _ 1 16 Tryz.underlying35 hi hz0 hz1 hz2 rfl (by decide) ⟨g1, 0, none⟩ la.length la.length (la.map strV) (by simp)
      (fun j u hu => by rw [Addr.add_lit, Nat.zero_add, hB4.cell j, List.getElem?_toArray]; exact hu) ⟨w3.heap.size, 0, none⟩ 1 1 [.string word] (by simp)
      (fun j u hu => by
        match j with
        | 0 => cases hu; rw [Addr.add_lit]; exact (Blk.new w3 _ _).cell 0
        | j + 1 => simp at hu) (by omega) (by unfold maxLen; omega) (by omega)
    have hv4 : WRd w4 v' (la ++ [word.data.toList]) := by
      have h := SRd.of_m (MRow.of_own r1)
      have hs : [Value.string word] = [word.data.toList].map strV := by
        show [Value.string word] = [Value.string ⟨word.data.toList.toArray⟩]
        rw [← str_of]
      unfold WRd
      rw [hlen1, List.map_append, ← hs]
      exact h
    have hb34 : Below w3.heap.size w3 w4 := (hal.grown r2 (by omega) (by rintro k ⟨⟩))
    have hM5 := hM4.on hb34
    have hB5 : Blk w4 g1 9 (la.map strV).toArray := hB4.grown r2 (by simp)
    have hbw4 := below_step hbw3 hb34
    have HM5 := Lib.hid hM5
    have HV4 := Lib.hid hv4
    have HJ := Lib.hid (list_join HLA.out)
    clear hM3 hM4 hzz hal hB4 r1 r2 hb34 hi hz0 hz1 hz2 hlen1 hM5 hv4
    have hML : ((la ++ [word.data.toList]).length : Int) ≤ 302 := by rw [List.length_append]; simp only [List.length_cons, List.length_nil]; omega
    go_wp2_with fail
    refine (contains_any word _ la _ hA3).mono ?_
    rintro e w' ⟨rfl, rfl⟩
    rw [HDEC.out]
    go_wp2_with (at_builtin; refine wpList_append_guarded _ (by kernel_rfl) _ _ _ _ rfl _ _ rfl rfl v' w4 r0 ?_)
    refine (wequal_same (la ++ [word.data.toList]) _ _ _ HM5.out HV4.out).mono ?_
    rintro e w5 ⟨rfl, nq, rfl⟩
    have hB6 := hB5.drewN nq
    have hj := Tryz.strings_Join g1 0 la.length (la.map fun l => (⟨l.toArray⟩ : ByteArray)) ⟨#[44]⟩ (w4.drewN nq) (fun j x hx => by
      rw [Nat.zero_add, hB6.cell j, List.getElem?_toArray]
      rw [List.getElem?_map] at hx ⊢
      rcases hl : la[j]? with _ | l
      · rw [hl] at hx; cases hx
      · rw [hl] at hx
        cases hx
        rfl) hB6.lt (by rw [List.length_map]; omega) (by rw [List.length_map]; omega) (by rw [HJ.out, len_of]; omega)
    rw [HJ.out, List.length_map, ← str_of] at hj
    have HJJ := Lib.hid hj
    clear hj
    have hbw5 := below_dK hbw4 nq
    go_wp2_with fail
    refine HJJ.out.mono ?_
    rintro e w6 ⟨rfl, hb6⟩
    go_wp2_with fail
    go_ret
    exact ⟨by simp, below_step hbw5 hb6⟩
  · rw [if_neg hgood] at hcat
    have HC := Lib.hid hcat
    by_cases hw0 : word.data.toList = []
    · have f1 : word.toList = [] := (toList_of word).trans hw0
      have f2 : word.toList.isEmpty = true := by rw [f1]; rfl
      clear hcat hgood hw0
      go_wp2_with fail
      rw [HT.out]
      refine (list_no T HC.out _ (by omega) (V.on hbw2).S).mono ?_
      rintro e w3 ⟨rfl, hb4⟩
      have hbw3 := below_step hbw2 hb4
      go_wp2_with fail
      go_ret
      exact ⟨rfl, hbw3⟩
    · have hin : word.data.toList ∈ la := Classical.byContradiction fun h => hgood ⟨hw0, h⟩
      have f1 : ¬ word.toList = [] := by rw [toList_of]; exact hw0
      have f2 : word.toList.isEmpty = false := by
        rcases hl : word.toList with _ | ⟨y, l⟩
        · exact absurd hl f1
        · rfl
      have hdec : decide (word.data.toList ∈ la) = true := by simpa using hin
      have HDEC := Lib.hid hdec
      clear hcat hgood hw0 hin hdec
      go_wp2_with fail
      rw [HT.out]
      refine (list_no T HC.out _ (by omega) (V.on hbw2).S).mono ?_
      rintro e w3 ⟨rfl, hb4⟩
      have hbw3 := below_step hbw2 hb4
      have hA3 := hA2.on hb4
      go_wp2_with fail
      refine (contains_any word _ la _ hA3).mono ?_
      rintro e w' ⟨rfl, rfl⟩
      rw [HDEC.out]
      go_wp2_with fail
      go_ret
      exact ⟨rfl, hbw3⟩
end Go.Proofs.YtecembemhjjdhaaGreatDoor
