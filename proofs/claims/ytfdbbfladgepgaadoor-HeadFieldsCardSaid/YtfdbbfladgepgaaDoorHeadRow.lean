/- The contract of head.row: the words of what is known of a PDU. -/
import Derived.Test.YtfdbbfladgepgaaDoorSplitSeq
import Derived.Shelf.RegionOpen
namespace Go.Proofs.YtfdbbfladgepgaaDoor
open Go.ChangeShapes Go.WideShapes Go.ChangeAt Go.RowKit Go.Shelf
set_option linter.unusedVariables false
def Tabs (w : World) : Prop := Lib.TabIs Tryd.prog w "strings.asciiSpace" .u8 Lib.asciiSpaceTab ∧ Lib.TabIs Tryd.prog w "internal/strconv.uint64pow10" .u64 Lib.pow10Tab
theorem tab_on {w w' : World} {name : String} {k : IntKind} {zs : List Int} (h : Lib.TabIs Tryd.prog w name k zs) (hb : Below w.heap.size w w') : Lib.TabIs Tryd.prog w' name k zs := by
  unfold Lib.TabIs World.var? at h ⊢
  rcases hg : (Tryd.prog).globalNamed name with _ | g
  · rw [hg] at h; simp at h
  · rw [hg] at h
    simp only [Option.bind_some] at h ⊢
    rw [hb.block g ?_]
    · exact h
    · by_cases hlt : g < w.heap.size
      · exact hlt
      · rw [Array.getElem?_eq_none (by omega)] at h
        simp at h
theorem Tabs.on {w w' : World} (h : Tabs w) (hb : Below w.heap.size w w') : Tabs w' := ⟨tab_on h.1 hb, tab_on h.2 hb⟩
def wordVs (r : HeadR) : List Value := (rowWords r).map fun l => .string ⟨l.toArray⟩
theorem fields_at (r : HeadR) (hr : r ∈ headT) (w : World) (T : Tabs w) : Calls Tryd.prog 19 #[.string ⟨(joinC 32 (rowWords r)).toArray⟩] w fun e w' =>
    e = .returned (.slice (some ⟨w.heap.size, 0, none⟩) (rowWords r).length (rowWords r).length) ∧ w' = w.alloc (.cells (wordVs r).toArray 9) := by
  have hp : joinC 32 (rowWords r) ∈ piecesH := List.mem_map.2 ⟨r, hr, rfl⟩
  have h := Tryd.strings_Fields_laid ⟨(joinC 32 (rowWords r)).toArray⟩ w (by have := piecesH_size _ hp; rw [size_mkl]; omega) (fun j b hj => piecesH_ascii _ hp b (List.mem_of_getElem? hj)) T.1
  rw [show (⟨(joinC 32 (rowWords r)).toArray⟩ : ByteArray).data.toList = joinC 32 (rowWords r) from rfl, piecesH_fields r hr] at h
  exact h
theorem itoa_to (op : Int) (X : ByteArray) (hX : X = ⟨(Lib.itoa op).toArray⟩) (w : World) (h0 : -9223372036854775808 ≤ op ∧ op ≤ 9223372036854775807) (T : Tabs w) : Calls Tryd.prog 20 #[.int .i64 op] w fun e w' => e = .returned (.string X) ∧ Below w.heap.size w w' := by
  refine (Tryd.strconv_Itoa op h0.1 h0.2 w T.2).mono ?_
  rintro e w' ⟨rfl, k, os, rfl⟩
  rw [hX]
  exact ⟨rfl, ⟨rfl, rfl, rfl, by simp [Go.Sort.grow], fun j hj => by simp only [Go.Sort.grow]; rw [Array.getElem?_append_left (by simpa using hj)]; rfl⟩⟩
theorem split_rows (s sep : ByteArray) (h : s = ⟨rowsH.toArray⟩) (w : World) : Calls Tryd.prog 18 #[.string s, .string sep] w fun e w' =>
    e = .returned (.func (.func 37) #[] #[.pointer (some ⟨w.heap.size + 1, 0, none⟩), .pointer (some ⟨w.heap.size, 0, none⟩), .pointer (some ⟨w.heap.size + 2, 0, none⟩)]) ∧
    w' = ((w.alloc (.cells #[.string ⟨rowsH.toArray⟩] 9)).alloc (.cells #[.string sep] 9)).alloc (.cells #[.int .i64 0] 3) := by
  rw [h]
  exact splitSeq_any _ sep w
def rowIs (w : World) (v : Value) : Option HeadR → Prop
  | none => v = .slice none 0 0
  | some r => ∃ g, v = .slice (some ⟨g, 0, none⟩) (rowWords r).length (rowWords r).length ∧ Blk w g 9 (wordVs r).toArray
theorem piece_at (pre : List ByteArray) (x : ByteArray) (h : pre ++ [x] <+: piecesH.map fun p => (⟨p.toArray⟩ : ByteArray)) : ∃ r, headT[pre.length]? = some r ∧ x = ⟨(joinC 32 (rowWords r)).toArray⟩ := by
  obtain ⟨post, hp⟩ := h
  have h1 : (piecesH.map fun p => (⟨p.toArray⟩ : ByteArray))[pre.length]? = some x := by rw [← hp]; simp
  rw [piecesH, List.map_map, List.getElem?_map] at h1
  rcases hr : headT[pre.length]? with _ | r
  · rw [hr] at h1; simp at h1
  · rw [hr, Option.map_some, Option.some.injEq] at h1
    exact ⟨r, rfl, h1.symm⟩
theorem row_hit (op : Int) (k : Nat) (r : HeadR) (hr : headT[k]? = some r) (hno : ∀ q ∈ headT.take k, (q.1 : Int) ≠ op) (h : (r.1 : Int) = op) : headRow op = some r := by
  have hk : k < headT.length := (List.getElem?_eq_some_iff.1 hr).1
  have he : headT = headT.take k ++ r :: headT.drop (k + 1) := by
    rw [List.getElem?_eq_getElem hk, Option.some.injEq] at hr
    rw [← hr, ← List.drop_eq_getElem_cons hk, List.take_append_drop]
  unfold headRow
  rw [he]
  exact find_stop _ _ _ _ (fun q hq => by simpa using hno q hq) (by simpa using h)
theorem row_none (op : Int) (hno : ∀ q ∈ headT, (q.1 : Int) ≠ op) : headRow op = none := by
  unfold headRow
  rw [List.find?_eq_none]
  intro q hq
  simpa using hno q hq
attribute [local go_sem] Oper.semAt_some
set_option maxRecDepth 100000 in
set_option maxHeartbeats 2000000 in
theorem row_any (op : Int) (w : World) (h0 : -9223372036854775808 ≤ op ∧ op ≤ 9223372036854775807) (T : Tabs w) : Calls Tryd.prog 11 #[.int .i64 op] w fun e w' => ∃ v, e = .returned v ∧ rowIs w' v (headRow op) ∧ Below w.heap.size w w' := by
  refine (callsIn_wide (n := 8)).1 ?_
  refine callsIn_of_wp_marks Tryd.func11 rfl trivial ?_ rfl
  simp only [Tryd.ntmps11, List.size_toArray, List.length_cons, List.length_nil, Nat.reduceAdd, Nat.reduceSub, Array.replicate_succ, Array.replicate_zero, List.push_toArray, List.append_toArray, List.nil_append, List.cons_append]
  gi_wp2
  refine ⟨trivial, ?_⟩
  refine (callsIn_wide.2 (split_rows _ _ (by kernel_rfl) _)).mono ?_
  rintro e w' ⟨rfl, rfl⟩
  gi_wp2
  obtain ⟨g, hg⟩ : ∃ g, w.heap.size = g := ⟨_, rfl⟩
  simp only [hg]
  have hb0 : Below g w (((((w.alloc (.cells #[.int .i64 op] 3)).alloc (.cells #[.slice none 0 0] 43)).alloc (.cells #[.string ⟨rowsH.toArray⟩] 9)).alloc (.cells #[.string ⟨#[124]⟩] 9)).alloc (.cells #[.int .i64 0] 3)) := by
    subst hg
    exact (((((Below.refl _ _).alloc (Nat.le_refl _) _).alloc (by simp) _).alloc (by simp <;> omega) _).alloc (by simp <;> omega) _).alloc (by simp <;> omega) _
  have hBo : Blk (((((w.alloc (.cells #[.int .i64 op] 3)).alloc (.cells #[.slice none 0 0] 43)).alloc (.cells #[.string ⟨rowsH.toArray⟩] 9)).alloc (.cells #[.string ⟨#[124]⟩] 9)).alloc (.cells #[.int .i64 0] 3)) g 3 #[.int .i64 op] := by
    subst hg
    exact ((((Blk.new w _ _).alloc _).alloc _).alloc _).alloc _
  have hBr : Blk (((((w.alloc (.cells #[.int .i64 op] 3)).alloc (.cells #[.slice none 0 0] 43)).alloc (.cells #[.string ⟨rowsH.toArray⟩] 9)).alloc (.cells #[.string ⟨#[124]⟩] 9)).alloc (.cells #[.int .i64 0] 3)) (g + 1) 43 #[.slice none 0 0] := by
    subst hg
    have := ((((Blk.new (w.alloc (.cells #[.int .i64 op] 3)) 43 #[.slice none 0 0]).alloc (.cells #[.string ⟨rowsH.toArray⟩] 9)).alloc (.cells #[.string ⟨#[124]⟩] 9)).alloc (.cells #[.int .i64 0] 3))
    simpa using this
  have hB0 : Blk (((((w.alloc (.cells #[.int .i64 op] 3)).alloc (.cells #[.slice none 0 0] 43)).alloc (.cells #[.string ⟨rowsH.toArray⟩] 9)).alloc (.cells #[.string ⟨#[124]⟩] 9)).alloc (.cells #[.int .i64 0] 3)) (g + 1 + 1) 9 #[.string ⟨rowsH.toArray⟩] := by
    subst hg
    have := (((Blk.new ((w.alloc (.cells #[.int .i64 op] 3)).alloc (.cells #[.slice none 0 0] 43)) 9 #[.string ⟨rowsH.toArray⟩]).alloc (.cells #[.string ⟨#[124]⟩] 9)).alloc (.cells #[.int .i64 0] 3))
    simpa using this
  have hB1 : Blk (((((w.alloc (.cells #[.int .i64 op] 3)).alloc (.cells #[.slice none 0 0] 43)).alloc (.cells #[.string ⟨rowsH.toArray⟩] 9)).alloc (.cells #[.string ⟨#[124]⟩] 9)).alloc (.cells #[.int .i64 0] 3)) (g + 1 + 1 + 1) 9 #[.string ⟨#[124]⟩] := by
    subst hg
    have := ((Blk.new (((w.alloc (.cells #[.int .i64 op] 3)).alloc (.cells #[.slice none 0 0] 43)).alloc (.cells #[.string ⟨rowsH.toArray⟩] 9)) 9 #[.string ⟨#[124]⟩]).alloc (.cells #[.int .i64 0] 3))
    simpa using this
  have hB2 : Blk (((((w.alloc (.cells #[.int .i64 op] 3)).alloc (.cells #[.slice none 0 0] 43)).alloc (.cells #[.string ⟨rowsH.toArray⟩] 9)).alloc (.cells #[.string ⟨#[124]⟩] 9)).alloc (.cells #[.int .i64 0] 3)) (g + 1 + 1 + 2) 3 #[.int .i64 0] := by
    subst hg
    have := (Blk.new ((((w.alloc (.cells #[.int .i64 op] 3)).alloc (.cells #[.slice none 0 0] 43)).alloc (.cells #[.string ⟨rowsH.toArray⟩] 9)).alloc (.cells #[.string ⟨#[124]⟩] 9)) 3 #[.int .i64 0])
    simpa using this
  have hsz : (((((w.alloc (.cells #[.int .i64 op] 3)).alloc (.cells #[.slice none 0 0] 43)).alloc (.cells #[.string ⟨rowsH.toArray⟩] 9)).alloc (.cells #[.string ⟨#[124]⟩] 9)).alloc (.cells #[.int .i64 0] 3)).heap.size = g + 5 := by
    subst hg
    simp
  obtain ⟨W0, hW0⟩ : ∃ W0 : World, ((((w.alloc (.cells #[.int .i64 op] 3)).alloc (.cells #[.slice none 0 0] 43)).alloc (.cells #[.string ⟨rowsH.toArray⟩] 9)).alloc (.cells #[.string ⟨#[124]⟩] 9)).alloc (.cells #[.int .i64 0] 3) = W0 := ⟨_, rfl⟩
  rw [hW0] at hb0 hBo hBr hB0 hB1 hB2 hsz ⊢
  clear hW0
  refine wpIn_rangeBox (gf := 37) (lb := #[.pointer (some ⟨g + 1 + 1 + 1, 0, none⟩), .pointer (some ⟨g + 1 + 1, 0, none⟩), .pointer (some ⟨g + 1 + 1 + 2, 0, none⟩)]) rfl (enters_of Tryd.func37 (by kernel_rfl) rfl)
    (split_stops 7 (by omega) 124 piecesH (by decide +kernel) piecesH_no (Nat.lt_of_lt_of_le rowsH_size (by omega)) (g + 1 + 1) W0 hB0 hB1 hB2) (by omega) (fun k hk => by omega)
    (fun pre W => (∀ q ∈ headT.take pre.length, (q.1 : Int) ≠ op) ∧ Blk W g 3 #[.int .i64 op] ∧ Blk W (g + 1) 43 #[.slice none 0 0] ∧ Below g w W)
    (fun c pre W => c = .ret ∧ (∃ r G, headRow op = some r ∧ g + 5 ≤ G ∧ Blk W G 9 (wordVs r).toArray ∧ Blk W (g + 1) 43 #[.slice (some ⟨G, 0, none⟩) (rowWords r).length (rowWords r).length]) ∧ Below g w W)
    ?hI ?hIx ⟨by simp, hBo, hBr, hb0⟩
    (fun x => { tmps := #[.int .i64 op, .pointer (some ⟨g, 0, none⟩), .pointer (some ⟨g + 1, 0, none⟩), .string x, undef, .func (.func 37) #[] #[.pointer (some ⟨g + 1 + 1 + 1, 0, none⟩), .pointer (some ⟨g + 1 + 1, 0, none⟩), .pointer (some ⟨g + 1 + 1 + 2, 0, none⟩)], .string x, undef, undef, undef, undef, undef, undef, undef, undef, undef], defers := [] }) ?assign ?body ?done ?stop
  case hI =>
    rintro s A C ⟨a1, a2, a3, a4⟩ hb
    exact ⟨a1, hb.blk (by omega) a2, hb.blk (by omega) a3, But.below a4 (by omega) hb (by omega) (by omega)⟩
  case hIx =>
    rintro c s A C ⟨rfl, ⟨r, G, a1, a2, a3, a4⟩, a5⟩ hb
    exact ⟨rfl, ⟨r, G, a1, a2, hb.blk (by omega) a3, hb.blk (by omega) a4⟩, But.below a5 (by omega) hb (by omega) (by omega)⟩
  case assign =>
    intro l x W K hK
    gi_wp2
    exact hK
  case body =>
    rintro l pre x W hWs ⟨hno, hBo, hBr, hbw⟩ hpx
    obtain ⟨r, hr, rfl⟩ := piece_at pre x hpx
    have hrm : r ∈ headT := List.mem_of_getElem? hr
    have TW : Tabs W := T.on (by rw [hg]; exact hbw)
    gi_wp2_with (refine ⟨trivial, ?_⟩; gi_at_call 19; refine (CallsIn.inRound l (callsIn_wide.2 (fields_at r hrm _ TW))).mono ?_; rintro e w' ⟨rfl, rfl⟩)
    obtain ⟨X, hX⟩ : ∃ X : ByteArray, X = ⟨(Lib.itoa op).toArray⟩ := ⟨_, rfl⟩
    have HX := Lib.hid hX
    have hlen : 0 < (rowWords r).length := by simp [rowWords]
    have hb2 : Below W.heap.size W (W.alloc (.cells (wordVs r).toArray 9)) := (Below.refl _ _).alloc (Nat.le_refl _) _
    have hBw := Blk.new W 9 (wordVs r).toArray
    have hBo2 := hBo.alloc (.cells (wordVs r).toArray 9)
    have hBr2 := hBr.alloc (.cells (wordVs r).toArray 9)
    have T2 := TW.on hb2
    obtain ⟨G, hG⟩ : ∃ G, W.heap.size = G := ⟨_, rfl⟩
    obtain ⟨W2, hW2⟩ : ∃ W2 : World, W.alloc (.cells (wordVs r).toArray 9) = W2 := ⟨_, rfl⟩
    rw [hW2] at hb2 hBw hBo2 hBr2 T2 ⊢
    rw [hG] at hBw ⊢
    clear hW2 hX
    have c0 : W2.cell? ⟨G, 0, none⟩ = some (.string ⟨(dg3 r.1).toArray⟩) := hBw.cell 0
    have c1 := hBo2.cell 0
    have hmx : Tryd.prog.follows .mixedOrders = true := by kernel_rfl
    gi_wp2
    gi_region_with_o (refine ⟨trivial, ?_⟩; gi_at_call 20; refine (CallsIn.inRound l (callsIn_wide.2 (itoa_to op X HX.out W2.drew h0 T2))).mono ?_; rintro e w3 ⟨rfl, hb3⟩; have c0 := (hb3.cell (p := ⟨G, 0, none⟩) (hBw.lt)).trans c0; have c1 := (hb3.cell (p := ⟨g, 0, none⟩) (hBo2.lt)).trans c1)
    all_goals
      have hb3' : Below W2.heap.size W2 w3 := ((Below.refl _ W2).drew).trans hb3
      have hbW : Below W.heap.size W w3 := below_step (a := W) hb2 hb3'
      have hHW : Held (fun k => g + 1 + 1 ≤ k ∧ k ≤ g + 1 + 1 + 2) W0.heap.size W w3 := .of_below hbW (Nat.le_refl _) (fun k hk => by omega)
      have hBr3 := hBr2.below hb3' hBr2.lt
      have hBo3 := hBo2.below hb3' hBo2.lt
      have hBw3 := hBw.below hb3' hBw.lt
      have hbw3 : Below g w w3 := hbw.trans (hbW.mono (by omega))
      have hxl : X.toList = Lib.itoa op := by rw [toList_of, HX.out]
      have h64 := headT_small r hrm
      have hrow := itoa_row op r.1 (by omega)
      have HR := Lib.hid hr
      clear hb3 hb3' hb2 hbW hBo hBr hBo2 hBr2 hBw hbw c0 c1 hr TW T2
      have r0 := hBr3.cell 0
      have r1 := hBr3.frozen 0
      gi_wp2
      · rename_i hx
        have hq : (r.1 : Int) = op := by
          rw [hxl] at hx
          exact (hrow.1 (eq_of_beq hx).symm).symm
        exact ⟨hHW.trans (.setCell _ (by simp <;> omega) _), rfl, ⟨r, G, row_hit op pre.length r HR.out hno hq, by omega, hBw3.far (by simp <;> omega) _, hBr3.put 0 _⟩, hbw3.setCell (by simp <;> omega) _⟩
      · rename_i hx
        have hq : ¬ (r.1 : Int) = op := fun h => by rw [hxl, hrow.2 h.symm] at hx; simp at hx
        refine ⟨hHW, ?_, hBo3, hBr3, hbw3⟩
        intro q hqm
        rw [List.length_append, List.length_singleton, List.take_add_one, HR.out] at hqm
        rcases List.mem_append.1 hqm with h | h
        · exact hno q h
        · simp at h; subst h; exact hq
  case done =>
    rintro D W hD ⟨hno, hBo, hBr, hbw⟩ hK
    have r0 := hBr.cell 0
    have r1 := hBr.frozen 0
    have hrow : headRow op = none := row_none op (by
      rw [List.length_map, piecesH, List.length_map, List.take_length] at hno
      exact hno)
    have HROW := Lib.hid hrow
    clear hno hrow
    gi_wp2
    have hK' := (KeepsOthers.setCell W ⟨g + 1, 0, none⟩ (.slice none 0 0)).same D _ hK rfl
    refine ⟨by simp, .inl ⟨_, _, rfl, run_takeDeferred hK', ?_⟩⟩
    have hB5 : Blk ((W.setCell ⟨g + 1, 0, none⟩ (.slice none 0 0)).putObj D (.deferred none)) (g + 1) 43 #[.slice none 0 0] := (World.putObj_heap_other (by omega)).trans (hBr.put 0 _)
    have hc5 := hB5.cell 0
    refine ⟨.slice none 0 0, ?_, _, rfl, ?_, ?_⟩
    · simp [results, Tryd.f11, go_sem, hc5]
    · rw [HROW.out]; rfl
    · rw [hg]
      exact (hbw.setCell (p := ⟨g + 1, 0, none⟩) (by simp) _).trans (belowK_b (w := w) (by omega) _ D _ _ (by omega) hK' rfl rfl)
  case stop =>
    rintro D c pre W hD hpx ⟨rfl, ⟨r, G, hrow, hG, hBw, hBr⟩, hbw⟩ hK
    have HROW := Lib.hid hrow
    clear hrow
    gi_wp2
    refine ⟨by simp, .inl ⟨_, _, rfl, run_takeDeferred hK, ?_⟩⟩
    have hGD : G ≠ D := fun e => by rw [← e, hBw] at hK; cases hK
    have hB5 : Blk (W.putObj D (.deferred none)) (g + 1) 43 #[.slice (some ⟨G, 0, none⟩) (rowWords r).length (rowWords r).length] := (World.putObj_heap_other (by omega)).trans hBr
    have hB6 : Blk (W.putObj D (.deferred none)) G 9 (wordVs r).toArray := (World.putObj_heap_other hGD).trans hBw
    have hc5 := hB5.cell 0
    refine ⟨.slice (some ⟨G, 0, none⟩) (rowWords r).length (rowWords r).length, ?_, _, rfl, ?_, ?_⟩
    · simp [results, Tryd.f11, go_sem, hc5]
    · rw [HROW.out]; exact ⟨G, rfl, hB6⟩
    · rw [hg]
      exact hbw.trans (belowK_b (w := w) (by omega) _ D _ _ (by omega) hK rfl rfl)
end Go.Proofs.YtfdbbfladgepgaaDoor
