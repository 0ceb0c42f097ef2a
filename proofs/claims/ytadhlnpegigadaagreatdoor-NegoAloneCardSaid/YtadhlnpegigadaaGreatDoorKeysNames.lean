/- The contract of keys.Names: all keys, in their order. -/
import Derived.Test.YtadhlnpegigadaaGreatDoorKeysFits
import Derived.Test.YtadhlnpegigadaaGreatDoorStrSl
import Derived.Test.YtadhlnpegigadaaGreatDoorStrRow
import Derived.Maps.OwnIn
import Derived.OwnWalkIn
namespace Go.Proofs.YtadhlnpegigadaaGreatDoor
open Go.ChangeShapes Go.WideShapes Go.ChangeAt Go.RowKit Go.Shelf
set_option linter.unusedVariables false
set_option linter.unusedSimpArgs false
def namesK : List (List UInt8) := keyT.map (·.name)
theorem names_cut : ∀ r ∈ keyT, (Lib.cut (joinC 32 (keyWords r)) [32]).1 = r.name := by decide +kernel
theorem ownsRow_keep {w w' : World} {base : Nat} {e : TypeId} {size n : Nat} {v : Value} {xs : List Value} (h : w.ownsRow base e size v n xs) (hk : ∀ (g : Nat) (cur : Array Value), base ≤ g → w.heap[g]? = some (.cells cur e (0, 0)) → w'.heap[g]? = some (.cells cur e (0, 0))) : w'.ownsRow base e size v n xs := by
  refine ⟨h.1, ?_⟩
  rcases h.2 with h | ⟨g, cap, cur, rfl, h2, h3, h4⟩
  · exact .inl h
  · exact .inr ⟨g, cap, cur, rfl, h2, hk g cur h2 h3, h4⟩
theorem ownsRow_block {w : World} {base : Nat} {e : TypeId} {size n : Nat} {v : Value} {xs : List Value} (h : w.ownsRow base e size v n xs) : ∀ k, v.ownBlock = some k → base ≤ k ∧ ∃ cur, w.heap[k]? = some (.cells cur e (0, 0)) := by
  intro k hk
  rcases h.2 with ⟨rfl, _⟩ | ⟨g, cap, cur, rfl, h2, h3, h4⟩
  · simp [Value.ownBlock] at hk
  · have : g = k := by simpa [Value.ownBlock] using hk
    subst this
    exact ⟨h2, cur, h3⟩
theorem cut_at (r : KeyR) (hr : r ∈ keyT) (w : World) (hS : w.ShapedOpen Tryz.prog) : Calls Tryz.prog 67 #[.string ⟨(joinC 32 (keyWords r)).toArray⟩, .string ⟨#[32]⟩] w fun e w' =>
    ∃ (a : ByteArray) (b : Bool), e = .returned (.tuple #[.string ⟨r.name.toArray⟩, .string a, .bool b]) ∧ Below w.heap.size w w' := by
  have hp : joinC 32 (keyWords r) ∈ piecesK := List.mem_map.2 ⟨r, hr, rfl⟩
  refine (Tryz.strings_Cut_shaped ⟨(joinC 32 (keyWords r)).toArray⟩ ⟨#[32]⟩ w hS (by have := piecesK_size _ hp; rw [size_mkl]; omega)).mono ?_
  rintro e w' ⟨rfl, n, rfl⟩
  have hc := names_cut r hr
  refine ⟨⟨(Lib.cut (joinC 32 (keyWords r)) [32]).2.1.toArray⟩, (Lib.cut (joinC 32 (keyWords r)) [32]).2.2, ?_, (Below.refl _ _).trans ⟨rfl, rfl, rfl, Nat.le_refl _, fun _ _ => rfl⟩⟩
  rw [← hc]
attribute [local go_sem] Oper.semAt_some
set_option maxRecDepth 100000 in
set_option maxHeartbeats 2000000 in
theorem names_any (w : World) (hS : w.ShapedOpen Tryz.prog) : Calls Tryz.prog 44 #[] w fun e w' => ∃ v, e = .returned v ∧ WRd w' v namesK ∧ Below w.heap.size w w' := by
  refine (callsIn_wide (n := 8)).1 ?_
  refine callsIn_of_wp_marks Tryz.func44 rfl trivial ?_ rfl
  simp only [Tryz.ntmps44, List.size_toArray, List.length_cons, List.length_nil, Nat.reduceAdd, Nat.reduceSub, Array.replicate_succ, Array.replicate_zero, List.push_toArray, List.append_toArray, List.nil_append, List.cons_append]
  gi_wp2
  refine ⟨trivial, ?_⟩
  refine (callsIn_wide.2 (splitK_rows _ _ (by kernel_rfl) _)).mono ?_
  rintro e w' ⟨rfl, rfl⟩
  gi_wp2
  obtain ⟨g, hg⟩ : ∃ g, w.heap.size = g := ⟨_, rfl⟩
  simp only [hg]
  have hBo : Blk ((((w.alloc (.cells #[.slice none 0 0] 22)).alloc (.cells #[.string ⟨rowsK.toArray⟩] 9)).alloc (.cells #[.string ⟨#[124]⟩] 9)).alloc (.cells #[.int .i64 0] 3)) g 22 #[.slice none 0 0] := by
    subst hg
    exact (((Blk.new w _ _).alloc _).alloc _).alloc _
  have hB0 : Blk ((((w.alloc (.cells #[.slice none 0 0] 22)).alloc (.cells #[.string ⟨rowsK.toArray⟩] 9)).alloc (.cells #[.string ⟨#[124]⟩] 9)).alloc (.cells #[.int .i64 0] 3)) (g + 1) 9 #[.string ⟨rowsK.toArray⟩] := by
    subst hg
    have := ((Blk.new (w.alloc (.cells #[.slice none 0 0] 22)) 9 #[.string ⟨rowsK.toArray⟩]).alloc (.cells #[.string ⟨#[124]⟩] 9)).alloc (.cells #[.int .i64 0] 3)
    simpa using this
  have hB1 : Blk ((((w.alloc (.cells #[.slice none 0 0] 22)).alloc (.cells #[.string ⟨rowsK.toArray⟩] 9)).alloc (.cells #[.string ⟨#[124]⟩] 9)).alloc (.cells #[.int .i64 0] 3)) (g + 1 + 1) 9 #[.string ⟨#[124]⟩] := by
    subst hg
    have := (Blk.new ((w.alloc (.cells #[.slice none 0 0] 22)).alloc (.cells #[.string ⟨rowsK.toArray⟩] 9)) 9 #[.string ⟨#[124]⟩]).alloc (.cells #[.int .i64 0] 3)
    simpa using this
  have hB2 : Blk ((((w.alloc (.cells #[.slice none 0 0] 22)).alloc (.cells #[.string ⟨rowsK.toArray⟩] 9)).alloc (.cells #[.string ⟨#[124]⟩] 9)).alloc (.cells #[.int .i64 0] 3)) (g + 1 + 2) 3 #[.int .i64 0] := by
    subst hg
    have := Blk.new (((w.alloc (.cells #[.slice none 0 0] 22)).alloc (.cells #[.string ⟨rowsK.toArray⟩] 9)).alloc (.cells #[.string ⟨#[124]⟩] 9)) 3 #[.int .i64 0]
    simpa using this
  have hb0 : Below g w ((((w.alloc (.cells #[.slice none 0 0] 22)).alloc (.cells #[.string ⟨rowsK.toArray⟩] 9)).alloc (.cells #[.string ⟨#[124]⟩] 9)).alloc (.cells #[.int .i64 0] 3)) := by
    subst hg
    exact ((((Below.refl _ _).alloc (Nat.le_refl _) _).alloc (by simp <;> omega) _).alloc (by simp <;> omega) _).alloc (by simp <;> omega) _
  have hsz : ((((w.alloc (.cells #[.slice none 0 0] 22)).alloc (.cells #[.string ⟨rowsK.toArray⟩] 9)).alloc (.cells #[.string ⟨#[124]⟩] 9)).alloc (.cells #[.int .i64 0] 3)).heap.size = g + 4 := by
    subst hg
    simp
  obtain ⟨W0, hW0⟩ : ∃ W0 : World, ((((w.alloc (.cells #[.slice none 0 0] 22)).alloc (.cells #[.string ⟨rowsK.toArray⟩] 9)).alloc (.cells #[.string ⟨#[124]⟩] 9)).alloc (.cells #[.int .i64 0] 3)) = W0 := ⟨_, rfl⟩
  rw [hW0] at hBo hB0 hB1 hB2 hb0 hsz ⊢
  clear hW0
  refine wpIn_rangeBox (gf := 96) (lb := #[.pointer (some ⟨g + 1 + 1, 0, none⟩), .pointer (some ⟨g + 1, 0, none⟩), .pointer (some ⟨g + 1 + 2, 0, none⟩)]) rfl (enters_of Tryz.func96 (by kernel_rfl) rfl)
    (split_stops 7 (by omega) 124 piecesK (by decide +kernel) piecesK_no (Nat.lt_of_lt_of_le rowsK_size (by omega)) (g + 1) W0 hB0 hB1 hB2) (by omega) (fun k hk => by omega)
    (fun pre W => ∃ v, Blk W g 22 #[v] ∧ W.ownsRow (g + 4) 9 1 v pre.length ((namesK.take pre.length).map strV) ∧ Below g w W)
    (fun c pre W => False)
    ?hI ?hIx ⟨_, hBo, World.ownsRow_nil W0 (g + 4) 9 1, hb0⟩
    (fun x => { tmps := #[.slice none 0 0, .pointer (some ⟨g, 0, none⟩), .string x, undef, undef, undef, .func (.func 96) #[] #[.pointer (some ⟨g + 1 + 1, 0, none⟩), .pointer (some ⟨g + 1, 0, none⟩), .pointer (some ⟨g + 1 + 2, 0, none⟩)], .string x, undef, undef, undef, undef, undef, undef, undef, undef, undef, undef, undef], defers := [] }) ?assign ?body ?done ?stop
  case hI =>
    rintro t A C ⟨v, a1, a2, a3⟩ hb
    exact ⟨v, hb.blk (by omega) a1, ownsRow_keep a2 (fun k cur hk hh => hb.blk (by omega) hh), But.below a3 (by omega) hb (by omega) (by omega)⟩
  case hIx =>
    rintro c t A C h hb
    exact h
  case assign =>
    intro l x W K hK
    gi_wp2
    exact hK
  case body =>
    rintro l pre x W hWs ⟨v, hBv, hown, hbw⟩ hpx
    obtain ⟨r, hr, rfl⟩ := pieceK_at pre x hpx
    have hrm : r ∈ keyT := List.mem_of_getElem? hr
    have SW : W.ShapedOpen Tryz.prog := shapedK hS (by rw [hg]; exact hbw)
    have hNM : ∃ NM : ByteArray, (⟨r.name.toArray⟩ : ByteArray) = NM := ⟨_, rfl⟩
    obtain ⟨NM, hNM⟩ := hNM
    obtain ⟨G, hG⟩ : ∃ G, W.heap.size = G := ⟨_, rfl⟩
    obtain ⟨i0, hi, hz0, hz1, hz2⟩ := info_parts infoStr
    have hpl : pre.length < 18 := by
      have h := (List.getElem?_eq_some_iff.1 hr).1
      exact h
    have hWG := hBv.lt
    gi_wp2_with (first
      | (refine ⟨trivial, ?_⟩; gi_at_call 67; refine (CallsIn.inRound l (callsIn_wide.2 (cut_at r hrm _ SW))).mono ?_; rintro e w2 ⟨ca, cb, rfl, hb2⟩; rw [hNM]; have hB2' := hBv.below hb2 hBv.lt; have hown2 : w2.ownsRow (g + 4) 9 1 v pre.length ((namesK.take pre.length).map strV) := ownsRow_keep hown (fun k cur hk hh => (hb2.block k (Array.getElem?_eq_some_iff.1 hh).1).trans hh); have c0 := hB2'.cell 0)
      | (gi_at_builtin; refine wpListIn_append_own_at _ rfl _ _ _ rfl (g + 4) 9 i0 _ 1 16 Tryz.underlying22 hi hz0 hz1 hz2 rfl (by decide) v pre.length _ rfl (hown2.alloc _) ⟨w2.heap.size, 0, none⟩ 1 1 [.string NM] rfl rfl (cell_one_new _ _ _) (by simp [Value.oneCell']) (by unfold maxLen; omega) (by omega) (by have := hb2.size; simp; omega) ?_; intro v' w3 hr3 hg3 hn3 ho3; obtain ⟨gg, cc, rfl⟩ := ownsRow_succ hr3; have hB3 := (hB2'.alloc (.cells #[.string NM] 9)).grown hg3 (by intro h; have := (ownsRow_block hown2 g h.symm).1; omega); have f3 := hB3.frozen 0; have q3 := hB3.cell 0))
    have hbA : Below W.heap.size W (w2.alloc (.cells #[.string NM] 9)) := below_step hb2 ((Below.refl _ _).alloc (Nat.le_refl _) _)
    have hH1 : Held (fun k => g + 1 ≤ k ∧ k ≤ g + 1 + 2) W0.heap.size W (w2.alloc (.cells #[.string NM] 9)) := .of_below hbA (Nat.le_refl _) (fun k hk => by omega)
    have hownA := hown2.alloc (.cells #[.string NM] 9)
    have hszA : g + 4 ≤ (w2.alloc (.cells #[.string NM] 9)).heap.size := by have := hbA.size; omega
    have hH2 : Held (fun k => g + 1 ≤ k ∧ k ≤ g + 1 + 2) W0.heap.size (w2.alloc (.cells #[.string NM] 9)) w3 := by
      refine ⟨hg3.size, fun k o hk ho hoc => ?_, fun k hk => ?_⟩
      · refine (hg3.block k (Array.getElem?_eq_some_iff.1 ho).1 ?_).trans ho
        intro h
        obtain ⟨_, cur, hcur⟩ := ownsRow_block hownA k h.symm
        rw [hcur] at ho
        cases ho
        cases hoc
      · refine hg3.block k (by omega) ?_
        intro h
        have := (ownsRow_block hownA k h.symm).1
        omega
    have hH3 := (hH1.trans hH2).trans (.setCell (a := ⟨g, 0, none⟩) w3 (by simp only; omega) (.slice (some ⟨gg, 0, none⟩) (pre.length + 1) cc))
    have hnm : namesK[pre.length]? = some r.name := by
      show (keyT.map (·.name))[pre.length]? = _
      rw [List.getElem?_map, hr]
      rfl
    have hxs : (namesK.take (pre.length + 1)).map strV = (namesK.take pre.length).map strV ++ [.string NM] := by
      rw [List.take_add_one, hnm, List.map_append, ← hNM]
      rfl
    refine ⟨hH3, _, hB3.put 0 _, ?_, ?_⟩
    · rw [List.length_append, List.length_singleton, hxs]
      exact ownsRow_keep hr3 (fun k cur hk hh => (Below.heap_setCell w3 _ _ k (by simp only; omega)).trans hh)
    · have h1 : Below g w (w2.alloc (.cells #[.string NM] 9)) := hbw.trans (hbA.mono (by omega))
      exact (h1.grown hg3 (by omega) (fun k hk => by have := (ownsRow_block hownA k hk).1; omega)).setCell (p := ⟨g, 0, none⟩) (Nat.le_refl _) _
  case done =>
    rintro D W hD ⟨v, hBv, hown, hbw⟩ hK
    have c0 := hBv.cell 0
    have hDg : g ≠ D := by omega
    gi_wp2
    refine ⟨by simp, .inl ⟨_, _, rfl, run_takeDeferred hK, ?_⟩⟩
    have hl18 : (piecesK.map fun p => (⟨p.toArray⟩ : ByteArray)).length = 18 := by decide +kernel
    rw [hl18, show namesK.take 18 = namesK from rfl] at hown
    refine ⟨v, ?_, v, rfl, ?_, ?_⟩
    · simp [results, Tryz.f44, go_sem]
    · have hr := SRd.of_m (MRow.keep (w' := W.putObj D (.deferred none)) (MRow.of_own hown) (fun k hk => World.putObj_heap_other (by
        rintro rfl
        obtain ⟨_, cur, hc⟩ := ownsRow_block hown _ hk
        rw [hc] at hK
        cases hK)))
      unfold WRd
      rw [show namesK.length = 18 from rfl]
      exact hr
    · rw [hg]
      exact hbw.trans (belowK_b (w := w) (by omega) _ D _ _ (by omega) hK rfl rfl)
  case stop =>
    rintro D c pre W hD hpx h hK
    exact h.elim
end Go.Proofs.YtadhlnpegigadaaGreatDoor
