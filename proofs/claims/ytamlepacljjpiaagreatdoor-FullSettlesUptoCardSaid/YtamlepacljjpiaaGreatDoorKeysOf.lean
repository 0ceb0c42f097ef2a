/- The contract of keys.Of: what is known of a key. -/
import Derived.Test.YtamlepacljjpiaaGreatDoorGhead
import Derived.Test.YtamlepacljjpiaaGreatDoorGkeys
import Derived.Lib.AtoiErrMem
namespace Go.Proofs.YtamlepacljjpiaaGreatDoor
open Go.ChangeShapes Go.WideShapes Go.ChangeAt Go.RowKit Go.Shelf
set_option linter.unusedVariables false
set_option linter.unusedSimpArgs false
def keyWV (r : KeyR) : List Value := (keyWords r).map fun l => .string ⟨l.toArray⟩
def keyV (r : KeyR) : Value := .agg #[.string ⟨r.name.toArray⟩, .int .i64 r.kind, .int .i64 r.low, .int .i64 r.high, .string ⟨(dfl r).toArray⟩, .bool r.noth, .bool r.lonly]
def keyC (r : KeyR) : Array Value := #[.string ⟨r.name.toArray⟩, .int .i64 r.kind, .int .i64 r.low, .int .i64 r.high, .string ⟨(dfl r).toArray⟩, .bool r.noth, .bool r.lonly]
def zeroK : Value := .agg #[.string ⟨#[]⟩, .int .i64 0, .int .i64 0, .int .i64 0, .string ⟨#[]⟩, .bool false, .bool false]
def ofV (l : List UInt8) : Value := match keyRow l with
  | some r => .tuple #[keyV r, .nilIface]
  | none => .tuple #[zeroK, errv 5]
theorem fieldsK_at (r : KeyR) (hr : r ∈ keyT) (w : World) (T : Tabs w) : Calls Tryz.prog 115 #[.string ⟨(joinC 32 (keyWords r)).toArray⟩] w fun e w' =>
    e = .returned (.slice (some ⟨w.heap.size, 0, none⟩) 7 7) ∧ w' = w.alloc (.cells (keyWV r).toArray 9) := by
  have hp : joinC 32 (keyWords r) ∈ piecesK := List.mem_map.2 ⟨r, hr, rfl⟩
  have h := Tryz.strings_Fields_laid ⟨(joinC 32 (keyWords r)).toArray⟩ w (by have := piecesK_size _ hp; rw [size_mkl]; omega) (fun j b hj => piecesK_ascii _ hp b (List.mem_of_getElem? hj)) T.1
  rw [show (⟨(joinC 32 (keyWords r)).toArray⟩ : ByteArray).data.toList = joinC 32 (keyWords r) from rfl, piecesK_fields r hr] at h
  exact h
theorem splitK_rows (s sep : ByteArray) (h : s = ⟨rowsK.toArray⟩) (w : World) : Calls Tryz.prog 114 #[.string s, .string sep] w fun e w' =>
    e = .returned (.func (.func 150) #[] #[.pointer (some ⟨w.heap.size + 1, 0, none⟩), .pointer (some ⟨w.heap.size, 0, none⟩), .pointer (some ⟨w.heap.size + 2, 0, none⟩)]) ∧
    w' = ((w.alloc (.cells #[.string ⟨rowsK.toArray⟩] 9)).alloc (.cells #[.string sep] 9)).alloc (.cells #[.int .i64 0] 3) := by
  rw [h]
  exact splitSeq_any _ sep w
theorem pieceK_at (pre : List ByteArray) (x : ByteArray) (h : pre ++ [x] <+: piecesK.map fun p => (⟨p.toArray⟩ : ByteArray)) : ∃ r, keyT[pre.length]? = some r ∧ x = ⟨(joinC 32 (keyWords r)).toArray⟩ := by
  obtain ⟨post, hp⟩ := h
  have h1 : (piecesK.map fun p => (⟨p.toArray⟩ : ByteArray))[pre.length]? = some x := by rw [← hp]; simp
  rw [piecesK, List.map_map, List.getElem?_map] at h1
  rcases hr : keyT[pre.length]? with _ | r
  · rw [hr] at h1; simp at h1
  · rw [hr, Option.map_some, Option.some.injEq] at h1
    exact ⟨r, rfl, h1.symm⟩
theorem atoi_at (l : List UInt8) (n : Nat) (hl : l.length ≤ 8) (h : Lib.atoi l = some (n : Int)) (w : World) : Calls Tryz.prog 107 #[.string ⟨l.toArray⟩] w fun e w' => e = .returned (.tuple #[.int .i64 n, .nilIface]) ∧ Below w.heap.size w w' := by
  refine (Tryz.strconv_Atoi ⟨l.toArray⟩ n (by rw [size_mkl]; omega) h w).mono ?_
  rintro e w' ⟨rfl, t, rfl⟩
  exact ⟨rfl, Lib.bytesWorld_below _ _ _⟩
def put8 (w : World) (g : Nat) (a b c d e f k : Value) : World := ((((((((w.setCell ⟨g + 1, 0, none⟩ a).setCell ⟨g + 1, 1, none⟩ b).setCell ⟨g + 1, 2, none⟩ c).setCell ⟨g + 1, 3, none⟩ d).setCell ⟨g + 1, 4, none⟩ e).setCell ⟨g + 1, 5, none⟩ f).setCell ⟨g + 1, 6, none⟩ k).setCell ⟨g + 1 + 1, 0, none⟩ .nilIface)
theorem put8_key {w : World} {g : Nat} {t : TypeId} {a0 b0 c0 d0 e0 f0 k0 : Value} (h : Blk w (g + 1) t #[a0, b0, c0, d0, e0, f0, k0]) (hg : g + 1 ≠ g + 1 + 1) (a b c d e f k : Value) : Blk (put8 w g a b c d e f k) (g + 1) t #[a, b, c, d, e, f, k] := by
  have h1 : Blk _ (g + 1) t #[a, b0, c0, d0, e0, f0, k0] := h.put 0 a
  have h2 : Blk _ (g + 1) t #[a, b, c0, d0, e0, f0, k0] := h1.put 1 b
  have h3 : Blk _ (g + 1) t #[a, b, c, d0, e0, f0, k0] := h2.put 2 c
  have h4 : Blk _ (g + 1) t #[a, b, c, d, e0, f0, k0] := h3.put 3 d
  have h5 : Blk _ (g + 1) t #[a, b, c, d, e, f0, k0] := h4.put 4 e
  have h6 : Blk _ (g + 1) t #[a, b, c, d, e, f, k0] := h5.put 5 f
  have h7 : Blk _ (g + 1) t #[a, b, c, d, e, f, k] := h6.put 6 k
  exact h7.far (p := ⟨g + 1 + 1, 0, none⟩) hg .nilIface
theorem put8_other {w : World} {g i : Nat} (h1 : i ≠ g + 1) (h2 : i ≠ g + 1 + 1) (a b c d e f k ev : Value) : (((((((((w.setCell ⟨g + 1, 0, none⟩ a).setCell ⟨g + 1, 1, none⟩ b).setCell ⟨g + 1, 2, none⟩ c).setCell ⟨g + 1, 3, none⟩ d).setCell ⟨g + 1, 4, none⟩ e).setCell ⟨g + 1, 5, none⟩ f).setCell ⟨g + 1, 6, none⟩ k).setCell ⟨g + 1 + 1, 0, none⟩ ev)).heap[i]? = w.heap[i]? := by
  have hs : ∀ (W : World) (j : Nat) (v : Value), (W.setCell ⟨g + 1, j, none⟩ v).heap[i]? = W.heap[i]? := fun W j v => Below.heap_setCell W _ v i h1
  rw [Below.heap_setCell _ _ _ i h2, hs, hs, hs, hs, hs, hs, hs]
theorem put8_err {w : World} {g : Nat} {t : TypeId} {a0 : Value} (h : Blk w (g + 1 + 1) t #[a0]) (hg : g + 1 ≠ g + 1 + 1) (a b c d e f k : Value) : Blk (put8 w g a b c d e f k) (g + 1 + 1) t #[.nilIface] :=
  (((((((h.far (p := ⟨g + 1, 0, none⟩) (by simp only; omega) a).far (p := ⟨g + 1, 1, none⟩) (by simp only; omega) b).far (p := ⟨g + 1, 2, none⟩) (by simp only; omega) c).far (p := ⟨g + 1, 3, none⟩) (by simp only; omega) d).far (p := ⟨g + 1, 4, none⟩) (by simp only; omega) e).far (p := ⟨g + 1, 5, none⟩) (by simp only; omega) f).far (p := ⟨g + 1, 6, none⟩) (by simp only; omega) k).put 0 .nilIface
theorem put8_below {w w1 : World} {g n : Nat} (h : Below n w w1) (h1 : n ≤ g + 1) (h2 : n ≤ g + 1 + 1) (a b c d e f k : Value) : Below n w (put8 w1 g a b c d e f k) :=
  (((((((h.setCell h1 a).setCell h1 b).setCell h1 c).setCell h1 d).setCell h1 e).setCell h1 f).setCell h1 k).setCell h2 .nilIface
theorem put8_held {K : Nat → Prop} {B : Nat} {w w1 : World} {g : Nat} {a b c d e f k : Value} (h : Held K B w w1) (h1 : ¬ K (g + 1)) (h2 : ¬ K (g + 1 + 1)) : Held K B w (put8 w1 g a b c d e f k) :=
  (((((((h.trans (.setCell _ h1 a)).trans (.setCell _ h1 b)).trans (.setCell _ h1 c)).trans (.setCell _ h1 d)).trans (.setCell _ h1 e)).trans (.setCell _ h1 f)).trans (.setCell _ h1 k)).trans (.setCell _ h2 .nilIface)
theorem put8_keyE {w : World} {g : Nat} {t : TypeId} {a0 b0 c0 d0 e0 f0 k0 : Value} (h : Blk w (g + 1) t #[a0, b0, c0, d0, e0, f0, k0]) (hg : g + 1 ≠ g + 1 + 1) (a b c d e f k ev : Value) : Blk ((((((((w.setCell ⟨g + 1, 0, none⟩ a).setCell ⟨g + 1, 1, none⟩ b).setCell ⟨g + 1, 2, none⟩ c).setCell ⟨g + 1, 3, none⟩ d).setCell ⟨g + 1, 4, none⟩ e).setCell ⟨g + 1, 5, none⟩ f).setCell ⟨g + 1, 6, none⟩ k).setCell ⟨g + 1 + 1, 0, none⟩ ev) (g + 1) t #[a, b, c, d, e, f, k] := by
  have h1 : Blk _ (g + 1) t #[a, b0, c0, d0, e0, f0, k0] := h.put 0 a
  have h2 : Blk _ (g + 1) t #[a, b, c0, d0, e0, f0, k0] := h1.put 1 b
  have h3 : Blk _ (g + 1) t #[a, b, c, d0, e0, f0, k0] := h2.put 2 c
  have h4 : Blk _ (g + 1) t #[a, b, c, d, e0, f0, k0] := h3.put 3 d
  have h5 : Blk _ (g + 1) t #[a, b, c, d, e, f0, k0] := h4.put 4 e
  have h6 : Blk _ (g + 1) t #[a, b, c, d, e, f, k0] := h5.put 5 f
  have h7 : Blk _ (g + 1) t #[a, b, c, d, e, f, k] := h6.put 6 k
  exact h7.far (p := ⟨g + 1 + 1, 0, none⟩) hg ev
theorem put8_errE {w : World} {g : Nat} {t : TypeId} {a0 : Value} (h : Blk w (g + 1 + 1) t #[a0]) (hg : g + 1 ≠ g + 1 + 1) (a b c d e f k ev : Value) : Blk ((((((((w.setCell ⟨g + 1, 0, none⟩ a).setCell ⟨g + 1, 1, none⟩ b).setCell ⟨g + 1, 2, none⟩ c).setCell ⟨g + 1, 3, none⟩ d).setCell ⟨g + 1, 4, none⟩ e).setCell ⟨g + 1, 5, none⟩ f).setCell ⟨g + 1, 6, none⟩ k).setCell ⟨g + 1 + 1, 0, none⟩ ev) (g + 1 + 1) t #[ev] :=
  (((((((h.far (p := ⟨g + 1, 0, none⟩) (by simp only; omega) a).far (p := ⟨g + 1, 1, none⟩) (by simp only; omega) b).far (p := ⟨g + 1, 2, none⟩) (by simp only; omega) c).far (p := ⟨g + 1, 3, none⟩) (by simp only; omega) d).far (p := ⟨g + 1, 4, none⟩) (by simp only; omega) e).far (p := ⟨g + 1, 5, none⟩) (by simp only; omega) f).far (p := ⟨g + 1, 6, none⟩) (by simp only; omega) k).put 0 ev
theorem put8_belowE {w w1 : World} {g n : Nat} (h : Below n w w1) (h1 : n ≤ g + 1) (h2 : n ≤ g + 1 + 1) (a b c d e f k ev : Value) : Below n w ((((((((w1.setCell ⟨g + 1, 0, none⟩ a).setCell ⟨g + 1, 1, none⟩ b).setCell ⟨g + 1, 2, none⟩ c).setCell ⟨g + 1, 3, none⟩ d).setCell ⟨g + 1, 4, none⟩ e).setCell ⟨g + 1, 5, none⟩ f).setCell ⟨g + 1, 6, none⟩ k).setCell ⟨g + 1 + 1, 0, none⟩ ev) :=
  (((((((h.setCell h1 a).setCell h1 b).setCell h1 c).setCell h1 d).setCell h1 e).setCell h1 f).setCell h1 k).setCell h2 ev
attribute [local go_sem] Oper.semAt_some
set_option maxRecDepth 100000 in
set_option maxHeartbeats 2000000 in
theorem keysOf_any (s : ByteArray) (w : World) (T : Tabs w) : Calls Tryz.prog 98 #[.string s] w fun e w' => e = .returned (ofV s.data.toList) ∧ Below w.heap.size w w' := by
  refine (callsIn_wide (n := 8)).1 ?_
  refine callsIn_of_wp_marks Tryz.func98 rfl trivial ?_ rfl
  simp only [Tryz.ntmps98, List.size_toArray, List.length_cons, List.length_nil, Nat.reduceAdd, Nat.reduceSub, Array.replicate_succ, Array.replicate_zero, List.push_toArray, List.append_toArray, List.nil_append, List.cons_append]
  gi_wp2
  refine ⟨trivial, ?_⟩
  refine (callsIn_wide.2 (splitK_rows _ _ (by kernel_rfl) _)).mono ?_
  rintro e w' ⟨rfl, rfl⟩
  gi_wp2
  obtain ⟨g, hg⟩ : ∃ g, w.heap.size = g := ⟨_, rfl⟩
  simp only [hg]
  have hb0 : Below g w ((((((w.alloc (.cells #[.string s] 9)).alloc (.cells #[.string ⟨#[]⟩, .int .i64 0, .int .i64 0, .int .i64 0, .string ⟨#[]⟩, .bool false, .bool false] 177)).alloc (.cells #[.nilIface] 45)).alloc (.cells #[.string ⟨rowsK.toArray⟩] 9)).alloc (.cells #[.string ⟨#[124]⟩] 9)).alloc (.cells #[.int .i64 0] 3)) := by
    subst hg
    exact (((((((Below.refl _ _).alloc (Nat.le_refl _) _).alloc (by simp <;> omega) _).alloc (by simp <;> omega) _).alloc (by simp <;> omega) _).alloc (by simp <;> omega) _).alloc (by simp <;> omega) _)
  have hBn : Blk ((((((w.alloc (.cells #[.string s] 9)).alloc (.cells #[.string ⟨#[]⟩, .int .i64 0, .int .i64 0, .int .i64 0, .string ⟨#[]⟩, .bool false, .bool false] 177)).alloc (.cells #[.nilIface] 45)).alloc (.cells #[.string ⟨rowsK.toArray⟩] 9)).alloc (.cells #[.string ⟨#[124]⟩] 9)).alloc (.cells #[.int .i64 0] 3)) g 9 #[.string s] := by
    subst hg
    have := ((((((Blk.new w 9 #[.string s]).alloc (.cells #[.string ⟨#[]⟩, .int .i64 0, .int .i64 0, .int .i64 0, .string ⟨#[]⟩, .bool false, .bool false] 177)).alloc (.cells #[.nilIface] 45)).alloc (.cells #[.string ⟨rowsK.toArray⟩] 9)).alloc (.cells #[.string ⟨#[124]⟩] 9)).alloc (.cells #[.int .i64 0] 3))
    simpa using this
  have hBk : Blk ((((((w.alloc (.cells #[.string s] 9)).alloc (.cells #[.string ⟨#[]⟩, .int .i64 0, .int .i64 0, .int .i64 0, .string ⟨#[]⟩, .bool false, .bool false] 177)).alloc (.cells #[.nilIface] 45)).alloc (.cells #[.string ⟨rowsK.toArray⟩] 9)).alloc (.cells #[.string ⟨#[124]⟩] 9)).alloc (.cells #[.int .i64 0] 3)) (g + 1) 177 #[.string ⟨#[]⟩, .int .i64 0, .int .i64 0, .int .i64 0, .string ⟨#[]⟩, .bool false, .bool false] := by
    subst hg
    have := (((((Blk.new (w.alloc (.cells #[.string s] 9)) 177 #[.string ⟨#[]⟩, .int .i64 0, .int .i64 0, .int .i64 0, .string ⟨#[]⟩, .bool false, .bool false]).alloc (.cells #[.nilIface] 45)).alloc (.cells #[.string ⟨rowsK.toArray⟩] 9)).alloc (.cells #[.string ⟨#[124]⟩] 9)).alloc (.cells #[.int .i64 0] 3))
    simpa using this
  have hBe : Blk ((((((w.alloc (.cells #[.string s] 9)).alloc (.cells #[.string ⟨#[]⟩, .int .i64 0, .int .i64 0, .int .i64 0, .string ⟨#[]⟩, .bool false, .bool false] 177)).alloc (.cells #[.nilIface] 45)).alloc (.cells #[.string ⟨rowsK.toArray⟩] 9)).alloc (.cells #[.string ⟨#[124]⟩] 9)).alloc (.cells #[.int .i64 0] 3)) (g + 1 + 1) 45 #[.nilIface] := by
    subst hg
    have := ((((Blk.new ((w.alloc (.cells #[.string s] 9)).alloc (.cells #[.string ⟨#[]⟩, .int .i64 0, .int .i64 0, .int .i64 0, .string ⟨#[]⟩, .bool false, .bool false] 177)) 45 #[.nilIface]).alloc (.cells #[.string ⟨rowsK.toArray⟩] 9)).alloc (.cells #[.string ⟨#[124]⟩] 9)).alloc (.cells #[.int .i64 0] 3))
    simpa using this
  have hB0 : Blk ((((((w.alloc (.cells #[.string s] 9)).alloc (.cells #[.string ⟨#[]⟩, .int .i64 0, .int .i64 0, .int .i64 0, .string ⟨#[]⟩, .bool false, .bool false] 177)).alloc (.cells #[.nilIface] 45)).alloc (.cells #[.string ⟨rowsK.toArray⟩] 9)).alloc (.cells #[.string ⟨#[124]⟩] 9)).alloc (.cells #[.int .i64 0] 3)) (g + 1 + 1 + 1) 9 #[.string ⟨rowsK.toArray⟩] := by
    subst hg
    have := (((Blk.new (((w.alloc (.cells #[.string s] 9)).alloc (.cells #[.string ⟨#[]⟩, .int .i64 0, .int .i64 0, .int .i64 0, .string ⟨#[]⟩, .bool false, .bool false] 177)).alloc (.cells #[.nilIface] 45)) 9 #[.string ⟨rowsK.toArray⟩]).alloc (.cells #[.string ⟨#[124]⟩] 9)).alloc (.cells #[.int .i64 0] 3))
    simpa using this
  have hB1 : Blk ((((((w.alloc (.cells #[.string s] 9)).alloc (.cells #[.string ⟨#[]⟩, .int .i64 0, .int .i64 0, .int .i64 0, .string ⟨#[]⟩, .bool false, .bool false] 177)).alloc (.cells #[.nilIface] 45)).alloc (.cells #[.string ⟨rowsK.toArray⟩] 9)).alloc (.cells #[.string ⟨#[124]⟩] 9)).alloc (.cells #[.int .i64 0] 3)) (g + 1 + 1 + 1 + 1) 9 #[.string ⟨#[124]⟩] := by
    subst hg
    have := ((Blk.new ((((w.alloc (.cells #[.string s] 9)).alloc (.cells #[.string ⟨#[]⟩, .int .i64 0, .int .i64 0, .int .i64 0, .string ⟨#[]⟩, .bool false, .bool false] 177)).alloc (.cells #[.nilIface] 45)).alloc (.cells #[.string ⟨rowsK.toArray⟩] 9)) 9 #[.string ⟨#[124]⟩]).alloc (.cells #[.int .i64 0] 3))
    simpa using this
  have hB2 : Blk ((((((w.alloc (.cells #[.string s] 9)).alloc (.cells #[.string ⟨#[]⟩, .int .i64 0, .int .i64 0, .int .i64 0, .string ⟨#[]⟩, .bool false, .bool false] 177)).alloc (.cells #[.nilIface] 45)).alloc (.cells #[.string ⟨rowsK.toArray⟩] 9)).alloc (.cells #[.string ⟨#[124]⟩] 9)).alloc (.cells #[.int .i64 0] 3)) (g + 1 + 1 + 1 + 2) 3 #[.int .i64 0] := by
    subst hg
    have := (Blk.new (((((w.alloc (.cells #[.string s] 9)).alloc (.cells #[.string ⟨#[]⟩, .int .i64 0, .int .i64 0, .int .i64 0, .string ⟨#[]⟩, .bool false, .bool false] 177)).alloc (.cells #[.nilIface] 45)).alloc (.cells #[.string ⟨rowsK.toArray⟩] 9)).alloc (.cells #[.string ⟨#[124]⟩] 9)) 3 #[.int .i64 0])
    simpa using this
  have hsz : ((((((w.alloc (.cells #[.string s] 9)).alloc (.cells #[.string ⟨#[]⟩, .int .i64 0, .int .i64 0, .int .i64 0, .string ⟨#[]⟩, .bool false, .bool false] 177)).alloc (.cells #[.nilIface] 45)).alloc (.cells #[.string ⟨rowsK.toArray⟩] 9)).alloc (.cells #[.string ⟨#[124]⟩] 9)).alloc (.cells #[.int .i64 0] 3)).heap.size = g + 6 := by
    subst hg
    simp
  obtain ⟨W0, hW0⟩ : ∃ W0 : World, ((((((w.alloc (.cells #[.string s] 9)).alloc (.cells #[.string ⟨#[]⟩, .int .i64 0, .int .i64 0, .int .i64 0, .string ⟨#[]⟩, .bool false, .bool false] 177)).alloc (.cells #[.nilIface] 45)).alloc (.cells #[.string ⟨rowsK.toArray⟩] 9)).alloc (.cells #[.string ⟨#[124]⟩] 9)).alloc (.cells #[.int .i64 0] 3)) = W0 := ⟨_, rfl⟩
  rw [hW0] at hb0 hBn hBk hBe hB0 hB1 hB2 hsz ⊢
  clear hW0
  refine wpIn_rangeBox (gf := 150) (lb := #[.pointer (some ⟨g + 1 + 1 + 1 + 1, 0, none⟩), .pointer (some ⟨g + 1 + 1 + 1, 0, none⟩), .pointer (some ⟨g + 1 + 1 + 1 + 2, 0, none⟩)]) rfl (enters_of Tryz.func150 (by kernel_rfl) rfl)
    (split_stops 7 (by omega) 124 piecesK (by decide +kernel) piecesK_no (Nat.lt_of_lt_of_le rowsK_size (by omega)) (g + 1 + 1 + 1) W0 hB0 hB1 hB2) (by omega) (fun k hk => by omega)
    (fun pre W => (∀ q ∈ keyT.take pre.length, q.name ≠ s.data.toList) ∧ Blk W g 9 #[.string s] ∧ Blk W (g + 1) 177 #[.string ⟨#[]⟩, .int .i64 0, .int .i64 0, .int .i64 0, .string ⟨#[]⟩, .bool false, .bool false] ∧ Blk W (g + 1 + 1) 45 #[.nilIface] ∧ Below g w W)
    (fun c pre W => c = .ret ∧ (∃ r, keyRow s.data.toList = some r ∧ Blk W (g + 1) 177 (keyC r) ∧ Blk W (g + 1 + 1) 45 #[.nilIface]) ∧ Below g w W)
    ?hI ?hIx ⟨by simp, hBn, hBk, hBe, hb0⟩
    (fun x => { tmps := #[.string s, .pointer (some ⟨g, 0, none⟩), .pointer (some ⟨g + 1, 0, none⟩), .pointer (some ⟨g + 1 + 1, 0, none⟩), .string x, undef, undef, undef, undef, .func (.func 150) #[] #[.pointer (some ⟨g + 1 + 1 + 1 + 1, 0, none⟩), .pointer (some ⟨g + 1 + 1 + 1, 0, none⟩), .pointer (some ⟨g + 1 + 1 + 1 + 2, 0, none⟩)], .string x, undef, undef, undef, undef, undef, undef, undef, undef, undef, undef, undef, undef, undef, undef, undef, undef, undef, undef, undef, undef, undef, undef, undef, undef, undef, undef, undef, undef, undef, undef, undef, undef, undef, undef, undef, undef, undef, undef, undef, undef, undef, undef, undef, undef, undef, undef, undef, undef], defers := [] }) ?assign ?body ?done ?stop
  case hI =>
    rintro t A C ⟨a1, a2, a3, a4, a5⟩ hb
    exact ⟨a1, hb.blk (by omega) a2, hb.blk (by omega) a3, hb.blk (by omega) a4, But.below a5 (by omega) hb (by omega) (by omega)⟩
  case hIx =>
    rintro c t A C ⟨rfl, ⟨r, a1, a2, a3⟩, a5⟩ hb
    exact ⟨rfl, ⟨r, a1, hb.blk (by omega) a2, hb.blk (by omega) a3⟩, But.below a5 (by omega) hb (by omega) (by omega)⟩
  case assign =>
    intro l x W K hK
    gi_wp2
    exact hK
  case body =>
    rintro l pre x W hWs ⟨hno, hBn, hBk, hBe, hbw⟩ hpx
    obtain ⟨r, hr, rfl⟩ := pieceK_at pre x hpx
    have hrm : r ∈ keyT := List.mem_of_getElem? hr
    have TW : Tabs W := T.on (by rw [hg]; exact hbw)
    have hlen := keyT_len r hrm
    have hat := keyT_atoi r hrm
    gi_wp2_with (refine ⟨trivial, ?_⟩; gi_at_call 115; refine (CallsIn.inRound l (callsIn_wide.2 (fieldsK_at r hrm _ TW))).mono ?_; rintro e w' ⟨rfl, rfl⟩)
    have hb2 : Below W.heap.size W (W.alloc (.cells (keyWV r).toArray 9)) := (Below.refl _ _).alloc (Nat.le_refl _) _
    have hBw := Blk.new W 9 (keyWV r).toArray
    have hBn2 := hBn.alloc (.cells (keyWV r).toArray 9)
    obtain ⟨G, hG⟩ : ∃ G, W.heap.size = G := ⟨_, rfl⟩
    obtain ⟨W2, hW2⟩ : ∃ W2 : World, W.alloc (.cells (keyWV r).toArray 9) = W2 := ⟨_, rfl⟩
    rw [hW2] at hb2 hBw hBn2 ⊢
    rw [hG] at hBw ⊢
    clear hW2
    obtain ⟨NM, hNM⟩ : ∃ NM : ByteArray, (⟨r.name.toArray⟩ : ByteArray) = NM := ⟨_, rfl⟩
    have hNMl : NM.data.toList = r.name := by rw [← hNM]
    have c0 : W2.cell? ⟨G, 0, none⟩ = some (.string NM) := by rw [← hNM]; exact hBw.cell 0
    have c1 := hBn2.cell 0
    have HNM := Lib.hid hNM
    have HNL := Lib.hid hNMl
    clear hNM hNMl
    by_cases hq : r.name = s.data.toList
    rotate_left
    · have e0 : (NM.toList == s.toList) = false := by rw [toList_of, toList_of, HNL.out]; simpa using hq
      have e1 : (NM.toList != s.toList) = true := by rw [bne, e0]; rfl
      have HQ := Lib.hid hq
      have HR := Lib.hid hr
      clear hq hr hlen hat
      gi_wp2
      refine wpIn_region_roundH (S := fun w' => w'.cell? ⟨G, 0, none⟩ = some (.string NM) ∧ w'.cell? ⟨g, 0, none⟩ = some (.string s)) (by kernel_rfl) (by kernel_rfl) ⟨c0, c1⟩ (fun hS => ?_)
      refine wpAnyH_take (i := 0) (v := ?_) rfl (by kernel_rfl) (by kernel_rfl) (by kernel_rfl) (fun _ _ _ h => h) (Or.inl ⟨by kernel_rfl, ?_⟩) (by assumption) ?_
      rotate_left
      · intro wq hSq
        (try dsimp only at hSq)
        go_simp
        all_goals with_reducible rfl
      try simp only [Act.put, List.setIfInBounds_toArray, List.set_cons_zero, List.set_cons_succ]
      refine wpAnyH_take (i := 1) (v := ?_) rfl (by kernel_rfl) (by kernel_rfl) (by kernel_rfl) (fun _ _ _ h => h) (Or.inl ⟨by kernel_rfl, ?_⟩) (by assumption) ?_
      rotate_left
      · intro wq hSq
        (try dsimp only at hSq)
        go_simp
        all_goals with_reducible rfl
      try simp only [Act.put, List.setIfInBounds_toArray, List.set_cons_zero, List.set_cons_succ]
      refine wpAnyH_take (i := 2) (v := ?_) rfl (by kernel_rfl) (by kernel_rfl) (by kernel_rfl) (fun _ _ _ h => h) (Or.inl ⟨by kernel_rfl, ?_⟩) (by assumption) ?_
      rotate_left
      · intro wq hSq
        (try dsimp only at hSq)
        go_simp
        all_goals with_reducible rfl
      try simp only [Act.put, List.setIfInBounds_toArray, List.set_cons_zero, List.set_cons_succ]
      refine wpAnyH_take (i := 3) (v := ?_) rfl (by kernel_rfl) (by kernel_rfl) (by kernel_rfl) (fun _ _ _ h => h) (Or.inl ⟨by kernel_rfl, ?_⟩) (by assumption) ?_
      rotate_left
      · intro wq hSq
        (try dsimp only at hSq)
        go_simp
        all_goals with_reducible rfl
      try simp only [Act.put, List.setIfInBounds_toArray, List.set_cons_zero, List.set_cons_succ]
      refine wpAnyH_take (i := 4) (v := ?_) rfl (by kernel_rfl) (by kernel_rfl) (by kernel_rfl) (fun _ _ _ h => h) (Or.inl ⟨by kernel_rfl, ?_⟩) (by assumption) ?_
      rotate_left
      · intro wq hSq
        (try dsimp only at hSq)
        go_simp
        all_goals with_reducible rfl
      try simp only [Act.put, List.setIfInBounds_toArray, List.set_cons_zero, List.set_cons_succ]
      refine wpAnyH_end (by kernel_rfl) ?_
      have hbq : Below W2.heap.size W2 W2.drew := (Below.refl _ _).drew
      obtain ⟨W3, hW3⟩ : ∃ W3, W2.drew = W3 := ⟨_, rfl⟩
      rw [hW3] at hbq ⊢
      clear hW3
      gi_wp2
      have hbW3 : Below W.heap.size W W3 := below_step hb2 hbq
      have hHW : Held (fun k => g + 1 + 1 + 1 ≤ k ∧ k ≤ g + 1 + 1 + 1 + 2) W0.heap.size W W3 := .of_below hbW3 (Nat.le_refl _) (fun k hk => by omega)
      refine ⟨by first | exact hHW | (rw [← hsz]; exact hHW), ?_, hBn.below hbW3 hBn.lt, hBk.below hbW3 hBk.lt, hBe.below hbW3 hBe.lt, hbw.trans (hbW3.mono (by omega))⟩
      intro q hqm
      rw [List.length_append, List.length_singleton, List.take_add_one, HR.out] at hqm
      rcases List.mem_append.1 hqm with h | h
      · exact hno q h
      · simp at h; subst h; exact HQ.out
    have e0 : (NM.toList == s.toList) = true := by rw [toList_of, toList_of, HNL.out, hq]; simp
    have e1 : (NM.toList != s.toList) = false := by rw [bne, e0]; rfl
    have HQ := Lib.hid hq
    have HR := Lib.hid hr
    have HLEN := Lib.hid hlen
    have HAT := Lib.hid hat
    have HNO := Lib.hid hno
    clear hq hr hlen hat hno
    gi_wp2
    refine wpIn_region_roundH (S := fun w' => w'.cell? ⟨G, 0, none⟩ = some (.string NM) ∧ w'.cell? ⟨g, 0, none⟩ = some (.string s)) (by kernel_rfl) (by kernel_rfl) ⟨c0, c1⟩ (fun hS => ?_)
    refine wpAnyH_take (i := 0) (v := ?_) rfl (by kernel_rfl) (by kernel_rfl) (by kernel_rfl) (fun _ _ _ h => h) (Or.inl ⟨by kernel_rfl, ?_⟩) (by assumption) ?_
    rotate_left
    · intro wq hSq
      (try dsimp only at hSq)
      go_simp
      all_goals with_reducible rfl
    try simp only [Act.put, List.setIfInBounds_toArray, List.set_cons_zero, List.set_cons_succ]
    refine wpAnyH_take (i := 1) (v := ?_) rfl (by kernel_rfl) (by kernel_rfl) (by kernel_rfl) (fun _ _ _ h => h) (Or.inl ⟨by kernel_rfl, ?_⟩) (by assumption) ?_
    rotate_left
    · intro wq hSq
      (try dsimp only at hSq)
      go_simp
      all_goals with_reducible rfl
    try simp only [Act.put, List.setIfInBounds_toArray, List.set_cons_zero, List.set_cons_succ]
    refine wpAnyH_take (i := 2) (v := ?_) rfl (by kernel_rfl) (by kernel_rfl) (by kernel_rfl) (fun _ _ _ h => h) (Or.inl ⟨by kernel_rfl, ?_⟩) (by assumption) ?_
    rotate_left
    · intro wq hSq
      (try dsimp only at hSq)
      go_simp
      all_goals with_reducible rfl
    try simp only [Act.put, List.setIfInBounds_toArray, List.set_cons_zero, List.set_cons_succ]
    refine wpAnyH_take (i := 3) (v := ?_) rfl (by kernel_rfl) (by kernel_rfl) (by kernel_rfl) (fun _ _ _ h => h) (Or.inl ⟨by kernel_rfl, ?_⟩) (by assumption) ?_
    rotate_left
    · intro wq hSq
      (try dsimp only at hSq)
      go_simp
      all_goals with_reducible rfl
    try simp only [Act.put, List.setIfInBounds_toArray, List.set_cons_zero, List.set_cons_succ]
    refine wpAnyH_take (i := 4) (v := ?_) rfl (by kernel_rfl) (by kernel_rfl) (by kernel_rfl) (fun _ _ _ h => h) (Or.inl ⟨by kernel_rfl, ?_⟩) (by assumption) ?_
    rotate_left
    · intro wq hSq
      (try dsimp only at hSq)
      go_simp
      all_goals with_reducible rfl
    try simp only [Act.put, List.setIfInBounds_toArray, List.set_cons_zero, List.set_cons_succ]
    refine wpAnyH_end (by kernel_rfl) ?_
    have hbq : Below W2.heap.size W2 W2.drew := (Below.refl _ _).drew
    obtain ⟨W3, hW3⟩ : ∃ W3, W2.drew = W3 := ⟨_, rfl⟩
    rw [hW3] at hbq ⊢
    have hbW3 : Below W.heap.size W W3 := below_step hb2 hbq
    have hBw3 := hBw.below hbq hBw.lt
    clear hW3 hS c0 c1 hb2 hbq hBw hBn2
    have c1w : W3.cell? ⟨G, 1, none⟩ = some (.string ⟨(dgs r.kind).toArray⟩) := hBw3.cell 1
    have c2w : W3.cell? ⟨G, 2, none⟩ = some (.string ⟨(dgs r.low).toArray⟩) := hBw3.cell 2
    have c3w : W3.cell? ⟨G, 3, none⟩ = some (.string ⟨(dgs r.high).toArray⟩) := hBw3.cell 3
    have c4w : W3.cell? ⟨G, 4, none⟩ = some (.string ⟨r.dflt.toArray⟩) := hBw3.cell 4
    have c5w : W3.cell? ⟨G, 5, none⟩ = some (.string ⟨(if r.noth then [78] else [45]).toArray⟩) := hBw3.cell 5
    have c6w : W3.cell? ⟨G, 6, none⟩ = some (.string ⟨(if r.lonly then [76] else [45]).toArray⟩) := hBw3.cell 6
    have hGl3 := hBw3.lt
    obtain ⟨KW, hKW⟩ : ∃ KW : ByteArray, (⟨(dgs r.kind).toArray⟩ : ByteArray) = KW := ⟨_, rfl⟩
    obtain ⟨LW, hLW⟩ : ∃ KW : ByteArray, (⟨(dgs r.low).toArray⟩ : ByteArray) = KW := ⟨_, rfl⟩
    obtain ⟨XW, hXW⟩ : ∃ KW : ByteArray, (⟨(dgs r.high).toArray⟩ : ByteArray) = KW := ⟨_, rfl⟩
    have hk1 : ∀ w, Calls Tryz.prog 107 #[.string KW] w fun e w' => e = .returned (.tuple #[.int .i64 r.kind, .nilIface]) ∧ Below w.heap.size w w' := fun w => by rw [← hKW]; exact atoi_at _ _ HLEN.out.1 HAT.out.1 w
    have hk2 : ∀ w, Calls Tryz.prog 107 #[.string LW] w fun e w' => e = .returned (.tuple #[.int .i64 r.low, .nilIface]) ∧ Below w.heap.size w w' := fun w => by rw [← hLW]; exact atoi_at _ _ HLEN.out.2.1 HAT.out.2.1 w
    have hk3 : ∀ w, Calls Tryz.prog 107 #[.string XW] w fun e w' => e = .returned (.tuple #[.int .i64 r.high, .nilIface]) ∧ Below w.heap.size w w' := fun w => by rw [← hXW]; exact atoi_at _ _ HLEN.out.2.2.1 HAT.out.2.2 w
    rw [hKW] at c1w
    rw [hLW] at c2w
    rw [hXW] at c3w
    have HK1 := Lib.hid hk1
    have HK2 := Lib.hid hk2
    have HK3 := Lib.hid hk3
    have HKW := Lib.hid hKW
    have HLW := Lib.hid hLW
    have HXW := Lib.hid hXW
    clear hk1 hk2 hk3 hKW hLW hXW
    gi_wp2
    obtain ⟨H, hH⟩ : ∃ H, W3.heap.size = H := ⟨_, rfl⟩
    obtain ⟨W4, hW4⟩ : ∃ W4 : World, W3.alloc (.cells #[.int .i64 0, .int .i64 0, .int .i64 0] 208) = W4 := ⟨_, rfl⟩
    have hb34 : Below W3.heap.size W3 W4 := by rw [← hW4]; exact (Below.refl _ _).alloc (Nat.le_refl _) _
    have hN4 : Blk W4 H 208 #[.int .i64 0, .int .i64 0, .int .i64 0] := by rw [← hW4, ← hH]; exact Blk.new W3 _ _
    have hw4 := hBw3.below hb34 hGl3
    have hbW4 := below_step hbW3 hb34
    have hn0 := hBn.below hbW4 hBn.lt
    rw [hW4]
    try rw [hH]
    have hGH : G < H := by omega
    have hWH : W.heap.size ≤ H := by have := hbW3.size; omega
    clear hW4 hb34 hbW3 hH c1w c2w c3w c4w c5w c6w hBw3
    refine wpIn_loop_rounds 4 ?_
    have cw : W4.cell? ⟨G, 1, none⟩ = some (.string KW) := by rw [← HKW.out]; exact hw4.cell 1
    rw [roundsIn_succ]
    gi_wp2
    refine ⟨trivial, ?_⟩
    refine (CallsIn.inRound l (callsIn_wide.2 (HK1.out _))).mono ?_
    rintro e W5 ⟨rfl, hb5⟩
    have hN5 := hN4.below hb5 hN4.lt
    have nf := hN5.frozen 0
    have nc := hN5.cell 0
    have hw5 := hw4.below hb5 hw4.lt
    have hbW5 := below_step hbW4 hb5
    gi_wp2
    obtain ⟨W6, hW6⟩ : ∃ W' : World, W5.setCell ⟨H, 0, none⟩ (.int .i64 r.kind) = W' := ⟨_, rfl⟩
    have hN6 : Blk W6 H 208 #[.int .i64 r.kind, .int .i64 0, .int .i64 0] := by rw [← hW6]; exact hN5.put 0 _
    have hw6 := hw5.far (p := ⟨H, 0, none⟩) (by simp only; omega) (.int .i64 r.kind)
    have hbW6 : Below W.heap.size W W6 := by rw [← hW6]; exact hbW5.setCell (by simp only; omega) _
    rw [hW6] at hw6 ⊢
    clear hW6 hb5 hN4 hN5 hw4 hw5 hbW4 hbW5 cw nf nc
    have cw : W6.cell? ⟨G, 2, none⟩ = some (.string LW) := by rw [← HLW.out]; exact hw6.cell 2
    rw [roundsIn_succ]
    gi_wp2
    refine ⟨trivial, ?_⟩
    refine (CallsIn.inRound l (callsIn_wide.2 (HK2.out _))).mono ?_
    rintro e W7 ⟨rfl, hb7⟩
    have hN7 := hN6.below hb7 hN6.lt
    have nf := hN7.frozen 1
    have nc := hN7.cell 1
    have hw7 := hw6.below hb7 hw6.lt
    have hbW7 := below_step hbW6 hb7
    gi_wp2
    obtain ⟨W8, hW8⟩ : ∃ W' : World, W7.setCell ⟨H, 1, none⟩ (.int .i64 r.low) = W' := ⟨_, rfl⟩
    have hN8 : Blk W8 H 208 #[.int .i64 r.kind, .int .i64 r.low, .int .i64 0] := by rw [← hW8]; exact hN7.put 1 _
    have hw8 := hw7.far (p := ⟨H, 1, none⟩) (by simp only; omega) (.int .i64 r.low)
    have hbW8 : Below W.heap.size W W8 := by rw [← hW8]; exact hbW7.setCell (by simp only; omega) _
    rw [hW8] at hw8 ⊢
    clear hW8 hb7 hN6 hN7 hw6 hw7 hbW6 hbW7 cw nf nc
    have cw : W8.cell? ⟨G, 3, none⟩ = some (.string XW) := by rw [← HXW.out]; exact hw8.cell 3
    rw [roundsIn_succ]
    gi_wp2
    refine ⟨trivial, ?_⟩
    refine (CallsIn.inRound l (callsIn_wide.2 (HK3.out _))).mono ?_
    rintro e W9 ⟨rfl, hb9⟩
    have hN9 := hN8.below hb9 hN8.lt
    have nf := hN9.frozen 2
    have nc := hN9.cell 2
    have hw9 := hw8.below hb9 hw8.lt
    have hbW9 := below_step hbW8 hb9
    gi_wp2
    obtain ⟨W10, hW10⟩ : ∃ W' : World, W9.setCell ⟨H, 2, none⟩ (.int .i64 r.high) = W' := ⟨_, rfl⟩
    have hN10 : Blk W10 H 208 #[.int .i64 r.kind, .int .i64 r.low, .int .i64 r.high] := by rw [← hW10]; exact hN9.put 2 _
    have hw10 := hw9.far (p := ⟨H, 2, none⟩) (by simp only; omega) (.int .i64 r.high)
    have hbW10 : Below W.heap.size W W10 := by rw [← hW10]; exact hbW9.setCell (by simp only; omega) _
    rw [hW10] at hw10 ⊢
    clear hW10 hb9 hN8 hN9 hw8 hw9 hbW8 hbW9 cw nf nc
    rw [roundsIn_succ]
    gi_wp2
    obtain ⟨DW, hDW⟩ : ∃ KW : ByteArray, (⟨r.dflt.toArray⟩ : ByteArray) = KW := ⟨_, rfl⟩
    obtain ⟨NW, hNW⟩ : ∃ KW : ByteArray, (⟨(if r.noth then [78] else [45]).toArray⟩ : ByteArray) = KW := ⟨_, rfl⟩
    obtain ⟨OW, hOW⟩ : ∃ KW : ByteArray, (⟨(if r.lonly then [76] else [45]).toArray⟩ : ByteArray) = KW := ⟨_, rfl⟩
    have s4 : W10.cell? ⟨G, 4, none⟩ = some (.string DW) := by rw [← hDW]; exact hw10.cell 4
    have s5 : W10.cell? ⟨G, 5, none⟩ = some (.string NW) := by rw [← hNW]; exact hw10.cell 5
    have s6 : W10.cell? ⟨G, 6, none⟩ = some (.string OW) := by rw [← hOW]; exact hw10.cell 6
    have n0 : W10.cell? ⟨H, 0, none⟩ = some (.int .i64 r.kind) := hN10.cell 0
    have n1 : W10.cell? ⟨H, 1, none⟩ = some (.int .i64 r.low) := hN10.cell 1
    have n2 : W10.cell? ⟨H, 2, none⟩ = some (.int .i64 r.high) := hN10.cell 2
    have b5 : (NW.toList == [78]) = r.noth := by rw [toList_of, ← hNW]; cases r.noth <;> rfl
    have b6 : (OW.toList == [76]) = r.lonly := by rw [toList_of, ← hOW]; cases r.lonly <;> rfl
    have m0 : W10.cell? ⟨g, 0, none⟩ = some (.string s) := (hbW10.cell (p := ⟨g, 0, none⟩) (by have := hBn.lt; simp only; omega)).trans (hBn.cell 0)
    have hDl : DW.data.toList = r.dflt := by rw [← hDW]
    have HDW := Lib.hid hDW
    have HDL := Lib.hid hDl
    clear hDW hNW hOW hDl
    refine wpIn_region_roundH (S := fun w' => w'.cell? ⟨G, 4, none⟩ = some (.string DW) ∧ w'.cell? ⟨G, 5, none⟩ = some (.string NW) ∧ w'.cell? ⟨G, 6, none⟩ = some (.string OW) ∧ w'.cell? ⟨H, 0, none⟩ = some (.int .i64 r.kind) ∧ w'.cell? ⟨H, 1, none⟩ = some (.int .i64 r.low) ∧ w'.cell? ⟨H, 2, none⟩ = some (.int .i64 r.high) ∧ w'.cell? ⟨g, 0, none⟩ = some (.string s)) (by kernel_rfl) (by kernel_rfl) ⟨s4, s5, s6, n0, n1, n2, m0⟩ (fun hS => ?_)
    refine wpAnyH_take (i := 0) (v := ?_) rfl (by kernel_rfl) (by kernel_rfl) (by kernel_rfl) (fun _ _ _ h => h) (Or.inl ⟨by kernel_rfl, ?_⟩) (by assumption) ?_
    rotate_left
    · intro wq hSq
      (try dsimp only at hSq)
      go_simp
      all_goals with_reducible rfl
    try simp only [Act.put, List.setIfInBounds_toArray, List.set_cons_zero, List.set_cons_succ]
    refine wpAnyH_take (i := 1) (v := ?_) rfl (by kernel_rfl) (by kernel_rfl) (by kernel_rfl) (fun _ _ _ h => h) (Or.inl ⟨by kernel_rfl, ?_⟩) (by assumption) ?_
    rotate_left
    · intro wq hSq
      (try dsimp only at hSq)
      go_simp
      all_goals with_reducible rfl
    try simp only [Act.put, List.setIfInBounds_toArray, List.set_cons_zero, List.set_cons_succ]
    refine wpAnyH_take (i := 2) (v := ?_) rfl (by kernel_rfl) (by kernel_rfl) (by kernel_rfl) (fun _ _ _ h => h) (Or.inl ⟨by kernel_rfl, ?_⟩) (by assumption) ?_
    rotate_left
    · intro wq hSq
      (try dsimp only at hSq)
      go_simp
      all_goals with_reducible rfl
    try simp only [Act.put, List.setIfInBounds_toArray, List.set_cons_zero, List.set_cons_succ]
    refine wpAnyH_take (i := 3) (v := ?_) rfl (by kernel_rfl) (by kernel_rfl) (by kernel_rfl) (fun _ _ _ h => h) (Or.inl ⟨by kernel_rfl, ?_⟩) (by assumption) ?_
    rotate_left
    · intro wq hSq
      (try dsimp only at hSq)
      go_simp
      all_goals with_reducible rfl
    try simp only [Act.put, List.setIfInBounds_toArray, List.set_cons_zero, List.set_cons_succ]
    refine wpAnyH_take (i := 4) (v := ?_) rfl (by kernel_rfl) (by kernel_rfl) (by kernel_rfl) (fun _ _ _ h => h) (Or.inl ⟨by kernel_rfl, ?_⟩) (by assumption) ?_
    rotate_left
    · intro wq hSq
      (try dsimp only at hSq)
      go_simp
      all_goals with_reducible rfl
    try simp only [Act.put, List.setIfInBounds_toArray, List.set_cons_zero, List.set_cons_succ]
    refine wpAnyH_take (i := 5) (v := ?_) rfl (by kernel_rfl) (by kernel_rfl) (by kernel_rfl) (fun _ _ _ h => h) (Or.inl ⟨by kernel_rfl, ?_⟩) (by assumption) ?_
    rotate_left
    · intro wq hSq
      (try dsimp only at hSq)
      go_simp
      all_goals with_reducible rfl
    try simp only [Act.put, List.setIfInBounds_toArray, List.set_cons_zero, List.set_cons_succ]
    refine wpAnyH_take (i := 6) (v := ?_) rfl (by kernel_rfl) (by kernel_rfl) (by kernel_rfl) (fun _ _ _ h => h) (Or.inl ⟨by kernel_rfl, ?_⟩) (by assumption) ?_
    rotate_left
    · intro wq hSq
      (try dsimp only at hSq)
      go_simp
      all_goals with_reducible rfl
    try simp only [Act.put, List.setIfInBounds_toArray, List.set_cons_zero, List.set_cons_succ]
    refine wpAnyH_take (i := 7) (v := ?_) rfl (by kernel_rfl) (by kernel_rfl) (by kernel_rfl) (fun _ _ _ h => h) (Or.inl ⟨by kernel_rfl, ?_⟩) (by assumption) ?_
    rotate_left
    · intro wq hSq
      (try dsimp only at hSq)
      go_simp
      all_goals with_reducible rfl
    try simp only [Act.put, List.setIfInBounds_toArray, List.set_cons_zero, List.set_cons_succ]
    refine wpAnyH_take (i := 8) (v := ?_) rfl (by kernel_rfl) (by kernel_rfl) (by kernel_rfl) (fun _ _ _ h => h) (Or.inl ⟨by kernel_rfl, ?_⟩) (by assumption) ?_
    rotate_left
    · intro wq hSq
      (try dsimp only at hSq)
      go_simp
      all_goals with_reducible rfl
    try simp only [Act.put, List.setIfInBounds_toArray, List.set_cons_zero, List.set_cons_succ]
    refine wpAnyH_take (i := 9) (v := ?_) rfl (by kernel_rfl) (by kernel_rfl) (by kernel_rfl) (fun _ _ _ h => h) (Or.inl ⟨by kernel_rfl, ?_⟩) (by assumption) ?_
    rotate_left
    · intro wq hSq
      (try dsimp only at hSq)
      go_simp
      all_goals with_reducible rfl
    try simp only [Act.put, List.setIfInBounds_toArray, List.set_cons_zero, List.set_cons_succ]
    refine wpAnyH_take (i := 10) (v := ?_) rfl (by kernel_rfl) (by kernel_rfl) (by kernel_rfl) (fun _ _ _ h => h) (Or.inl ⟨by kernel_rfl, ?_⟩) (by assumption) ?_
    rotate_left
    · intro wq hSq
      (try dsimp only at hSq)
      go_simp
      all_goals with_reducible rfl
    try simp only [Act.put, List.setIfInBounds_toArray, List.set_cons_zero, List.set_cons_succ]
    refine wpAnyH_take (i := 11) (v := ?_) rfl (by kernel_rfl) (by kernel_rfl) (by kernel_rfl) (fun _ _ _ h => h) (Or.inl ⟨by kernel_rfl, ?_⟩) (by assumption) ?_
    rotate_left
    · intro wq hSq
      (try dsimp only at hSq)
      go_simp
      all_goals with_reducible rfl
    try simp only [Act.put, List.setIfInBounds_toArray, List.set_cons_zero, List.set_cons_succ]
    refine wpAnyH_take (i := 12) (v := ?_) rfl (by kernel_rfl) (by kernel_rfl) (by kernel_rfl) (fun _ _ _ h => h) (Or.inl ⟨by kernel_rfl, ?_⟩) (by assumption) ?_
    rotate_left
    · intro wq hSq
      (try dsimp only at hSq)
      go_simp
      all_goals with_reducible rfl
    try simp only [Act.put, List.setIfInBounds_toArray, List.set_cons_zero, List.set_cons_succ]
    refine wpAnyH_take (i := 13) (v := ?_) rfl (by kernel_rfl) (by kernel_rfl) (by kernel_rfl) (fun _ _ _ h => h) (Or.inl ⟨by kernel_rfl, ?_⟩) (by assumption) ?_
    rotate_left
    · intro wq hSq
      (try dsimp only at hSq)
      go_simp
      all_goals with_reducible rfl
    try simp only [Act.put, List.setIfInBounds_toArray, List.set_cons_zero, List.set_cons_succ]
    refine wpAnyH_take (i := 14) (v := ?_) rfl (by kernel_rfl) (by kernel_rfl) (by kernel_rfl) (fun _ _ _ h => h) (Or.inl ⟨by kernel_rfl, ?_⟩) (by assumption) ?_
    rotate_left
    · intro wq hSq
      (try dsimp only at hSq)
      go_simp
      all_goals with_reducible rfl
    try simp only [Act.put, List.setIfInBounds_toArray, List.set_cons_zero, List.set_cons_succ]
    refine wpAnyH_take (i := 15) (v := ?_) rfl (by kernel_rfl) (by kernel_rfl) (by kernel_rfl) (fun _ _ _ h => h) (Or.inl ⟨by kernel_rfl, ?_⟩) (by assumption) ?_
    rotate_left
    · intro wq hSq
      (try dsimp only at hSq)
      go_simp
      all_goals with_reducible rfl
    try simp only [Act.put, List.setIfInBounds_toArray, List.set_cons_zero, List.set_cons_succ]
    refine wpAnyH_take (i := 16) (v := ?_) rfl (by kernel_rfl) (by kernel_rfl) (by kernel_rfl) (fun _ _ _ h => h) (Or.inl ⟨by kernel_rfl, ?_⟩) (by assumption) ?_
    rotate_left
    · intro wq hSq
      (try dsimp only at hSq)
      go_simp
      all_goals with_reducible rfl
    try simp only [Act.put, List.setIfInBounds_toArray, List.set_cons_zero, List.set_cons_succ]
    refine wpAnyH_take (i := 17) (v := ?_) rfl (by kernel_rfl) (by kernel_rfl) (by kernel_rfl) (fun _ _ _ h => h) (Or.inl ⟨by kernel_rfl, ?_⟩) (by assumption) ?_
    rotate_left
    · intro wq hSq
      (try dsimp only at hSq)
      go_simp
      all_goals with_reducible rfl
    try simp only [Act.put, List.setIfInBounds_toArray, List.set_cons_zero, List.set_cons_succ]
    refine wpAnyH_take (i := 18) (v := ?_) rfl (by kernel_rfl) (by kernel_rfl) (by kernel_rfl) (fun _ _ _ h => h) (Or.inl ⟨by kernel_rfl, ?_⟩) (by assumption) ?_
    rotate_left
    · intro wq hSq
      (try dsimp only at hSq)
      go_simp
      all_goals with_reducible rfl
    try simp only [Act.put, List.setIfInBounds_toArray, List.set_cons_zero, List.set_cons_succ]
    refine wpAnyH_ready (rs := [19]) (by kernel_rfl) (by simp) ?_
    refine AllReadyH.cons rfl (fun K1 hK1 => ?_) AllReadyH.nil
    go_simp
    refine hK1.out _ _ (by go_keep) (fun hS1 => ?_)
    try simp only [Act.put, List.setIfInBounds_toArray, List.set_cons_zero, List.set_cons_succ]
    refine wpAnyH_ready (rs := [20]) (by kernel_rfl) (by simp) ?_
    refine AllReadyH.cons rfl (fun K2 hK2 => ?_) AllReadyH.nil
    go_simp
    refine hK2.out _ _ (by go_keep) (fun hS2 => ?_)
    refine wpAnyH_end (by kernel_rfl) ?_
    obtain ⟨J, hJ⟩ : ∃ J, W10.heap.size = J := ⟨_, rfl⟩
    obtain ⟨W11, hW11⟩ : ∃ W' : World, (W10.alloc (.cells #[.string s, .int .i64 r.kind, .int .i64 r.low, .int .i64 r.high, .string DW, .bool r.noth, .bool r.lonly] 177)).drew = W' := ⟨_, rfl⟩
    have hK11 : Blk W11 J 177 #[.string s, .int .i64 r.kind, .int .i64 r.low, .int .i64 r.high, .string DW, .bool r.noth, .bool r.lonly] := by rw [← hW11, ← hJ]; exact Blk.new W10 _ _
    have hb11 : Below W10.heap.size W10 W11 := by rw [← hW11]; exact ((Below.refl _ _).alloc (Nat.le_refl _) _).drew
    rw [hW11]
    try rw [hJ]
    have hbW11 := below_step hbW10 hb11
    have hWJ : W.heap.size ≤ J := by have := hbW10.size; omega
    have hBk11 := hBk.below hbW11 hBk.lt
    have hBe11 := hBe.below hbW11 hBe.lt
    have hlk := hBk.lt
    have hle := hBe.lt
    clear hW11 hJ hS hS1 hS2 hK1 hK2 s4 s5 s6 n0 n1 n2 m0 b5 b6 hb11
    have k0 := hK11.cell 0
    have k1 := hK11.cell 1
    have k2 := hK11.cell 2
    have k3 := hK11.cell 3
    have k4 := hK11.cell 4
    have k5 := hK11.cell 5
    have k6 := hK11.cell 6
    have q0 := hBk11.cell 0
    have q1 := hBk11.cell 1
    have q2 := hBk11.cell 2
    have q3 := hBk11.cell 3
    have q4 := hBk11.cell 4
    have q5 := hBk11.cell 5
    have q6 := hBk11.cell 6
    have e0' := hBe11.cell 0
    have z0 := hBk11.frozen 0
    have z1 := hBk11.frozen 1
    have z2 := hBk11.frozen 2
    have z3 := hBk11.frozen 3
    have z4 := hBk11.frozen 4
    have z5 := hBk11.frozen 5
    have z6 := hBk11.frozen 6
    have y0 := hBe11.frozen 0
    have y4 := hK11.frozen 4
    by_cases hdf : r.dflt = [45]
    · have d0 : (DW.toList == [45]) = true := by rw [toList_of, HDL.out, hdf]; rfl
      have HDF := Lib.hid hdf
      clear hdf
      gi_wp2
      have hkc : keyC r = #[.string s, .int .i64 r.kind, .int .i64 r.low, .int .i64 r.high, .string ⟨#[]⟩, .bool r.noth, .bool r.lonly] := by
        unfold keyC dfl
        rw [HQ.out, ← str_of, if_pos HDF.out]
      have hX0 : Held (fun k => g + 1 + 1 + 1 ≤ k ∧ k ≤ g + 1 + 1 + 1 + 2) W0.heap.size W (W11.setCell ⟨J, 4, none⟩ (.string ⟨#[]⟩)) := (Held.of_below hbW11 (Nat.le_refl _) (fun k hk => by omega)).trans (.setCell _ (by simp only; omega) _)
      have hX1 : Blk (W11.setCell ⟨J, 4, none⟩ (.string ⟨#[]⟩)) (g + 1) 177 #[.string ⟨#[]⟩, .int .i64 0, .int .i64 0, .int .i64 0, .string ⟨#[]⟩, .bool false, .bool false] := hBk11.far (by simp only; omega) _
      have hX2 : Blk (W11.setCell ⟨J, 4, none⟩ (.string ⟨#[]⟩)) (g + 1 + 1) 45 #[.nilIface] := hBe11.far (by simp only; omega) _
      have hX3 : Below g w (W11.setCell ⟨J, 4, none⟩ (.string ⟨#[]⟩)) := (hbw.trans (hbW11.mono (by omega))).setCell (by simp only; omega) _
      obtain ⟨W12, hW12⟩ : ∃ W' : World, (W11.setCell ⟨J, 4, none⟩ (.string ⟨#[]⟩)) = W' := ⟨_, rfl⟩
      rw [hW12] at hX0 hX1 hX2 hX3
      try rw [hW12]
      refine ⟨by first | exact put8_held hX0 (by omega) (by omega) | (rw [← hsz]; exact put8_held hX0 (by omega) (by omega)), rfl, ⟨r, keyRow_hit s.data.toList pre.length r HR.out HNO.out HQ.out, by rw [hkc]; exact put8_key hX1 (by omega) _ _ _ _ _ _ _, put8_err hX2 (by omega) _ _ _ _ _ _ _⟩, put8_below hX3 (by omega) (by omega) _ _ _ _ _ _ _⟩
    · have d0 : (DW.toList == [45]) = false := by rw [toList_of, HDL.out]; simpa using hdf
      have HDF := Lib.hid hdf
      clear hdf
      gi_wp2
      have hkc : keyC r = #[.string s, .int .i64 r.kind, .int .i64 r.low, .int .i64 r.high, .string DW, .bool r.noth, .bool r.lonly] := by
        unfold keyC dfl
        rw [HQ.out, ← str_of, if_neg HDF.out, HDW.out]
      have hX0 : Held (fun k => g + 1 + 1 + 1 ≤ k ∧ k ≤ g + 1 + 1 + 1 + 2) W0.heap.size W W11 := Held.of_below hbW11 (Nat.le_refl _) (fun k hk => by omega)
      have hX1 : Blk W11 (g + 1) 177 #[.string ⟨#[]⟩, .int .i64 0, .int .i64 0, .int .i64 0, .string ⟨#[]⟩, .bool false, .bool false] := hBk11
      have hX2 : Blk W11 (g + 1 + 1) 45 #[.nilIface] := hBe11
      have hX3 : Below g w W11 := hbw.trans (hbW11.mono (by omega))
      obtain ⟨W12, hW12⟩ : ∃ W' : World, W11 = W' := ⟨_, rfl⟩
      rw [hW12] at hX0 hX1 hX2 hX3
      try rw [hW12]
      refine ⟨by first | exact put8_held hX0 (by omega) (by omega) | (rw [← hsz]; exact put8_held hX0 (by omega) (by omega)), rfl, ⟨r, keyRow_hit s.data.toList pre.length r HR.out HNO.out HQ.out, by rw [hkc]; exact put8_key hX1 (by omega) _ _ _ _ _ _ _, put8_err hX2 (by omega) _ _ _ _ _ _ _⟩, put8_below hX3 (by omega) (by omega) _ _ _ _ _ _ _⟩
  case done =>
    rintro D W hD ⟨hno, hBn, hBk, hBe, hbw⟩ hK
    have hrow : keyRow s.data.toList = none := keyRow_none _ (by
      rw [List.length_map, piecesK, List.length_map, List.take_length] at hno
      exact hno)
    have HROW := Lib.hid hrow
    have q0 := hBk.cell 0
    have q1 := hBk.cell 1
    have q2 := hBk.cell 2
    have q3 := hBk.cell 3
    have q4 := hBk.cell 4
    have q5 := hBk.cell 5
    have q6 := hBk.cell 6
    have e0' := hBe.cell 0
    have z0 := hBk.frozen 0
    have z1 := hBk.frozen 1
    have z2 := hBk.frozen 2
    have z3 := hBk.frozen 3
    have z4 := hBk.frozen 4
    have z5 := hBk.frozen 5
    have z6 := hBk.frozen 6
    have y0 := hBe.frozen 0
    clear hno hrow
    gi_wp2
    have hn1 : D ≠ g + 1 := by omega
    have hn2 : D ≠ g + 1 + 1 := by omega
    have hK' := (put8_other (w := W) hn1 hn2 (.string ⟨#[]⟩) (.int .i64 0) (.int .i64 0) (.int .i64 0) (.string ⟨#[]⟩) (.bool false) (.bool false) (.iface 56 (.int .i64 5))).trans hK
    refine ⟨by simp, .inl ⟨_, _, rfl, run_takeDeferred hK', ?_⟩⟩
    have hD1 : g + 1 ≠ D := by omega
    have hD2 : g + 1 + 1 ≠ D := by omega
    have hk7 := put8_keyE hBk (Nat.ne_of_lt (Nat.lt_succ_self _)) (.string ⟨#[]⟩) (.int .i64 0) (.int .i64 0) (.int .i64 0) (.string ⟨#[]⟩) (.bool false) (.bool false) (.iface 56 (.int .i64 5))
    have hbF := put8_belowE hbw (Nat.le_succ _) (Nat.le_of_lt (by omega)) (.string ⟨#[]⟩) (.int .i64 0) (.int .i64 0) (.int .i64 0) (.string ⟨#[]⟩) (.bool false) (.bool false) (.iface 56 (.int .i64 5))
    obtain ⟨WF, hWF⟩ : ∃ WF : World, ((((((((W.setCell ⟨g + 1, 0, none⟩ (.string ⟨#[]⟩)).setCell ⟨g + 1, 1, none⟩ (.int .i64 0)).setCell ⟨g + 1, 2, none⟩ (.int .i64 0)).setCell ⟨g + 1, 3, none⟩ (.int .i64 0)).setCell ⟨g + 1, 4, none⟩ (.string ⟨#[]⟩)).setCell ⟨g + 1, 5, none⟩ (.bool false)).setCell ⟨g + 1, 6, none⟩ (.bool false)).setCell ⟨g + 1 + 1, 0, none⟩ (.iface 56 (.int .i64 5))) = WF := ⟨_, rfl⟩
    have he7 : Blk WF (g + 1 + 1) 45 #[.iface 56 (.int .i64 5)] := by rw [← hWF]; exact put8_errE hBe (by omega) _ _ _ _ _ _ _ _
    rw [hWF] at hk7 hbF hK' ⊢
    clear hWF q0 q1 q2 q3 q4 q5 q6 e0' z0 z1 z2 z3 z4 z5 z6 y0
    have hB5 : Blk (WF.putObj D (.deferred none)) (g + 1) 177 _ := (World.putObj_heap_other hD1).trans hk7
    have hE5 : Blk (WF.putObj D (.deferred none)) (g + 1 + 1) 45 _ := (World.putObj_heap_other hD2).trans he7
    have q0 := hB5.cell 0
    have q1 := hB5.cell 1
    have q2 := hB5.cell 2
    have q3 := hB5.cell 3
    have q4 := hB5.cell 4
    have q5 := hB5.cell 5
    have q6 := hB5.cell 6
    have e0' := hE5.cell 0
    refine ⟨.tuple #[zeroK, errv 5], ?_, ?_, ?_⟩
    · simp [results, Tryz.f98, go_sem, q0, q1, q2, q3, q4, q5, q6, e0', zeroK, errv]
    · unfold ofV
      rw [HROW.out]
    · rw [hg]
      exact hbF.trans (belowK_b (w := w) (by omega) _ D _ _ (by omega) hK' rfl rfl)
  case stop =>
    rintro D c pre W hD hpx ⟨rfl, ⟨r, hrow, hBk, hBe⟩, hbw⟩ hK
    have HROW := Lib.hid hrow
    clear hrow
    gi_wp2
    refine ⟨by simp, .inl ⟨_, _, rfl, run_takeDeferred hK, ?_⟩⟩
    have hD1 : g + 1 ≠ D := by omega
    have hD2 : g + 1 + 1 ≠ D := by omega
    have hB5 : Blk (W.putObj D (.deferred none)) (g + 1) 177 (keyC r) := (World.putObj_heap_other hD1).trans hBk
    have hE5 : Blk (W.putObj D (.deferred none)) (g + 1 + 1) 45 #[.nilIface] := (World.putObj_heap_other hD2).trans hBe
    unfold keyC at hB5
    have q0 := hB5.cell 0
    have q1 := hB5.cell 1
    have q2 := hB5.cell 2
    have q3 := hB5.cell 3
    have q4 := hB5.cell 4
    have q5 := hB5.cell 5
    have q6 := hB5.cell 6
    have e0' := hE5.cell 0
    refine ⟨.tuple #[keyV r, .nilIface], ?_, ?_, ?_⟩
    · simp [results, Tryz.f98, go_sem, q0, q1, q2, q3, q4, q5, q6, e0', keyV]
    · unfold ofV
      rw [HROW.out]
    · rw [hg]
      exact hbw.trans (belowK_b (w := w) (by omega) _ D _ _ (by omega) hK rfl rfl)
end Go.Proofs.YtamlepacljjpiaaGreatDoor
