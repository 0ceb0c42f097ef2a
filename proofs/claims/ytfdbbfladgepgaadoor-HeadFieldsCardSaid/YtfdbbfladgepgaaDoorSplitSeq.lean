/- strings.SplitSeq at a separator of one byte: the contract of its iterator. -/
import Derived.Test.YtfdbbfladgepgaaDoorSeqBox
import Derived.Test.YtfdbbfladgepgaaDoorHeadPlain
import Derived.Test.YtfdbbfladgepgaaDoorMem
import Derived.Test.YtfdbbfladgepgaaDoorShelf
import Derived.Shelf.Abstract
import Derived.WalkKit
import Derived.OwnWalkIn
import Derived.TacticsInMore
import Derived.LoopNIn
import Derived.LoopIn
namespace Go.Proofs.YtfdbbfladgepgaaDoor
open Go.ChangeShapes Go.WideShapes Go.ChangeAt Go.RowKit Go.Shelf
set_option linter.unusedVariables false
theorem splitSeq0 (s sep : ByteArray) (w : World) : Calls Tryd.prog 25 #[.string s, .string sep, .int .i64 0] w fun e w' =>
    e = .returned (.func (.func 37) #[] #[.pointer (some ⟨w.heap.size + 1, 0, none⟩), .pointer (some ⟨w.heap.size, 0, none⟩), .pointer (some ⟨w.heap.size + 2, 0, none⟩)]) ∧
    w' = ((w.alloc (.cells #[.string s] 9)).alloc (.cells #[.string sep] 9)).alloc (.cells #[.int .i64 0] 3) := by
  go_enter Tryd.func25, Tryd.ntmps25
  go_wp2_with fail
  go_ret
  exact ⟨rfl, rfl⟩
theorem splitSeq_any (s sep : ByteArray) (w : World) : Calls Tryd.prog 18 #[.string s, .string sep] w fun e w' =>
    e = .returned (.func (.func 37) #[] #[.pointer (some ⟨w.heap.size + 1, 0, none⟩), .pointer (some ⟨w.heap.size, 0, none⟩), .pointer (some ⟨w.heap.size + 2, 0, none⟩)]) ∧
    w' = ((w.alloc (.cells #[.string s] 9)).alloc (.cells #[.string sep] 9)).alloc (.cells #[.int .i64 0] 3) := by
  go_enter Tryd.func18, Tryd.ntmps18
  go_wp2_with fail
  refine (splitSeq0 s sep _).mono ?_
  rintro e w' ⟨rfl, rfl⟩
  go_wp2_with fail
  go_ret
  exact ⟨rfl, rfl⟩
def boxLen (b : Nat) (wr : World) : Nat := match wr.cell? ⟨b, 0, none⟩ with | some (.string s) => s.size | _ => 0
theorem boxLen_eq {b : Nat} {wr : World} {t : TypeId} {s : ByteArray} (h : Blk wr b t #[.string s]) : boxLen b wr = s.size := by
  have := h.cell 0
  unfold boxLen
  rw [this]
  rfl
theorem indexByte_no (a : List UInt8) (c : UInt8) (h : ∀ x ∈ a, x ≠ c) : Lib.indexByte a c = -1 := by
  induction a with
  | nil => rfl
  | cons x a ih =>
    have hx := h x (by simp)
    unfold Lib.indexByte
    rw [if_neg (by simpa using hx), ih (fun y hy => h y (by simp [hy]))]
    rfl
theorem indexByte_at (a b : List UInt8) (c : UInt8) (h : ∀ x ∈ a, x ≠ c) : Lib.indexByte (a ++ c :: b) c = a.length := by
  induction a with
  | nil => simp [Lib.indexByte]
  | cons x a ih =>
    have hx := h x (by simp)
    rw [List.cons_append]
    unfold Lib.indexByte
    rw [if_neg (by simpa using hx), ih (fun y hy => h y (by simp [hy])), if_neg (by simp <;> omega), List.length_cons]
    omega
theorem index_to (s : ByteArray) (c : UInt8) (k : Int) (h : Lib.indexByte s.data.toList c = k) (w : World) : Calls Tryd.prog 31 #[.string s, .string ⟨#[c]⟩] w fun e w' => e = .returned (.int .i64 k) ∧ w' = w := by
  rw [← h]
  exact Tryd.strings_Index_one s c w
attribute [local go_sem] Oper.semAt_some
set_option maxRecDepth 100000 in
set_option maxHeartbeats 2000000 in
theorem split_stops (n : Nat) (hn : 2 ≤ n) (c : UInt8) (ps : List (List UInt8)) (hne : ps ≠ []) (hno : ∀ p ∈ ps, ∀ x ∈ p, x ≠ c) (hsz : (joinC c ps).length < 1000000) (b : Nat) (w : World)
    (h0 : Blk w b 9 #[.string ⟨(joinC c ps).toArray⟩]) (h1 : Blk w (b + 1) 9 #[.string ⟨#[c]⟩]) (h2 : Blk w (b + 2) 3 #[.int .i64 0]) :
    SeqBox n Tryd.prog 37 #[.pointer (some ⟨b + 1, 0, none⟩), .pointer (some ⟨b, 0, none⟩), .pointer (some ⟨b + 2, 0, none⟩)] b (fun k => b ≤ k ∧ k ≤ b + 2) (ps.map fun p => ⟨p.toArray⟩) w := by
  intro l J Jx W hbW hJ hJx hY hJ0
  refine callsIn_of_wp Tryd.func37 rfl trivial ?_ rfl
  simp only [Tryd.ntmps37, List.size_toArray, List.length_cons, List.length_nil, Nat.reduceAdd, Nat.reduceSub, Array.replicate_succ, Array.replicate_zero, List.push_toArray, List.append_toArray, List.nil_append, List.cons_append]
  have B0 := h0.below hbW h0.lt
  have B1 := h1.below hbW h1.lt
  have B2 := h2.below hbW h2.lt
  have c1 := B1.cell 0
  gi_wp2
  clear c1
  gi_loopw [7] (fun _ wr => ∃ (pre : List (List UInt8)) (p : List UInt8) (rest : List (List UInt8)), ps = pre ++ p :: rest ∧ Blk wr b 9 #[.string ⟨(joinC c (p :: rest)).toArray⟩] ∧ Blk wr (b + 1) 9 #[.string ⟨#[c]⟩] ∧ Blk wr (b + 2) 3 #[.int .i64 0] ∧ J (pre.map fun p => ⟨p.toArray⟩) wr) (fun _ wr => boxLen b wr)
  case atStart =>
    rcases ps with _ | ⟨p, rest⟩
    · exact absurd rfl hne
    · exact ⟨[], p, rest, rfl, B0, B1, B2, hJ0⟩
  case round =>
    obtain ⟨pre, p, rest, hps, R0, R1, R2, hJs⟩ := hrel
    have c0 := R0.cell 0
    have c1 := R1.cell 0
    have c2 := R2.cell 0
    have hpn : ∀ x ∈ p, x ≠ c := hno p (by rw [hps]; simp)
    rcases rest with _ | ⟨q, rest⟩
    · have hix : Lib.indexByte (⟨(joinC c [p]).toArray⟩ : ByteArray).data.toList c = -1 := indexByte_no p c hpn
      have HIX := Lib.hid hix
      clear hix hpn
      obtain ⟨fn, tmps, assign, body, hy, hR⟩ := hY _ ⟨p.toArray⟩ wr hJs ⟨[], by rw [hps]; simp⟩
      dsimp only [joinC] at c0 HIX hy
      gi_wp2
      refine ⟨trivial, (fun h => by cases h), ?_⟩
      refine (callsIn_wide.2 (index_to _ c _ HIX.out _)).mono ?_
      rintro e w' ⟨rfl, rfl⟩
      gi_wp2
      refine ⟨(fun h => by cases h), ?_⟩
      refine hR.mono ?_
      rintro e W' (⟨rfl, hJ', hk⟩ | ⟨rfl, hJx'⟩)
      · gi_wp2
        go_end0
        refine ⟨⟨_, rfl⟩, .inl ?_⟩
        have e : ps.map (fun p => (⟨p.toArray⟩ : ByteArray)) = pre.map (fun p => ⟨p.toArray⟩) ++ [⟨p.toArray⟩] := by rw [hps]; simp
        rw [e]
        exact hJ'
      · gi_wp2
        go_end0
        refine ⟨⟨_, rfl⟩, .inr ⟨_, ⟨[], by rw [hps]; simp⟩, hJx'⟩⟩
    · have hix : Lib.indexByte (⟨(joinC c (p :: q :: rest)).toArray⟩ : ByteArray).data.toList c = p.length := indexByte_at p (joinC c (q :: rest)) c hpn
      have hS : (⟨(joinC c (p :: q :: rest)).toArray⟩ : ByteArray).data.toList = p ++ c :: joinC c (q :: rest) := rfl
      obtain ⟨S, hSS⟩ : ∃ S : ByteArray, (⟨(joinC c (p :: q :: rest)).toArray⟩ : ByteArray) = S := ⟨_, rfl⟩
      rw [hSS] at hix hS c0
      have hSz : S.size = p.length + 1 + (joinC c (q :: rest)).length := by rw [← len_of, hS]; simp; omega
      have hx1 : S.extract 0 p.length = ⟨p.toArray⟩ := by rw [ext_of, hS]; simp
      have hx2 : S.extract (p.length + 1) S.size = ⟨(joinC c (q :: rest)).toArray⟩ := by
        rw [ext_of, hS, hSz, show p ++ c :: joinC c (q :: rest) = (p ++ [c]) ++ joinC c (q :: rest) by simp, List.drop_left' (by simp)]
        congr 2
        exact List.take_of_length_le (by omega)
      have hlt : S.size < 1000000 := by
        refine Nat.lt_of_le_of_lt ?_ hsz
        rw [hps, ← len_of, hS]
        clear hps hJs hJ0 hno hne h0 hsz
        induction pre with
        | nil => simp [joinC]
        | cons a pre ih =>
          refine Nat.le_trans ih ?_
          cases pre <;> simp [joinC] <;> omega
      have HIX := Lib.hid hix
      have HX1 := Lib.hid hx1
      rw [hSz] at hx2
      have HX2 := Lib.hid hx2
      have HSZ := Lib.hid hSz
      have HSS := Lib.hid hSS
      have R0s := R0
      rw [hSS] at R0s
      clear hix hpn hS hx1 hx2 hSS
      obtain ⟨fn, tmps, assign, body, hy, hR⟩ := hY _ ⟨p.toArray⟩ wr hJs ⟨(q :: rest).map fun p => ⟨p.toArray⟩, by rw [hps]; simp⟩
      rw [← HX1.out] at hy
      gi_wp2
      refine ⟨trivial, (fun h => by cases h), ?_⟩
      refine (callsIn_wide.2 (index_to _ c _ HIX.out _)).mono ?_
      rintro e w' ⟨rfl, rfl⟩
      gi_wp2
      refine ⟨(fun h => by cases h), ?_⟩
      refine hR.mono ?_
      clear c0 c1 c2
      rintro e W' (⟨rfl, hJ', hk⟩ | ⟨rfl, hJx'⟩)
      · have Q0 : Blk W' b 9 #[.string S] := (hk b ⟨Nat.le_refl _, by omega⟩).trans (by rw [← HSS.out]; exact R0)
        have Q1 : Blk W' (b + 1) 9 #[.string ⟨#[c]⟩] := (hk (b + 1) ⟨by omega, by omega⟩).trans R1
        have Q2 : Blk W' (b + 2) 3 #[.int .i64 0] := (hk (b + 2) ⟨by omega, by omega⟩).trans R2
        have c0 := Q0.cell 0
        have f0 := Q0.frozen 0
        have c1 := Q1.cell 0
        have c2 := Q2.cell 0
        gi_wp2
        go_roundw
        case rel =>
          refine ⟨pre ++ [p], q, rest, by rw [hps]; simp, ?_, Q1.far (by simp) _, Q2.far (by simp) _, ?_⟩
          · have := Q0.put 0 (.string (S.extract (p.length + 1) (p.length + 1 + (joinC c (q :: rest)).length)))
            rw [HX2.out] at this ⊢
            exact this
          · rw [List.map_append]
            exact hJ _ _ _ hJ' (Step.setBox b _ _)
        case measure =>
          have := Q0.put 0 (.string (S.extract (p.length + 1) (p.length + 1 + (joinC c (q :: rest)).length)))
          rw [boxLen_eq this, boxLen_eq R0s, HX2.out, size_mkl, HSZ.out]
          omega
      · gi_wp2
        refine bodyPost_ret (results_none rfl _ _ _) rfl ?_
        refine ⟨⟨_, rfl⟩, .inr ⟨_, ⟨(q :: rest).map fun p => ⟨p.toArray⟩, ?_⟩, hJx'⟩⟩
        rw [hps]; simp
end Go.Proofs.YtfdbbfladgepgaaDoor
