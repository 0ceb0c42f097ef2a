/- slices.Repeat of one additional header; the walk of the law AhsRoom. -/
import Derived.Test.YtlbojhmhcaecjaaDoorCopyMany
import Derived.Test.YtlbojhmhcaecjaaDoorAhsJoinsP
import Derived.Test.YtlbojhmhcaecjaaDoorAhsMore
import Derived.Test.YtlbojhmhcaecjaaDoorPlace
import Derived.Test.YtlbojhmhcaecjaaDoorShelf
import Derived.Deep.RegionHeld3
namespace Go.Proofs.YtlbojhmhcaecjaaDoor
open Go.ChangeShapes Go.WideShapes Go.ChangeAt Go.RowKit
set_option linter.unusedVariables false
def repL (k : Int) (n N : Nat) : AhsL := List.replicate n (k, ⟨#[]⟩) ++ List.replicate (N - n) (0, ⟨#[]⟩)
theorem repL_len (k : Int) (n N : Nat) (h : n ≤ N) : (repL k n N).length = N := by simp [repL]; omega
theorem rep_copy (k : Int) (n N c : Nat) (h : n + c ≤ N) : (ahsCells (repL k n N)).take (2 * n) ++ ahsCells (List.replicate c (k, ⟨#[]⟩)) ++ (ahsCells (repL k n N)).drop (2 * n + (ahsCells (List.replicate c (k, (⟨#[]⟩ : ByteArray)))).length) = ahsCells (repL k (n + c) N) := by
  have e0 : ahsCells (repL k n N) = ahsCells (List.replicate n (k, ⟨#[]⟩)) ++ (ahsCells (List.replicate c (0, ⟨#[]⟩)) ++ ahsCells (List.replicate (N - (n + c)) (0, ⟨#[]⟩))) := by
    rw [← ahsCells_append, ← ahsCells_append, List.replicate_append_replicate, show c + (N - (n + c)) = N - n from by omega]
    rfl
  have l0 : (ahsCells (List.replicate n (k, (⟨#[]⟩ : ByteArray)))).length = 2 * n := by rw [ahsCells_len, List.length_replicate]
  have l1 : (ahsCells (List.replicate c (k, (⟨#[]⟩ : ByteArray)))).length = 2 * c := by rw [ahsCells_len, List.length_replicate]
  have l2 : (ahsCells (List.replicate c ((0 : Int), (⟨#[]⟩ : ByteArray)))).length = 2 * c := by rw [ahsCells_len, List.length_replicate]
  rw [e0, l1, List.take_left' l0, ← List.append_assoc (ahsCells (List.replicate n _)), List.drop_left' (by rw [List.length_append, l0, l2])]
  rw [repL, ahsCells_append, ← List.replicate_append_replicate, ahsCells_append]
theorem rep_made (k : Int) (N : Nat) : (madeCells #[.int .i64 0, .string ⟨#[]⟩] (N * 2)).toList = ahsCells (repL k 0 N) := by
  rw [repL, List.replicate_zero, List.nil_append, Nat.sub_zero]
  apply List.ext_getElem?
  intro i
  by_cases hi : i < N * 2
  · have hk : (List.replicate N ((0 : Int), (⟨#[]⟩ : ByteArray)))[i / 2]? = some (0, ⟨#[]⟩) := by rw [List.getElem?_replicate, if_pos (by omega)]
    obtain ⟨g0, g1⟩ := ahsCells_at _ _ _ hk
    rw [Array.getElem?_toList, madeCells]
    rcases Nat.mod_two_eq_zero_or_one i with h2 | h2
    · have e : i = 2 * (i / 2) := by omega
      rw [show (ahsCells (List.replicate N ((0 : Int), (⟨#[]⟩ : ByteArray))))[i]? = some (.int .i64 0) from by rw [e]; exact g0]
      simp [hi, h2]
    · have e : i = 2 * (i / 2) + 1 := by omega
      rw [show (ahsCells (List.replicate N ((0 : Int), (⟨#[]⟩ : ByteArray))))[i]? = some (.string ⟨#[]⟩) from by rw [e]; exact g1]
      simp [hi, h2]
  · rw [List.getElem?_eq_none (by simp [size_madeCells]; omega), List.getElem?_eq_none (by rw [ahsCells_len, List.length_replicate]; omega)]
theorem wpList_copy_wide {P : Program} {w : World} {ops : Array Oper} {rest : List Oper} {o : Oper} {a : Act} {Q : Exit → Act → World → Prop} (hgd : o.guard = none) (d s : Operand) (dT sT : TypeId)
    (ho : o.op = .call { callee := .builtin .copy, args := #[d, s], argTypes := #[dT, sT] }) (elem : TypeId) (size : Nat) (hu : P.underlying dT = some (.slice elem)) (hsz : (P.info? elem).map (·.size) = some size)
    (g off dLen dCap : Nat) (ad : Addr) (sLen sCap : Nat) (hd : a.eval d = .slice (some ⟨g, off, none⟩) dLen dCap) (hs : a.eval s = .slice (some ad) sLen sCap)
    (cur : Array Value) (t : TypeId) (hg : w.heap[g]? = some (.cells cur t (0, 0))) (cs : List Value) (hn : cs.length = Nat.min sLen dLen * size)
    (hsrc : ∀ j v, cs[j]? = some v → w.cell? (ad.add j) = some v) (hfit : off + cs.length ≤ cur.size) (h1 : ∀ v ∈ cs, v.oneCell' = true)
    (h : wpList P ops Q rest (a.put o.dst (goInt (Nat.min sLen dLen))) (w.setRow g (cur.toList.take off ++ cs ++ cur.toList.drop (off + cs.length)).toArray)) : wpList P ops Q (o :: rest) a w := by
  refine wpList_plain hgd fun K hK => ?_
  have hrun := run_copy_wide (P := P) w dT sT o.type elem size g off dLen dCap ad sLen sCap cur t cs hu hsz hg hn hsrc hfit h1
  unfold Oper.wp
  simp [execOp, ho, resolve, invoke, builtin, hd, hs, hrun, Result.andThen]
  exact hK _ _ (by simpa using h)
theorem step_copy_wide {P : Program} {ops : Array Oper} {o : Oper} {a : Act} {w : World} {K : Act → World → Prop} {Q : Exit → Act → World → Prop} {E : Prop} (hgd : o.guard = none) (d s : Operand) (dT sT : TypeId)
    (ho : o.op = .call { callee := .builtin .copy, args := #[d, s], argTypes := #[dT, sT] }) (elem : TypeId) (size : Nat) (hu : P.underlying dT = some (.slice elem)) (hsz : (P.info? elem).map (·.size) = some size)
    (g off dLen dCap : Nat) (ad : Addr) (sLen sCap : Nat) (hd : a.eval d = .slice (some ⟨g, off, none⟩) dLen dCap) (hs : a.eval s = .slice (some ad) sLen sCap)
    (cur : Array Value) (t : TypeId) (hg : Blk w g t cur) (cs : List Value) (hn : cs.length = Nat.min sLen dLen * size)
    (hsrc : ∀ j v, cs[j]? = some v → w.cell? (ad.add j) = some v) (hfit : off + cs.length ≤ cur.size) (h1 : ∀ v ∈ cs, v.oneCell' = true)
    (c : Nat) (hc : Nat.min sLen dLen = c) (cur2 : Array Value) (hcur : (cur.toList.take off ++ cs ++ cur.toList.drop (off + cs.length)).toArray = cur2) {B : Nat} {w0 : World} (hb : Below B w0 w) (hB : B ≤ g)
    (h : ∀ w', Blk w' g t cur2 → Below B w0 w' → K (a.put o.dst (.int .i64 c)) w') :
    if Region.wanted o (yielded ops a.tmps) = true then Oper.wp P o a w K Q else E := by
  rw [if_pos (by simp [Region.wanted, hgd])]
  have hrun := run_copy_wide (P := P) w dT sT o.type elem size g off dLen dCap ad sLen sCap cur t cs hu hsz hg hn hsrc hfit h1
  rw [hcur, hc] at hrun
  have hB2 : Blk (w.setRow g cur2) g t cur2 := setRow_heap w g _ cur2 _ _ hg
  have h := h _ hB2 (below_setRow hb hB cur2)
  unfold Oper.wp
  simp [execOp, ho, resolve, invoke, builtin, hd, hs, hrun, Result.andThen]
  exact h
theorem mul_one_at (N : Nat) (w : World) (h : N ≤ 1000) : Calls Tryd.prog 49 #[.int .u64 1, .int .u64 N] w fun e w' => e = .returned (.tuple #[.int .u64 0, .int .u64 N]) ∧ w = w' := by
  refine (Tryd.bits_Mul 1 N (by decide) (by omega) w).mono ?_
  rintro e w' ⟨rfl, rfl⟩
  rw [Nat.one_mul, Nat.div_eq_of_lt (by omega), Nat.mod_eq_of_lt (by omega)]
  exact ⟨rfl, rfl⟩
set_option maxRecDepth 20000 in
set_option maxHeartbeats 2000000 in
theorem repeat_one (k : Int) (N b : Nat) (w : World) (hN : 1 ≤ N) (hN2 : N ≤ 1000) (c0 : w.cell? ⟨b, 0, none⟩ = some (.int .i64 k)) (c1 : w.cell? ⟨b, 1, none⟩ = some (.string ⟨#[]⟩)) (hbl : b < w.heap.size) :
    Calls Tryd.prog 19 #[.slice (some ⟨b, 0, none⟩) 1 1, .int .i64 N] w fun e w' => ∃ v, e = .returned v ∧ SRd w' v 2 N (ahsCells (List.replicate N (k, ⟨#[]⟩))) ∧ Below w.heap.size w w' := by
  obtain ⟨i0, hi, hz0, hz1, hz2⟩ := info_parts infoAhs
  have hmk : ∀ w : World, (Instr.makeSlice 22 (.int .i64 N) (.int .i64 N)).run Tryd.prog w = .ok (.slice (some ⟨w.heap.size, 0, none⟩) N N) (w.alloc (.cells (ahsCells (repL k 0 N)).toArray 31)) := by
    intro w
    have := run_make (P := Tryd.prog) w 22 31 i0 _ Tryd.underlying22 hi hz0 .i64 .i64 N N (by omega) (by omega) (by rw [hz2]; omega) (by omega)
    rw [this, hz1]
    have e : madeCells (Value.agg #[.int .i64 0, .string ⟨#[]⟩]).cells (N * 2) = (ahsCells (repL k 0 N)).toArray := by
      rw [← rep_made k N]; rfl
    simp [e]
  clear hi hz0 hz1 hz2
  go_enter Tryd.func19, Tryd.ntmps19
  go_wp2_with fail
  refine (mul_one_at N w (by omega)).mono ?_
  rintro e w0 ⟨rfl, rfl⟩
  have hcp1 : ∀ j v, (ahsCells (List.replicate 1 (k, ⟨#[]⟩)))[j]? = some v → (w.alloc (.cells (ahsCells (repL k 0 N)).toArray 31)).cell? ((⟨b, 0, none⟩ : Addr).add j) = some v := by
    intro j v hj
    rw [Addr.add_lit, Nat.zero_add]
    have hb1 : Below w.heap.size w (w.alloc (.cells (ahsCells (repL k 0 N)).toArray 31)) := (Below.refl _ _).alloc (Nat.le_refl _) _
    rw [hb1.cell (p := ⟨b, j, none⟩) hbl]
    match j with
    | 0 => cases hj; exact c0
    | 1 => cases hj; exact c1
    | j + 2 => simp [ahsCells] at hj
  have hone : ∀ n, ∀ v ∈ ahsCells (List.replicate n (k, (⟨#[]⟩ : ByteArray))), v.oneCell' = true := by
    intro n v hv
    simp only [ahsCells, List.mem_flatMap] at hv
    obtain ⟨q, _, hq⟩ := hv
    simp at hq
    rcases hq with rfl | rfl <;> rfl
  have hG0 : Blk (w.alloc (.cells (ahsCells (repL k 0 N)).toArray 31)) w.heap.size 31 (ahsCells (repL k 0 N)).toArray := Blk.new _ _ _
  have hcl : ∀ n, (ahsCells (List.replicate n (k, (⟨#[]⟩ : ByteArray)))).length = 2 * n := fun n => by rw [ahsCells_len, List.length_replicate]
  have hrl : ∀ n, n ≤ N → (ahsCells (repL k n N)).length = 2 * N := fun n h => by rw [ahsCells_len, repL_len k n N h]
  have hb0 : Below w.heap.size w (w.alloc (.cells (ahsCells (repL k 0 N)).toArray 31)) := (Below.refl _ _).alloc (Nat.le_refl _) _
  have HRL := Lib.hid hrl
  have HCL := Lib.hid hcl
  have HONE := Lib.hid hone
  have q1 : (ahsCells (List.replicate 1 (k, (⟨#[]⟩ : ByteArray)))).length = Nat.min 1 N * 2 := by
    rw [hcl]
    show 2 * 1 = min 1 N * 2
    omega
  have q2 : 0 + (ahsCells (List.replicate 1 (k, (⟨#[]⟩ : ByteArray)))).length ≤ (ahsCells (repL k 0 N)).toArray.size := by
    rw [hcl, List.size_toArray, hrl 0 (by omega)]
    omega
  clear hrl hcl hone
  go_wp2_with (refine wpList_copy_wide rfl _ _ 22 22 rfl 31 2 Tryd.underlying22 (by kernel_rfl) w.heap.size 0 N N ⟨b, 0, none⟩ 1 1 rfl rfl _ 31 hG0 (ahsCells (List.replicate 1 (k, ⟨#[]⟩))) q1 hcp1 q2 (HONE.out 1) ?_)
  have hG1 : Blk ((w.alloc (.cells (ahsCells (repL k 0 N)).toArray 31)).setRow w.heap.size ((ahsCells (repL k 0 N)).toArray.toList.take 0 ++ ahsCells (List.replicate 1 (k, ⟨#[]⟩)) ++ (ahsCells (repL k 0 N)).toArray.toList.drop (0 + (ahsCells (List.replicate 1 (k, (⟨#[]⟩ : ByteArray)))).length)).toArray) w.heap.size 31 (ahsCells (repL k 1 N)).toArray := by
    have h := setRow_heap _ w.heap.size _ ((ahsCells (repL k 0 N)).toArray.toList.take 0 ++ ahsCells (List.replicate 1 (k, ⟨#[]⟩)) ++ (ahsCells (repL k 0 N)).toArray.toList.drop (0 + (ahsCells (List.replicate 1 (k, (⟨#[]⟩ : ByteArray)))).length)).toArray _ _ hG0
    have e := rep_copy k 0 N 1 (by omega)
    rw [Nat.mul_zero] at e
    rw [List.toList_toArray, e] at h
    rw [List.toList_toArray, e]
    exact h
  have hb1 := below_setRow hb0 (Nat.le_refl w.heap.size) ((ahsCells (repL k 0 N)).toArray.toList.take 0 ++ ahsCells (List.replicate 1 (k, ⟨#[]⟩)) ++ (ahsCells (repL k 0 N)).toArray.toList.drop (0 + (ahsCells (List.replicate 1 (k, (⟨#[]⟩ : ByteArray)))).length)).toArray
  go_loopw [8] (fun i wr => ∃ n : Nat, 1 ≤ n ∧ n ≤ N ∧ i = .int .i64 n ∧ Blk wr w.heap.size 31 (ahsCells (repL k n N)).toArray ∧ Below w.heap.size w wr) (fun i _ => N - (intOf i).toNat)
  case atStart => exact ⟨1, by omega, hN, by first | rfl | (congr 1; simp [goInt]), hG1, hb1⟩
  case round =>
    obtain ⟨n, hn1, hnN, rfl, hG, hbr⟩ := hrel
    by_cases hlt : n < N
    · obtain ⟨c, hc⟩ : ∃ c, min n (N - n) = c := ⟨_, rfl⟩
      have hs0 := hbr.size
      have hcs : (ahsCells (List.replicate c (k, (⟨#[]⟩ : ByteArray)))).length = Nat.min n (N - n) * 2 := by
        rw [HCL.out]
        show 2 * c = min n (N - n) * 2
        omega
      have hsrc : ∀ j v, (ahsCells (List.replicate c (k, (⟨#[]⟩ : ByteArray))))[j]? = some v → wr.cell? ((⟨w.heap.size, 0, none⟩ : Addr).add j) = some v := by
        intro j v hj
        have hjl : j < 2 * c := by
          have := (List.getElem?_eq_some_iff.1 hj).1
          rw [HCL.out] at this
          exact this
        rw [Addr.add_lit, Nat.zero_add, hG.cell j, List.getElem?_toArray, repL, ahsCells_append, List.getElem?_append_left (by rw [HCL.out]; omega)]
        rw [show n = c + (n - c) from by omega, ← List.replicate_append_replicate, ahsCells_append, List.getElem?_append_left (by rw [HCL.out]; omega)]
        exact hj
      have hfit : n * 2 + (ahsCells (List.replicate c (k, (⟨#[]⟩ : ByteArray)))).length ≤ (ahsCells (repL k n N)).toArray.size := by
        rw [HCL.out, List.size_toArray, HRL.out n hnN]; omega
      have hmin : Nat.min n (N - n) = c := hc
      have hcur : ((ahsCells (repL k n N)).toArray.toList.take (n * 2) ++ ahsCells (List.replicate c (k, ⟨#[]⟩)) ++ (ahsCells (repL k n N)).toArray.toList.drop (n * 2 + (ahsCells (List.replicate c (k, (⟨#[]⟩ : ByteArray)))).length)).toArray = (ahsCells (repL k (n + c) N)).toArray := by
        have e := rep_copy k n N c (by omega)
        rw [Nat.mul_comm] at e
        rw [List.toList_toArray, e]
      have hc1 : 1 ≤ c := by omega
      have hcN : n + c ≤ N := by omega
      have hnlt : (n : Int) < N := by omega
      have HCC := Lib.hid hc
      clear hc
      have HCS := Lib.hid hcs
      have HSRC := Lib.hid hsrc
      have HFIT := Lib.hid hfit
      have HMIN := Lib.hid hmin
      have HCUR := Lib.hid hcur
      have HG := Lib.hid hG
      clear hcs hsrc hfit hmin hcur hG hcp1 q1 q2 hG0 hG1 hb0 hb1 hmk c0 c1
      have hle : n ≤ N := hnN
      have hne : ¬ N = n := by omega
      go_wp2_with fail
      go_region_held3 (fun _ => True) (trivial) ((refine step_copy_wide (by rfl) _ _ 22 22 (by rfl) 31 2 Tryd.underlying22 (by kernel_rfl) w.heap.size (n * 2) (N - n) (N - n) ⟨w.heap.size, 0, none⟩ n N (by rfl) (by rfl) _ 31 HG.out (ahsCells (List.replicate c (k, ⟨#[]⟩))) HCS.out HSRC.out HFIT.out (HONE.out c) c HMIN.out _ HCUR.out (w0 := w) hbr.drew (Nat.le_refl _) ?_; intro w2 hG2 hb2))
      all_goals
        go_wp2
        have e : IntKind.i64.wrap ((n : Int) + c) = ((n + c : Nat) : Int) := by rw [IntKind.wrap_i64]; omega
        rw [e]
        exact ⟨⟨n + c, by omega, hcN, rfl, hG2, hb2⟩, by simp [intOf]; omega⟩
    · have hnN2 : n = N := by omega
      subst hnN2
      have hr : SRd wr (.slice (some ⟨w.heap.size, 0, none⟩) n n) 2 n (ahsCells (List.replicate n (k, ⟨#[]⟩))) := by
        refine ⟨by rw [HCL.out]; omega, _, n, rfl, Nat.le_refl _, by unfold maxLen; omega, fun _ => ⟨w.heap.size, 0, rfl, Nat.lt_of_lt_of_le hG.lt (Nat.le_refl _), fun j u hu => ?_⟩⟩
        rw [Nat.zero_add, hG.cell j, List.getElem?_toArray, repL, Nat.sub_self, List.replicate_zero, List.append_nil]
        exact hu
      have HR := Lib.hid hr
      clear hr
      go_wp2_with fail
      go_ret
      exact ⟨_, rfl, HR.out, hbr⟩
theorem room_go (k : Int) (h0 : 0 ≤ k) (h1 : k ≤ 255) : ∀ n i, i ≤ 255 → rightGo (List.replicate n (k, (⟨#[]⟩ : ByteArray))) (4 * i) i = if n + i ≤ 255 then none else some (4, 255)
  | 0, i, hi => by rw [List.replicate_zero, rightGo, if_pos (by omega)]
  | n + 1, i, hi => by
    rw [List.replicate_succ, rightGo, if_neg (by omega)]
    have e : ahsLen (⟨#[]⟩ : ByteArray) = 4 := rfl
    have e0 : (⟨#[]⟩ : ByteArray).size = 0 := rfl
    rw [e, e0]
    by_cases h : i = 255
    · subst h
      rw [if_pos (by omega), if_neg (by omega)]
    · rw [if_neg (by omega), show 4 * i + 4 = 4 * (i + 1) from by omega, room_go k h0 h1 n (i + 1) (by omega)]
      congr 1
      exact propext ⟨fun h => by omega, fun h => by omega⟩
theorem room_sum (k : Int) : ∀ n, sumLen (List.replicate n (k, (⟨#[]⟩ : ByteArray))) = 4 * n
  | 0 => rfl
  | n + 1 => by
    rw [List.replicate_succ, sumLen_cons, room_sum k n]
    have e : ahsLen (⟨#[]⟩ : ByteArray) = 4 := rfl
    simp only [e]
    omega
set_option maxRecDepth 20000 in
set_option maxHeartbeats 4000000 in
theorem roomAhs (z k : Int) (w : World) (hz : -9223372036854775808 ≤ z ∧ z ≤ 9223372036854775807) (hk : 0 ≤ k ∧ k ≤ 255) (hL : LaidE w) (hS : w.ShapedOpen Tryd.prog) :
    Calls Tryd.prog 4 #[.int .i64 z, .int .u8 k] w fun e w' => e = .returned (.bool true) ∧ Below w.heap.size w w' := by
  clear hz hS
  have pz := pick_rng z 10 (by omega)
  go_enter Tryd.func4, Tryd.ntmps4
  go_wp2_with fail
  refine (more_fact _ hL).mono ?_
  rintro e w1 ⟨rfl, hb1⟩
  go_wp2_with fail
  refine (pick_any _ _ _ (by omega) (by omega)).mono ?_
  rintro e w' ⟨rfl, rfl⟩
  obtain ⟨N0, hN0⟩ := Int.eq_ofNat_of_zero_le pz.1
  rw [hN0] at pz ⊢
  have hN3 : N0 ≤ 9 := by omega
  obtain ⟨N, hN⟩ : ∃ N, 250 + N0 = N := ⟨_, rfl⟩
  have e1 : (250 : Int) + (N0 : Int) = (N : Int) := by omega
  have hN1 : 250 ≤ N := by omega
  have hN2 : N ≤ 259 := by omega
  have E1 := Lib.hid e1
  clear hN pz e1 hN0
  have hL1 := hL.on hb1
  have c0 := (Blk.new w1 31 #[.int .i64 k, .string ⟨#[]⟩]).cell 0
  have c1 := (Blk.new w1 31 #[.int .i64 k, .string ⟨#[]⟩]).cell 1
  have hb0 : Below w1.heap.size w1 (w1.alloc (.cells #[.int .i64 k, .string ⟨#[]⟩] 31)) := (Below.refl _ _).alloc (Nat.le_refl _) _
  have C0 := Lib.hid c0
  have C1 := Lib.hid c1
  clear c0 c1
  go_wp2_with fail
  rw [E1.out]
  refine (repeat_one k N w1.heap.size _ (by omega) (by omega) C0.out C1.out (by simp)).mono ?_
  rintro e w2 ⟨v2, rfl, hv2, hb2'⟩
  have hb2 := below_step (below_step hb1 hb0) hb2'
  have hL2 := hL.on hb2
  have hv3 : SRd w2 v2 2 (List.replicate N (k, (⟨#[]⟩ : ByteArray))).length (ahsCells (List.replicate N (k, ⟨#[]⟩))) := by rw [List.length_replicate]; exact hv2
  have hd : ∀ p ∈ List.replicate N (k, (⟨#[]⟩ : ByteArray)), p.2.size ≤ 140737488351232 := by
    intro p hp
    rw [List.eq_of_mem_replicate hp]
    show 0 ≤ _
    omega
  have hr := room_go k hk.1 hk.2 N 0 (by omega)
  rw [Nat.mul_zero, Nat.add_zero] at hr
  have hlB : (ahsB (List.replicate N (k, (⟨#[]⟩ : ByteArray)))).length = 4 * N := by rw [ahsB_len, room_sum]
  have HLB := Lib.hid hlB
  have HD := Lib.hid hd
  have HV := Lib.hid hv3
  clear hlB hd hv3 hv2 C0 C1 hb0
  by_cases hN5 : N ≤ 255
  · rw [if_pos hN5] at hr
    have HR := Lib.hid hr
    clear hr
    go_wp2_with fail
    refine (ahsWrite_ok _ _ _ HV.out HD.out HR.out).mono ?_
    rintro e w3 ⟨rfl, hb3⟩
    obtain ⟨S, hS⟩ : ∃ S : ByteArray, S = ⟨(ahsB (List.replicate N (k, (⟨#[]⟩ : ByteArray)))).toArray⟩ := ⟨_, rfl⟩
    have hSz : S.size = 4 * N := by rw [hS, size_mkl]; exact HLB.out
    rw [← hS]
    have f1 : ((S.size : Int) == 4 * (N : Int)) = true := beq_iff_eq.2 (by omega)
    have hSb : S.size ≤ 2000 := by omega
    clear hS hSz
    go_wp2_with fail
    go_ret
    exact ⟨by first | rfl | simp, below_step hb2 hb3⟩
  · rw [if_neg hN5] at hr
    have HR := Lib.hid hr
    clear hr
    go_wp2_with fail
    refine (ahsWrite_bad _ _ _ HV.out HD.out _ HR.out).mono ?_
    rintro e w3 ⟨er, rfl, he, hb3⟩
    obtain ⟨g, _, rfl, hB⟩ := he
    have hL3 := hL2.on hb3
    have hN6 : (255 : Int) < N := by omega
    go_wp2_with fail
    refine (place_at g 4 255 _ hL3 hB).mono ?_
    rintro e w4 ⟨rfl, hb4⟩
    go_wp2_with fail
    go_ret
    exact ⟨by first | rfl | simp, below_step (below_step hb2 hb3) hb4⟩
end Go.Proofs.YtlbojhmhcaecjaaDoor
