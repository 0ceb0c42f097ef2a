/- The contracts of package gather: New, Add, Size; the fact of parts. -/
import Derived.Test.YtlbojhmhcaecjaaDoorPairsParse
namespace Go.Proofs.YtlbojhmhcaecjaaDoor
open Go.ChangeShapes Go.WideShapes Go.ChangeAt Go.RowKit
set_option linter.unusedVariables false
theorem below_step' {a b c : World} (h : Below a.heap.size a b) (k : Below b.heap.size b c) : Below a.heap.size a c := below_step h k
theorem gnew_ok (m : Int) (w : World) (h0 : 0 ≤ m) (h1 : m ≤ 20000) : Calls Tryd.prog 51 #[.int .i64 m] w fun e w' => e = .returned (.tuple #[.pointer (some ⟨w.heap.size, 0, none⟩), .nilIface]) ∧ w' = w.alloc (.cells #[.string ⟨#[]⟩, .int .i64 m] 147) := by
  go_enter Tryd.func51, Tryd.ntmps51
  go_wp2_with fail
  go_ret2
  exact ⟨rfl, rfl⟩
def GBlk (w : World) (g : Nat) (T : ByteArray) (m : Int) : Prop := Blk w g 147 #[.string T, .int .i64 m]
theorem GBlk.cells {w : World} {g : Nat} {T : ByteArray} {m : Int} (h : GBlk w g T m) : w.cell? ⟨g, 0, none⟩ = some (.string T) ∧ w.cell? ⟨g, 1, none⟩ = some (.int .i64 m) ∧ w.frozen? ⟨g, 0, none⟩ = false := by
  have c0 := Blk.cell h 0
  have c1 := Blk.cell h 1
  exact ⟨c0, c1, Blk.frozen h 0⟩
theorem gsize_any (g : Nat) (T : ByteArray) (m : Int) (w : World) (hB : GBlk w g T m) : Calls Tryd.prog 54 #[.pointer (some ⟨g, 0, none⟩)] w fun e w' => e = .returned (.int .i64 T.size) ∧ w = w' := by
  obtain ⟨c0, c1, c2⟩ := hB.cells
  clear hB
  go_enter Tryd.func54, Tryd.ntmps54
  go_wp2_with fail
  go_ret
  exact ⟨rfl, rfl⟩
theorem grown_put (w : World) (n g : Nat) (u : Value) : w.grownBy ((w.drewN n).setCell ⟨g, 0, none⟩ u) (some g) :=
  ⟨rfl, rfl, rfl, by simp [World.setCell], fun k _ hk => Below.heap_setCell _ _ _ _ (fun h => hk (by rw [h]))⟩
theorem grown_trans {a b c : World} {g : Nat} (h : a.grownBy b (some g)) (k : b.grownBy c (some g)) : a.grownBy c (some g) :=
  ⟨k.os.trans h.os, k.tape.trans h.tape, k.output.trans h.output, Nat.le_trans h.size k.size, fun i hi hk => (k.block i (Nat.lt_of_lt_of_le hi h.size) hk).trans (h.block i hi hk)⟩
theorem grown_below {a b : World} {g : Nat} (h : Below a.heap.size a b) : a.grownBy b (some g) := ⟨h.os, h.tape, h.output, h.size, fun i hi _ => h.block i hi⟩
theorem PRow.past {w w' : World} {base g : Nat} {v : Value} {l : PairL} (h : PRow w base v l) (hg : w.grownBy w' (some g)) (hlt : g < base) : PRow w' base v l :=
  MRow.kept h hg (by
    rcases hv : v.ownBlock with _ | k
    · exact .inl rfl
    · exact .inr fun e => by have := (MRow.lt h k hv).1; have := Option.some.inj e; omega)
theorem gadd_full (g : Nat) (T s : ByteArray) (m : Int) (b : Bool) (w w0 : World) (hB : GBlk w g T m) (hm : 0 ≤ m ∧ m ≤ 20000) (hT : T.size ≤ 20000) (hs : s.size ≤ 140737488351232) (h : m - T.size < s.size) (hbw : Below w0.heap.size w0 w) (hg : w0.heap.size ≤ g) :
    Calls Tryd.prog 52 #[.pointer (some ⟨g, 0, none⟩), .string s, .bool b] w fun e w' => e = .returned (.tuple #[.slice none 0 0, .iface 32 (.int .i64 12)]) ∧ GBlk w' g ⟨#[]⟩ m ∧ Below w0.heap.size w0 w' ∧ w.grownBy w' (some g) := by
  obtain ⟨c0, c1, c2⟩ := hB.cells
  go_enter Tryd.func52, Tryd.ntmps52
  go_wp2_with fail
  go_quiet (fail)
  go_wp2_with fail
  go_ret2
  exact ⟨rfl, (Blk.drewN hB _).put 0 _, (below_drewN hbw _).setCell hg _, grown_put _ _ _ _⟩
theorem gadd_more (g : Nat) (T s : ByteArray) (m : Int) (w w0 : World) (hB : GBlk w g T m) (hm : 0 ≤ m ∧ m ≤ 20000) (hT : T.size ≤ 20000) (h : s.size ≤ m - T.size) (hbw : Below w0.heap.size w0 w) (hg : w0.heap.size ≤ g) :
    Calls Tryd.prog 52 #[.pointer (some ⟨g, 0, none⟩), .string s, .bool true] w fun e w' => e = .returned (.tuple #[.slice none 0 0, .nilIface]) ∧ GBlk w' g (T ++ s) m ∧ Below w0.heap.size w0 w' ∧ w.grownBy w' (some g) := by
  obtain ⟨c0, c1, c2⟩ := hB.cells
  have hs : s.size ≤ 20000 := by omega
  go_enter Tryd.func52, Tryd.ntmps52
  go_wp2_with fail
  go_quiet (fail)
  go_wp2_with fail
  go_ret2
  exact ⟨rfl, (Blk.drewN hB _).put 0 _, (below_drewN hbw _).setCell hg _, grown_put _ _ _ _⟩
theorem PErr.put {w : World} {base g : Nat} {er : Value} {r : Option (Nat × Option Nat)} (h : PErr w base er r) (hg : g < base) (u : Value) : PErr (w.setCell ⟨g, 0, none⟩ u) base er r := by
  match r, h with
  | none, h => exact h
  | some (c, none), h => exact h
  | some (c, some p), ⟨k, hk, h1, h2⟩ => exact ⟨k, hk, h1, h2.far (by show k ≠ g; omega) u⟩
theorem PRes.put {w : World} {base g : Nat} {r er : Value} {x : (Nat × Option Nat) ⊕ PairL} (h : PRes w base r er x) (hg : g < base) (u : Value) : PRes (w.setCell ⟨g, 0, none⟩ u) base r er x := by
  match x, h with
  | .inl e, ⟨h1, h2⟩ => exact ⟨h1, h2.put hg u⟩
  | .inr l, ⟨h1, h2⟩ => exact ⟨h1, MRow.keep h2 fun k hk => Below.heap_setCell _ _ _ _ (by have := (MRow.lt h2 k hk).1; show k ≠ g; omega)⟩
theorem PErr.below {w w' : World} {base B : Nat} {er : Value} {r : Option (Nat × Option Nat)} (h : PErr w base er r) (hb : Below B w w') (hB : w.heap.size ≤ B) : PErr w' base er r := by
  match r, h with
  | none, h => exact h
  | some (c, none), h => exact h
  | some (c, some p), ⟨k, hk, h1, h2⟩ => exact ⟨k, hk, h1, h2.below hb (Nat.lt_of_lt_of_le h2.lt hB)⟩
theorem PRes.below {w w' : World} {base B : Nat} {r er : Value} {x : (Nat × Option Nat) ⊕ PairL} (h : PRes w base r er x) (hb : Below B w w') (hB : w.heap.size ≤ B) : PRes w' base r er x := by
  match x, h with
  | .inl e, ⟨h1, h2⟩ => exact ⟨h1, h2.below hb hB⟩
  | .inr l, ⟨h1, h2⟩ => exact ⟨h1, MRow.below h2 hb hB⟩
theorem gadd_end (g : Nat) (T s : ByteArray) (m : Int) (w w0 : World) (hB : GBlk w g T m) (hm : 0 ≤ m ∧ m ≤ 20000) (hT : T.size ≤ 20000) (h : s.size ≤ m - T.size) (hbw : Below w0.heap.size w0 w) (hg : w0.heap.size ≤ g) (hL : LaidE w0) (hS : w0.ShapedOpen Tryd.prog) :
    Calls Tryd.prog 52 #[.pointer (some ⟨g, 0, none⟩), .string s, .bool false] w fun e w' => ∃ r er, e = .returned (.tuple #[r, er]) ∧ PRes w' w.heap.size r er (parseGo ((T ++ s).size + 1) (T ++ s).data.toList 0) ∧ GBlk w' g ⟨#[]⟩ m ∧ Below w0.heap.size w0 w' ∧ w.grownBy w' (some g) := by
  obtain ⟨c0, c1, c2⟩ := hB.cells
  have hs : s.size ≤ 20000 := by omega
  go_enter Tryd.func52, Tryd.ntmps52
  go_wp2_with fail
  go_quiet (fail)
  have hB1 : GBlk ((w.drewN nq).setCell ⟨g, 0, none⟩ (.string (T ++ s))) g (T ++ s) m := (Blk.drewN hB nq).put 0 _
  have hb1 : Below w0.heap.size w0 ((w.drewN nq).setCell ⟨g, 0, none⟩ (.string (T ++ s))) := (below_drewN hbw nq).setCell hg _
  have hz1 : ((w.drewN nq).setCell ⟨g, 0, none⟩ (.string (T ++ s))).heap.size = w.heap.size := by simp [World.setCell]
  have HZ1 := Lib.hid hz1
  have hg1 := grown_put w nq g (.string (T ++ s))
  clear hz1
  go_wp2_with fail
  refine (parse_any (T ++ s) _ (hL.on hb1) (shaped_on hS hb1) (by rw [ByteArray.size_append]; omega)).mono ?_
  rintro e w2 ⟨r, er, rfl, hr, hb2⟩
  have hgl : g < w.heap.size := Blk.lt hB
  rw [HZ1.out] at hr hb2
  have hB2 : GBlk w2 g (T ++ s) m := Blk.below hB1 hb2 hgl
  obtain ⟨d0, d1, d2⟩ := hB2.cells
  have hle := hbw.size
  have hbw2 : Below w0.heap.size w0 w2 := hb1.trans (hb2.mono hle)
  clear c0 c1 c2 hB hB1
  go_wp2_with fail
  go_ret2
  refine ⟨r, er, rfl, hr.put hgl _, Blk.put hB2 0 _, hbw2.setCell hg _, ?_⟩
  rw [← HZ1.out] at hb2
  exact grown_trans hg1 (grown_trans (grown_below hb2) (grown_put w2 0 g _))
theorem pequal_same (l : PairL) (v v2 : Value) (w : World) (hv : SRd w v 2 l.length (pairCells l)) (hv2 : SRd w v2 2 l.length (pairCells l)) : Calls Tryd.prog 53 #[v, v2] w fun e w' =>
    e = .returned (.bool true) ∧ ∃ k, w' = w.drewN k := by
  obtain ⟨hlen, A, cap, rfl, hcap, hmax, hcell⟩ := hv
  obtain ⟨_, A2, cap2, rfl, hcap2, hmax2, hcell2⟩ := hv2
  have HC := Lib.hid hcell
  have HC2 := Lib.hid hcell2
  unfold maxLen at hmax
  clear hcell hcell2 hlen
  go_enter Tryd.func53, Tryd.ntmps53
  go_wp2_with fail
  go_loopw [13] (fun i wr => ∃ (k n : Nat), k ≤ l.length ∧ i = .int .i64 k ∧ wr = w.drewN n) (fun i _ => l.length - (intOf i).toNat)
  case atStart => exact ⟨0, 0, Nat.zero_le _, rfl, rfl⟩
  case round =>
    obtain ⟨k, nd, hk, rfl, rfl⟩ := hrel
    by_cases hlt : k < l.length
    · obtain ⟨p, hp⟩ : ∃ p, l[k]? = some p := ⟨_, List.getElem?_eq_getElem hlt⟩
      obtain ⟨b, o, rfl, hbl, hcc⟩ := HC.out (by omega)
      have hc := pairCells_at l k p hp
      obtain ⟨b2, o2, rfl, hbl2, hcc2⟩ := HC2.out (by omega)
      have c0 := hcc _ _ hc.1
      have c1 := hcc _ _ hc.2
      have d0 := hcc2 _ _ hc.1
      have d1 := hcc2 _ _ hc.2
      rw [Nat.mul_comm] at c0 c1 d0 d1
      rw [← Nat.add_assoc] at c1 d1
      clear hc hcc hcc2 hp
      go_wp2_with fail
      go_quiet (fail)
      go_wp2_with fail
      go_roundw
      case rel => exact ⟨k + 1, _, by omega, by go_num, rfl⟩
      case measure => simp [intOf]; omega
    · go_wp2_with fail
      go_ret
      exact ⟨rfl, nd, rfl⟩
def axL : PairL := [(⟨#[65]⟩, ⟨#[120]⟩)]
theorem parse_ax : parseGo 5 [65, 61, 120, 0] 0 = .inr axL := by decide +kernel
set_option maxRecDepth 20000 in
set_option maxHeartbeats 4000000 in
theorem gathered_fact (w : World) (hL : LaidE w) (hS : w.ShapedOpen Tryd.prog) : Calls Tryd.prog 30 #[] w fun e w' => e = .returned (.bool true) ∧ Below w.heap.size w w' := by
  go_enter Tryd.func30, Tryd.ntmps30
  go_wp2_with fail
  refine (gnew_ok 20 _ (by omega) (by omega)).mono ?_
  rintro e w1 ⟨rfl, rfl⟩
  have hB1 : GBlk (w.alloc (.cells #[.string ⟨#[]⟩, .int .i64 20] 147)) w.heap.size ⟨#[]⟩ 20 := Blk.new w _ _
  have hb1 : Below w.heap.size w (w.alloc (.cells #[.string ⟨#[]⟩, .int .i64 20] 147)) := (Below.refl _ _).alloc (Nat.le_refl _) _
  go_wp2_with fail
  refine (gadd_more w.heap.size ⟨#[]⟩ ⟨#[65, 61]⟩ 20 _ w hB1 (by omega) (by decide) (by decide) hb1 (Nat.le_refl _)).mono ?_
  rintro e w2 ⟨rfl, hB2, hb2, _⟩
  clear hB1 hb1
  go_wp2_with fail
  refine (gadd_end w.heap.size ⟨#[65, 61]⟩ ⟨#[120, 0]⟩ 20 _ w hB2 (by omega) (by decide) (by decide) hb2 (Nat.le_refl _) hL hS).mono ?_
  rintro e w3 ⟨r, er, rfl, hr, hB3, hb3, _⟩
  rw [show ((⟨#[65, 61]⟩ : ByteArray) ++ ⟨#[120, 0]⟩).data.toList = [65, 61, 120, 0] from rfl, show ((⟨#[65, 61]⟩ : ByteArray) ++ ⟨#[120, 0]⟩).size + 1 = 5 from rfl, parse_ax] at hr
  obtain ⟨rfl, hr⟩ := hr
  have hs2 := hb2.size
  have hg2 : w.heap.size < w2.heap.size := Blk.lt hB2
  clear hB2 hb2
  go_wp2_with fail
  refine (gadd_full w.heap.size ⟨#[]⟩ _ 20 true _ w hB3 (by omega) (by decide) (by decide) (by decide) hb3 (Nat.le_refl _)).mono ?_
  rintro e w4 ⟨rfl, hB4, hb4, hg4⟩
  have hr4 := hr.past hg4 hg2
  have hrd := SRd.of_m hr4
  have hL4 := hL.on hb4
  have hgl4 : w.heap.size < w4.heap.size := Blk.lt hB4
  clear hr hB3 hb3 hg4
  go_wp2_with fail
  refine (tell_errno 12 _ hL4).mono ?_
  rintro e w5 ⟨rfl, hb5⟩
  have hrd5 := hrd.on hb5
  have hB5 : GBlk w5 w.heap.size ⟨#[]⟩ 20 := Blk.below hB4 hb5 hgl4
  have hbw5 := below_step' hb4 hb5
  go_wp2_with fail
  refine (pequal_same axL r _ _ (hrd5.on ((Below.refl _ _).alloc (Nat.le_refl _) _)) ⟨rfl, _, 1, rfl, by decide, by decide, fun _ => ⟨w5.heap.size, 0, rfl, by simp, ?_⟩⟩).mono ?_
  · intro j u hu
    rw [Nat.zero_add, (Blk.new w5 _ _).cell j]
    exact (Array.getElem?_toList ..).symm.trans hu
  rintro e w6 ⟨rfl, k6, rfl⟩
  go_wp2_with fail
  refine (gsize_any w.heap.size ⟨#[]⟩ 20 _ ((Blk.alloc hB5 _).drewN k6)).mono ?_
  rintro e w7 ⟨rfl, rfl⟩
  go_wp2_with fail
  go_ret
  exact ⟨rfl, below_drewN (hbw5.alloc hbw5.size _) _⟩
end Go.Proofs.YtlbojhmhcaecjaaDoor
