/- keys.Result. -/
import Derived.Test.YtamlepacljjpiaaGreatDoorGkeysb
import Derived.Lib.MinMax
namespace Go.Proofs.YtamlepacljjpiaaGreatDoor
open Go.ChangeShapes Go.WideShapes Go.ChangeAt Go.RowKit Go.Shelf
set_option linter.unusedVariables false
set_option linter.unusedSimpArgs false
def resV : Nat ⊕ List UInt8 → Value
  | .inl c => .tuple #[.string ⟨#[]⟩, .iface 56 (.int .i64 c)]
  | .inr s => .tuple #[.string ⟨s.toArray⟩, .nilIface]
theorem fits_bad (n v : ByteArray) (c : Nat) (w : World) (h : fitsE n.data.toList v.data.toList = c) (hc : c ≠ 0) (hv : v.size ≤ 1000000) (T : Tabs w) (E : Errs w) (hS : w.ShapedOpen Tryz.prog) : Calls Tryz.prog 76 #[.string n, .string v] w fun e w' => e = .returned (.iface 56 (.int .i64 c)) ∧ Below w.heap.size w w' := by
  refine (fits_any n v w hv T E hS).mono ?_
  rintro e w' ⟨rfl, hb⟩
  rw [h]
  unfold errv
  rw [if_neg hc]
  exact ⟨rfl, hb⟩
theorem fits_good (n v : ByteArray) (w : World) (h : fitsE n.data.toList v.data.toList = 0) (hv : v.size ≤ 1000000) (T : Tabs w) (E : Errs w) (hS : w.ShapedOpen Tryz.prog) : Calls Tryz.prog 76 #[.string n, .string v] w fun e w' => e = .returned .nilIface ∧ Below w.heap.size w w' := by
  refine (fits_any n v w hv T E hS).mono ?_
  rintro e w' ⟨rfl, hb⟩
  rw [h]
  exact ⟨rfl, hb⟩
theorem number_x (s : ByteArray) (hs : s.size ≤ 1000000) (w : World) (E : Errs w) : Calls Tryz.prog 117 #[.string s] w fun e w' => ∃ (x : Int) (o : Bool), e = .returned (.tuple #[.int .i64 x, .bool o]) ∧ Hid (∀ m : Nat, numP s.data.toList = some m → x = m) ∧ Below w.heap.size w w' := by
  rcases hn : numP s.data.toList with _ | n
  · refine (number_none s hn hs w E).mono ?_
    rintro e w' ⟨x, rfl, hb⟩
    exact ⟨x, false, rfl, Lib.hid (fun m h => by cases h), hb⟩
  · refine (number_some s n hn hs w E).mono ?_
    rintro e w' ⟨rfl, hb⟩
    exact ⟨n, true, rfl, Lib.hid (fun m h => by rw [Option.some.inj h]), hb⟩
theorem list_ok (s : ByteArray) (ws : List (List UInt8)) (h : listP s.data.toList = some ws) (w : World) (hs : s.size ≤ 1000000) (hS : w.ShapedOpen Tryz.prog) : Calls Tryz.prog 101 #[.string s] w fun e w' =>
    e = .returned (.tuple #[.slice (some ⟨w.heap.size, 0, none⟩) ws.length ws.length, .nilIface]) ∧ Blk w' w.heap.size 9 (ws.map strV).toArray ∧ Below w.heap.size w w' := by
  refine (list_any s w hs hS).mono ?_
  rintro e w' ⟨hl, hb⟩
  unfold ListIs at hl
  rw [h] at hl
  exact ⟨hl.1, hl.2, hb⟩
theorem itoaK (n : Nat) (hn : n < 1099511627776) (w : World) (T : Tabs w) : Calls Tryz.prog 66 #[.int .i64 n] w fun e w' => e = .returned (.string ⟨(dgs n).toArray⟩) ∧ Below w.heap.size w w' :=
  itoa_to n _ (by rw [dgs_itoa n hn]) w (by omega) T
theorem ixs0 (a b : Value) (w : World) : (Instr.index 180 (.agg #[a, b]) (.int .i64 0)).run Tryz.prog w = .ok a w := by kernel_rfl
theorem ixs1 (a b : Value) (w : World) : (Instr.index 180 (.agg #[a, b]) (.int .i64 1)).run Tryz.prog w = .ok b w := by kernel_rfl
theorem row_fits {n v : List UInt8} {r : KeyR} (h : keyRow n = some r) : fitsE n v = fitsR r v := by unfold fitsE; rw [h]
set_option maxRecDepth 20000 in
set_option maxHeartbeats 4000000 in
theorem result_bad1 (n a b : ByteArray) (c : Nat) (w : World) (h : fitsE n.data.toList a.data.toList = c) (hc : c ≠ 0) (ha : a.size ≤ 1000000) (hb : b.size ≤ 1000000) (T : Tabs w) (E : Errs w) (hS : w.ShapedOpen Tryz.prog) : Calls Tryz.prog 103 #[.string n, .string a, .string b] w fun e w' =>
    e = .returned (.tuple #[.string ⟨#[]⟩, .iface 56 (.int .i64 c)]) ∧ Below w.heap.size w w' := by
  have h0 := ixs0
  have h1 := ixs1
  have HC := Lib.hid h
  clear h
  go_enter Tryz.func103, Tryz.ntmps103
  go_wp2_with fail
  refine wp_loop_rounds 3 ?_
  rw [rounds_succ]
  go_wp2_with fail
  refine (fits_bad n a c _ HC.out hc ha T E hS).mono ?_
  rintro e w1 ⟨rfl, hb1⟩
  go_wp2_with fail
  go_ret2
  exact ⟨rfl, hb1⟩
set_option maxRecDepth 20000 in
set_option maxHeartbeats 4000000 in
theorem result_bad2 (n a b : ByteArray) (c : Nat) (w : World) (h0' : fitsE n.data.toList a.data.toList = 0) (h : fitsE n.data.toList b.data.toList = c) (hc : c ≠ 0) (ha : a.size ≤ 1000000) (hb : b.size ≤ 1000000) (T : Tabs w) (E : Errs w) (hS : w.ShapedOpen Tryz.prog) : Calls Tryz.prog 103 #[.string n, .string a, .string b] w fun e w' =>
    e = .returned (.tuple #[.string ⟨#[]⟩, .iface 56 (.int .i64 c)]) ∧ Below w.heap.size w w' := by
  have h0 := ixs0
  have h1 := ixs1
  have HC := Lib.hid h
  have HC0 := Lib.hid h0'
  clear h h0'
  go_enter Tryz.func103, Tryz.ntmps103
  go_wp2_with fail
  refine wp_loop_rounds 3 ?_
  rw [rounds_succ]
  go_wp2_with fail
  refine (fits_good n a _ HC0.out ha T E hS).mono ?_
  rintro e w1 ⟨rfl, hb1⟩
  go_wp2_with fail
  rw [rounds_succ]
  go_wp2_with fail
  refine (fits_bad n b c _ HC.out hc hb (T.on hb1) (E.on hb1) (shapedK hS hb1)).mono ?_
  rintro e w2 ⟨rfl, hb2⟩
  go_wp2_with fail
  go_ret2
  exact ⟨rfl, below_step hb1 hb2⟩
/- what both say of yes -/
theorem resV_inr (s : ByteArray) (l : List UInt8) (h : s.data.toList = l) : resV (.inr l) = .tuple #[.string s, .nilIface] := by
  subst h
  unfold resV
  simp only
theorem list_inv {l : List UInt8} (h : (if (listP l).isSome = true then 0 else 3) = 0) : ∃ la, listP l = some la ∧ splitC 44 l = la := by
  rcases hl : listP l with _ | la
  · rw [hl] at h; cases h
  · refine ⟨la, rfl, ?_⟩
    unfold listP at hl
    split at hl
    · exact Option.some.inj hl
    · cases hl
theorem yes_facts (a : ByteArray) : ∃ p : Bool, (a.data.toList == [89, 101, 115]) = p ∧ (a.toList == [89, 101, 115]) = p := ⟨_, rfl, by rw [toList_of]⟩
set_option maxRecDepth 20000 in
set_option maxHeartbeats 8000000 in
theorem result_good (n a b : ByteArray) (r : KeyR) (w : World) (hr : keyRow n.data.toList = some r) (h1' : fitsE n.data.toList a.data.toList = 0) (h2' : fitsE n.data.toList b.data.toList = 0) (ha : a.size ≤ 1000000) (hb : b.size ≤ 1000000) (T : Tabs w) (E : Errs w) (hS : w.ShapedOpen Tryz.prog) : Calls Tryz.prog 103 #[.string n, .string a, .string b] w fun e w' =>
    e = .returned (resV (resR r a.data.toList b.data.toList)) ∧ Below w.heap.size w w' := by
  have h0 := ixs0
  have h1 := ixs1
  have HR := Lib.hid hr
  have HF1 := Lib.hid h1'
  have HF2 := Lib.hid h2'
  have hm := keyRow_mem hr
  have hk7 := keyT_len r hm
  have e1 := (row_fits (v := a.data.toList) hr).symm.trans h1'
  have e2 := (row_fits (v := b.data.toList) hr).symm.trans h2'
  have HE1 := Lib.hid e1
  have HE2 := Lib.hid e2
  have HK7 := Lib.hid hk7
  clear hr h1' h2' hm e1 e2 hk7
  unfold resR
  rcases kinds_of r HK7.out.2.2.2.1 with hK | hK | hK | hK | hK | hK | hK | hK
  · have HK := Lib.hid hK
    rw [if_neg (by omega), if_neg (by omega), if_neg (by omega), if_neg (by omega), if_neg (by omega)]
    clear hK
    go_enter Tryz.func103, Tryz.ntmps103
    go_wp2_with fail
    refine wp_loop_rounds 3 ?_
    rw [rounds_succ]
    go_wp2_with fail
    refine (fits_good n a _ HF1.out ha T E hS).mono ?_
    rintro e w1 ⟨rfl, hb1⟩
    go_wp2_with fail
    rw [rounds_succ]
    go_wp2_with fail
    refine (fits_good n b _ HF2.out hb (T.on hb1) (E.on hb1) (shapedK hS hb1)).mono ?_
    rintro e w2 ⟨rfl, hb2⟩
    have hbw2 := below_step hb1 hb2
    go_wp2_with fail
    rw [rounds_succ]
    go_wp2_with fail
    refine (of_kind n r _ _ HR.out HK.out (T.on hbw2)).mono ?_
    rintro e w3 ⟨rfl, hb3⟩
    have hbw3 := below_step hbw2 hb3
    go_wp2_with fail
    obtain ⟨w4, hw4⟩ : ∃ w4 : World, w3.alloc (.cells #[.string ⟨r.name.toArray⟩, .int .i64 0, .int .i64 r.low, .int .i64 r.high, .string ⟨(dfl r).toArray⟩, .bool r.noth, .bool r.lonly] 177) = w4 := ⟨_, rfl⟩
    obtain ⟨g, hg⟩ : ∃ g, w3.heap.size = g := ⟨_, rfl⟩
    have hB4 : Blk w4 g 177 #[.string ⟨r.name.toArray⟩, .int .i64 0, .int .i64 r.low, .int .i64 r.high, .string ⟨(dfl r).toArray⟩, .bool r.noth, .bool r.lonly] := by rw [← hw4, ← hg]; exact Blk.new w3 _ _
    have hbw4 : Below w.heap.size w w4 := by rw [← hw4]; exact below_step hbw3 ((Below.refl _ _).alloc (Nat.le_refl _) _)
    rw [hw4]
    try rw [hg]
    clear hw4 hg hb1 hb2 hb3 hbw2 hbw3
    refine (number_x a ha _ (E.on hbw4)).mono ?_
    rintro e w5 ⟨x, o, rfl, hx, hb5⟩
    have hbw5 := below_step hbw4 hb5
    have hB5 := hB4.below hb5 hB4.lt
    go_wp2_with fail
    refine (number_x b hb _ (E.on hbw5)).mono ?_
    rintro e w6 ⟨y, o2, rfl, hy, hb6⟩
    have hbw6 := below_step hbw5 hb6
    have hB6 := hB5.below hb6 hB5.lt
    have c1 := hB6.cell 1
    clear hb5 hb6 hB4 hB5 hbw4 hbw5
    go_wp2_with fail
    go_ret2
    exact ⟨ret_eq (resV_inr a _ rfl).symm, hbw6⟩
  · have HK := Lib.hid hK
    rw [if_pos (by omega)]
    clear hK
    obtain ⟨p, p1, p2⟩ := yes_facts a
    obtain ⟨q, q1, q2⟩ := yes_facts b
    rw [p1, q1]
    clear p1 q1
    rcases p with _ | _ <;> rcases q with _ | _
    all_goals
      go_enter Tryz.func103, Tryz.ntmps103
      go_wp2_with fail
      refine wp_loop_rounds 3 ?_
      rw [rounds_succ]
      go_wp2_with fail
      refine (fits_good n a _ HF1.out ha T E hS).mono ?_
      rintro e w1 ⟨rfl, hb1⟩
      go_wp2_with fail
      rw [rounds_succ]
      go_wp2_with fail
      refine (fits_good n b _ HF2.out hb (T.on hb1) (E.on hb1) (shapedK hS hb1)).mono ?_
      rintro e w2 ⟨rfl, hb2⟩
      have hbw2 := below_step hb1 hb2
      go_wp2_with fail
      rw [rounds_succ]
      go_wp2_with fail
      refine (of_kind n r _ _ HR.out HK.out (T.on hbw2)).mono ?_
      rintro e w3 ⟨rfl, hb3⟩
      have hbw3 := below_step hbw2 hb3
      go_wp2_with fail
      obtain ⟨w4, hw4⟩ : ∃ w4 : World, w3.alloc (.cells #[.string ⟨r.name.toArray⟩, .int .i64 1, .int .i64 r.low, .int .i64 r.high, .string ⟨(dfl r).toArray⟩, .bool r.noth, .bool r.lonly] 177) = w4 := ⟨_, rfl⟩
      obtain ⟨g, hg⟩ : ∃ g, w3.heap.size = g := ⟨_, rfl⟩
      have hB4 : Blk w4 g 177 #[.string ⟨r.name.toArray⟩, .int .i64 1, .int .i64 r.low, .int .i64 r.high, .string ⟨(dfl r).toArray⟩, .bool r.noth, .bool r.lonly] := by rw [← hw4, ← hg]; exact Blk.new w3 _ _
      have hbw4 : Below w.heap.size w w4 := by rw [← hw4]; exact below_step hbw3 ((Below.refl _ _).alloc (Nat.le_refl _) _)
      rw [hw4]
      try rw [hg]
      clear hw4 hg hb1 hb2 hb3 hbw2 hbw3
      refine (number_x a ha _ (E.on hbw4)).mono ?_
      rintro e w5 ⟨x, o, rfl, hx, hb5⟩
      have hbw5 := below_step hbw4 hb5
      have hB5 := hB4.below hb5 hB4.lt
      go_wp2_with fail
      refine (number_x b hb _ (E.on hbw5)).mono ?_
      rintro e w6 ⟨y, o2, rfl, hy, hb6⟩
      have hbw6 := below_step hbw5 hb6
      have hB6 := hB5.below hb6 hB5.lt
      have c1 := hB6.cell 1
      clear hb5 hb6 hB4 hB5 hbw4 hbw5
      go_wp2_with fail
      refine (yes_any _ _).mono ?_
      rintro e w7 ⟨rfl, hb7⟩
      go_wp2_with fail
      go_ret2
      exact ⟨rfl, below_step hbw6 hb7⟩
  · have HK := Lib.hid hK
    rw [if_neg (by omega), if_pos (by omega)]
    clear hK
    obtain ⟨p, p1, p2⟩ := yes_facts a
    obtain ⟨q, q1, q2⟩ := yes_facts b
    rw [p1, q1]
    clear p1 q1
    rcases p with _ | _ <;> rcases q with _ | _
    all_goals
      go_enter Tryz.func103, Tryz.ntmps103
      go_wp2_with fail
      refine wp_loop_rounds 3 ?_
      rw [rounds_succ]
      go_wp2_with fail
      refine (fits_good n a _ HF1.out ha T E hS).mono ?_
      rintro e w1 ⟨rfl, hb1⟩
      go_wp2_with fail
      rw [rounds_succ]
      go_wp2_with fail
      refine (fits_good n b _ HF2.out hb (T.on hb1) (E.on hb1) (shapedK hS hb1)).mono ?_
      rintro e w2 ⟨rfl, hb2⟩
      have hbw2 := below_step hb1 hb2
      go_wp2_with fail
      rw [rounds_succ]
      go_wp2_with fail
      refine (of_kind n r _ _ HR.out HK.out (T.on hbw2)).mono ?_
      rintro e w3 ⟨rfl, hb3⟩
      have hbw3 := below_step hbw2 hb3
      go_wp2_with fail
      obtain ⟨w4, hw4⟩ : ∃ w4 : World, w3.alloc (.cells #[.string ⟨r.name.toArray⟩, .int .i64 2, .int .i64 r.low, .int .i64 r.high, .string ⟨(dfl r).toArray⟩, .bool r.noth, .bool r.lonly] 177) = w4 := ⟨_, rfl⟩
      obtain ⟨g, hg⟩ : ∃ g, w3.heap.size = g := ⟨_, rfl⟩
      have hB4 : Blk w4 g 177 #[.string ⟨r.name.toArray⟩, .int .i64 2, .int .i64 r.low, .int .i64 r.high, .string ⟨(dfl r).toArray⟩, .bool r.noth, .bool r.lonly] := by rw [← hw4, ← hg]; exact Blk.new w3 _ _
      have hbw4 : Below w.heap.size w w4 := by rw [← hw4]; exact below_step hbw3 ((Below.refl _ _).alloc (Nat.le_refl _) _)
      rw [hw4]
      try rw [hg]
      clear hw4 hg hb1 hb2 hb3 hbw2 hbw3
      refine (number_x a ha _ (E.on hbw4)).mono ?_
      rintro e w5 ⟨x, o, rfl, hx, hb5⟩
      have hbw5 := below_step hbw4 hb5
      have hB5 := hB4.below hb5 hB4.lt
      go_wp2_with fail
      refine (number_x b hb _ (E.on hbw5)).mono ?_
      rintro e w6 ⟨y, o2, rfl, hy, hb6⟩
      have hbw6 := below_step hbw5 hb6
      have hB6 := hB5.below hb6 hB5.lt
      have c1 := hB6.cell 1
      clear hb5 hb6 hB4 hB5 hbw4 hbw5
      go_wp2_with fail
      refine (yes_any _ _).mono ?_
      rintro e w7 ⟨rfl, hb7⟩
      go_wp2_with fail
      go_ret2
      exact ⟨rfl, below_step hbw6 hb7⟩
  · have HK := Lib.hid hK
    rw [if_neg (by omega), if_neg (by omega), if_pos (by omega)]
    have hf := HE1.out
    have hf2 := HE2.out
    unfold fitsR at hf hf2
    rw [if_neg (by omega), if_pos (by omega)] at hf hf2
    obtain ⟨na, ea, a1, a2⟩ := numeralE_ok hf
    obtain ⟨nb, eb, b1, b2⟩ := numeralE_ok hf2
    have hhi := HK7.out.2.2.2.2.2.1
    have hm : min na nb < 1099511627776 := by omega
    have hmI : min (na : Int) (nb : Int) = ((min na nb : Nat) : Int) := by omega
    rw [ea, eb]
    simp only [Option.getD_some]
    have HEA := Lib.hid ea
    have HEB := Lib.hid eb
    have HMI := Lib.hid hmI
    clear hK hf hf2 ea eb a1 a2 b1 b2 hhi hmI
    go_enter Tryz.func103, Tryz.ntmps103
    go_wp2_with fail
    refine wp_loop_rounds 3 ?_
    rw [rounds_succ]
    go_wp2_with fail
    refine (fits_good n a _ HF1.out ha T E hS).mono ?_
    rintro e w1 ⟨rfl, hb1⟩
    go_wp2_with fail
    rw [rounds_succ]
    go_wp2_with fail
    refine (fits_good n b _ HF2.out hb (T.on hb1) (E.on hb1) (shapedK hS hb1)).mono ?_
    rintro e w2 ⟨rfl, hb2⟩
    have hbw2 := below_step hb1 hb2
    go_wp2_with fail
    rw [rounds_succ]
    go_wp2_with fail
    refine (of_kind n r _ _ HR.out HK.out (T.on hbw2)).mono ?_
    rintro e w3 ⟨rfl, hb3⟩
    have hbw3 := below_step hbw2 hb3
    go_wp2_with fail
    obtain ⟨w4, hw4⟩ : ∃ w4 : World, w3.alloc (.cells #[.string ⟨r.name.toArray⟩, .int .i64 3, .int .i64 r.low, .int .i64 r.high, .string ⟨(dfl r).toArray⟩, .bool r.noth, .bool r.lonly] 177) = w4 := ⟨_, rfl⟩
    obtain ⟨g, hg⟩ : ∃ g, w3.heap.size = g := ⟨_, rfl⟩
    have hB4 : Blk w4 g 177 #[.string ⟨r.name.toArray⟩, .int .i64 3, .int .i64 r.low, .int .i64 r.high, .string ⟨(dfl r).toArray⟩, .bool r.noth, .bool r.lonly] := by rw [← hw4, ← hg]; exact Blk.new w3 _ _
    have hbw4 : Below w.heap.size w w4 := by rw [← hw4]; exact below_step hbw3 ((Below.refl _ _).alloc (Nat.le_refl _) _)
    rw [hw4]
    try rw [hg]
    clear hw4 hg hb1 hb2 hb3 hbw2 hbw3
    refine (number_x a ha _ (E.on hbw4)).mono ?_
    rintro e w5 ⟨x, o, rfl, hx, hb5⟩
    have hbw5 := below_step hbw4 hb5
    have hB5 := hB4.below hb5 hB4.lt
    go_wp2_with fail
    refine (number_x b hb _ (E.on hbw5)).mono ?_
    rintro e w6 ⟨y, o2, rfl, hy, hb6⟩
    have hbw6 := below_step hbw5 hb6
    have hB6 := hB5.below hb6 hB5.lt
    have c1 := hB6.cell 1
    clear hb5 hb6 hB4 hB5 hbw4 hbw5
    obtain rfl := hx.out na HEA.out
    obtain rfl := hy.out nb HEB.out
    go_wp2_with fail
    rw [HMI.out]
    refine (itoaK (min na nb) hm _ (T.on hbw6)).mono ?_
    rintro e w7 ⟨rfl, hb7⟩
    go_wp2_with fail
    go_ret2
    exact ⟨rfl, below_step hbw6 hb7⟩
  · have HK := Lib.hid hK
    rw [if_neg (by omega), if_neg (by omega), if_neg (by omega), if_pos (by omega)]
    have hf := HE1.out
    have hf2 := HE2.out
    unfold fitsR at hf hf2
    rw [if_neg (by omega), if_pos (by omega)] at hf hf2
    obtain ⟨na, ea, a1, a2⟩ := numeralE_ok hf
    obtain ⟨nb, eb, b1, b2⟩ := numeralE_ok hf2
    have hhi := HK7.out.2.2.2.2.2.1
    have hm : max na nb < 1099511627776 := by omega
    have hmI : max (na : Int) (nb : Int) = ((max na nb : Nat) : Int) := by omega
    rw [ea, eb]
    simp only [Option.getD_some]
    have HEA := Lib.hid ea
    have HEB := Lib.hid eb
    have HMI := Lib.hid hmI
    clear hK hf hf2 ea eb a1 a2 b1 b2 hhi hmI
    go_enter Tryz.func103, Tryz.ntmps103
    go_wp2_with fail
    refine wp_loop_rounds 3 ?_
    rw [rounds_succ]
    go_wp2_with fail
    refine (fits_good n a _ HF1.out ha T E hS).mono ?_
    rintro e w1 ⟨rfl, hb1⟩
    go_wp2_with fail
    rw [rounds_succ]
    go_wp2_with fail
    refine (fits_good n b _ HF2.out hb (T.on hb1) (E.on hb1) (shapedK hS hb1)).mono ?_
    rintro e w2 ⟨rfl, hb2⟩
    have hbw2 := below_step hb1 hb2
    go_wp2_with fail
    rw [rounds_succ]
    go_wp2_with fail
    refine (of_kind n r _ _ HR.out HK.out (T.on hbw2)).mono ?_
    rintro e w3 ⟨rfl, hb3⟩
    have hbw3 := below_step hbw2 hb3
    go_wp2_with fail
    obtain ⟨w4, hw4⟩ : ∃ w4 : World, w3.alloc (.cells #[.string ⟨r.name.toArray⟩, .int .i64 4, .int .i64 r.low, .int .i64 r.high, .string ⟨(dfl r).toArray⟩, .bool r.noth, .bool r.lonly] 177) = w4 := ⟨_, rfl⟩
    obtain ⟨g, hg⟩ : ∃ g, w3.heap.size = g := ⟨_, rfl⟩
    have hB4 : Blk w4 g 177 #[.string ⟨r.name.toArray⟩, .int .i64 4, .int .i64 r.low, .int .i64 r.high, .string ⟨(dfl r).toArray⟩, .bool r.noth, .bool r.lonly] := by rw [← hw4, ← hg]; exact Blk.new w3 _ _
    have hbw4 : Below w.heap.size w w4 := by rw [← hw4]; exact below_step hbw3 ((Below.refl _ _).alloc (Nat.le_refl _) _)
    rw [hw4]
    try rw [hg]
    clear hw4 hg hb1 hb2 hb3 hbw2 hbw3
    refine (number_x a ha _ (E.on hbw4)).mono ?_
    rintro e w5 ⟨x, o, rfl, hx, hb5⟩
    have hbw5 := below_step hbw4 hb5
    have hB5 := hB4.below hb5 hB4.lt
    go_wp2_with fail
    refine (number_x b hb _ (E.on hbw5)).mono ?_
    rintro e w6 ⟨y, o2, rfl, hy, hb6⟩
    have hbw6 := below_step hbw5 hb6
    have hB6 := hB5.below hb6 hB5.lt
    have c1 := hB6.cell 1
    clear hb5 hb6 hB4 hB5 hbw4 hbw5
    obtain rfl := hx.out na HEA.out
    obtain rfl := hy.out nb HEB.out
    go_wp2_with fail
    rw [HMI.out]
    refine (itoaK (max na nb) hm _ (T.on hbw6)).mono ?_
    rintro e w7 ⟨rfl, hb7⟩
    go_wp2_with fail
    go_ret2
    exact ⟨rfl, below_step hbw6 hb7⟩
  · have HK := Lib.hid hK
    rw [if_neg (by omega), if_neg (by omega), if_neg (by omega), if_neg (by omega), if_pos (by omega)]
    have hf := HE1.out
    have hf2 := HE2.out
    unfold fitsR at hf hf2
    rw [if_neg (by omega), if_neg (by omega), if_pos (by omega)] at hf hf2
    obtain ⟨la, ea, hla⟩ : ∃ la, listP a.data.toList = some la ∧ splitC 44 a.data.toList = la := list_inv hf
    obtain ⟨lb, eb, hlb⟩ : ∃ lb, listP b.data.toList = some lb ∧ splitC 44 b.data.toList = lb := list_inv hf2
    have na := splitC_len 44 a.data.toList
    have nb := splitC_len 44 b.data.toList
    rw [len_of, hla] at na
    rw [len_of, hlb] at nb
    have naI : (la.length : Int) ≤ 1000001 := by omega
    have nbI : (lb.length : Int) ≤ 1000001 := by omega
    rw [hla, hlb]
    obtain ⟨Q, hQ⟩ : ∃ Q, firstBoth la lb = Q := ⟨_, rfl⟩
    rw [hQ]
    have HEA := Lib.hid ea
    have HEB := Lib.hid eb
    have HQ := Lib.hid hQ
    clear hK hf hf2 ea eb hla hlb na nb hQ
    go_enter Tryz.func103, Tryz.ntmps103
    go_wp2_with fail
    refine wp_loop_rounds 3 ?_
    rw [rounds_succ]
    go_wp2_with fail
    refine (fits_good n a _ HF1.out ha T E hS).mono ?_
    rintro e w1 ⟨rfl, hb1⟩
    go_wp2_with fail
    rw [rounds_succ]
    go_wp2_with fail
    refine (fits_good n b _ HF2.out hb (T.on hb1) (E.on hb1) (shapedK hS hb1)).mono ?_
    rintro e w2 ⟨rfl, hb2⟩
    have hbw2 := below_step hb1 hb2
    go_wp2_with fail
    rw [rounds_succ]
    go_wp2_with fail
    refine (of_kind n r _ _ HR.out HK.out (T.on hbw2)).mono ?_
    rintro e w3 ⟨rfl, hb3⟩
    have hbw3 := below_step hbw2 hb3
    go_wp2_with fail
    obtain ⟨w4, hw4⟩ : ∃ w4 : World, w3.alloc (.cells #[.string ⟨r.name.toArray⟩, .int .i64 5, .int .i64 r.low, .int .i64 r.high, .string ⟨(dfl r).toArray⟩, .bool r.noth, .bool r.lonly] 177) = w4 := ⟨_, rfl⟩
    obtain ⟨g, hg⟩ : ∃ g, w3.heap.size = g := ⟨_, rfl⟩
    have hB4 : Blk w4 g 177 #[.string ⟨r.name.toArray⟩, .int .i64 5, .int .i64 r.low, .int .i64 r.high, .string ⟨(dfl r).toArray⟩, .bool r.noth, .bool r.lonly] := by rw [← hw4, ← hg]; exact Blk.new w3 _ _
    have hbw4 : Below w.heap.size w w4 := by rw [← hw4]; exact below_step hbw3 ((Below.refl _ _).alloc (Nat.le_refl _) _)
    rw [hw4]
    try rw [hg]
    clear hw4 hg hb1 hb2 hb3 hbw2 hbw3
    refine (number_x a ha _ (E.on hbw4)).mono ?_
    rintro e w5 ⟨x, o, rfl, hx, hb5⟩
    have hbw5 := below_step hbw4 hb5
    have hB5 := hB4.below hb5 hB4.lt
    go_wp2_with fail
    refine (number_x b hb _ (E.on hbw5)).mono ?_
    rintro e w6 ⟨y, o2, rfl, hy, hb6⟩
    have hbw6 := below_step hbw5 hb6
    have hB6 := hB5.below hb6 hB5.lt
    have c1 := hB6.cell 1
    clear hb5 hb6 hB4 hB5 hbw4 hbw5
    go_wp2_with fail
    refine (list_ok b lb HEB.out _ hb (shapedK hS hbw6)).mono ?_
    rintro e w7 ⟨rfl, hL7, hb7⟩
    have hbw7 := below_step hbw6 hb7
    obtain ⟨g1, hg1⟩ : ∃ g1, w6.heap.size = g1 := ⟨_, rfl⟩
    rw [hg1] at hL7
    go_wp2_with fail
    try rw [hg1]
    clear hg1 hb7 c1 hB6
    refine (list_ok a la HEA.out _ ha (shapedK hS hbw7)).mono ?_
    rintro e w8 ⟨rfl, hL8, hb8⟩
    have hbw8 := below_step hbw7 hb8
    have hM8 := hL7.below hb8 hL7.lt
    obtain ⟨g2, hg2⟩ : ∃ g2, w7.heap.size = g2 := ⟨_, rfl⟩
    rw [hg2] at hL8
    go_wp2_with fail
    try rw [hg2]
    clear hg2 hb8 hL7 hbw7 hbw6
    go_loop [99] (fun i => ∃ k : Nat, k ≤ la.length ∧ i = .int .i64 k ∧ Hid (firstBoth (la.drop k) lb = Q)) (fun i => la.length - (intOf i).toNat)
    case atStart => exact ⟨0, Nat.zero_le _, rfl, Lib.hid HQ.out⟩
    case round =>
      obtain ⟨k, hk, rfl, hq⟩ := hrel
      by_cases hlt : k < la.length
      · obtain ⟨x1, hx1⟩ : ∃ x, la[k]? = some x := ⟨_, List.getElem?_eq_getElem hlt⟩
        obtain ⟨X, hX⟩ : ∃ X : ByteArray, (⟨x1.toArray⟩ : ByteArray) = X := ⟨_, rfl⟩
        have hXl : X.data.toList = x1 := by rw [← hX]
        have hc : w8.cell? ⟨g2, k, none⟩ = some (.string X) := by
          rw [hL8.cell k, List.getElem?_toArray, List.getElem?_map, hx1, ← hX]
          rfl
        have hdr : la.drop k = x1 :: la.drop (k + 1) := by rw [List.drop_eq_getElem_cons hlt, (List.getElem?_eq_some_iff.1 hx1).2]
        have hq0 := hq.out
        rw [hdr] at hq0
        have HQ0 := Lib.hid hq0
        have HXL := Lib.hid hXl
        clear hq hq0 hdr hX hXl hx1
        go_wp2_with fail
        clear hc
        go_loop [105] (fun i => ∃ j : Nat, j ≤ lb.length ∧ i = .int .i64 j ∧ Hid (x1 ∉ lb.take j)) (fun i => lb.length - (intOf i).toNat)
        case atStart => exact ⟨0, Nat.zero_le _, rfl, Lib.hid (by simp)⟩
        case round =>
          obtain ⟨j, hj, rfl, hno⟩ := hrel
          by_cases hlt2 : j < lb.length
          · obtain ⟨y1, hy1⟩ : ∃ x, lb[j]? = some x := ⟨_, List.getElem?_eq_getElem hlt2⟩
            obtain ⟨Y, hY⟩ : ∃ X : ByteArray, (⟨y1.toArray⟩ : ByteArray) = X := ⟨_, rfl⟩
            have hYl : Y.data.toList = y1 := by rw [← hY]
            have hc : w8.cell? ⟨g1, j, none⟩ = some (.string Y) := by
              rw [hM8.cell j, List.getElem?_toArray, List.getElem?_map, hy1, ← hY]
              rfl
            by_cases hxy : x1 = y1
            · have f1 : (X.toList == Y.toList) = true := by rw [toList_of, toList_of, HXL.out, hYl, hxy]; simp
              have hmem : x1 ∈ lb := by rw [hxy]; exact List.mem_of_getElem? hy1
              have hqs : Q = some x1 := by
                have := HQ0.out
                rw [firstBoth, if_pos hmem] at this
                exact this.symm
              subst hqs
              have HXY : X = Y := by rw [str_of X, str_of Y, HXL.out, hYl, hxy]
              subst HXY
              clear hY hYl hxy hmem hy1
              go_wp2_with fail
              go_ret2
              exact ⟨ret_eq (resV_inr X x1 HXL.out).symm, hbw8⟩
            · have f1 : (X.toList == Y.toList) = false := by rw [toList_of, toList_of, HXL.out, hYl]; simpa using hxy
              have hno2 : x1 ∉ lb.take (j + 1) := by
                rw [List.take_succ_eq_append_getElem hlt2, (List.getElem?_eq_some_iff.1 hy1).2]
                simp only [List.mem_append, List.mem_singleton, not_or]
                exact ⟨hno.out, hxy⟩
              have HNO := Lib.hid hno2
              have f2 : ¬ X = Y := by
                intro h
                rw [h] at HXL
                exact hxy (HXL.out.symm.trans hYl)
              clear hY hYl hxy hno2 hy1
              go_wp2_with fail
              go_round
              case rel => exact ⟨j + 1, by omega, by go_num, HNO⟩
              case measure => simp [intOf]; omega
          · have hj' : j = lb.length := by omega
            have hqn : firstBoth (la.drop (k + 1)) lb = Q := by
              have hn := hno.out
              rw [hj', List.take_length] at hn
              have := HQ0.out
              rw [firstBoth_skip hn] at this
              exact this
            have HQN := Lib.hid hqn
            clear hj' hqn
            go_wp2_with fail
            go_round
            case rel => exact ⟨k + 1, by omega, by go_num, HQN⟩
            case measure => simp [intOf]; omega
      · have hk' : k = la.length := by omega
        have hqn : Q = none := by
          have := hq.out
          rw [hk', List.drop_length] at this
          exact this.symm
        subst hqn
        clear hk' hq
        go_wp2_with fail
        go_ret2
        exact ⟨rfl, hbw8⟩
  · have HK := Lib.hid hK
    rw [if_neg (by omega), if_neg (by omega), if_neg (by omega), if_neg (by omega), if_neg (by omega)]
    clear hK
    go_enter Tryz.func103, Tryz.ntmps103
    go_wp2_with fail
    refine wp_loop_rounds 3 ?_
    rw [rounds_succ]
    go_wp2_with fail
    refine (fits_good n a _ HF1.out ha T E hS).mono ?_
    rintro e w1 ⟨rfl, hb1⟩
    go_wp2_with fail
    rw [rounds_succ]
    go_wp2_with fail
    refine (fits_good n b _ HF2.out hb (T.on hb1) (E.on hb1) (shapedK hS hb1)).mono ?_
    rintro e w2 ⟨rfl, hb2⟩
    have hbw2 := below_step hb1 hb2
    go_wp2_with fail
    rw [rounds_succ]
    go_wp2_with fail
    refine (of_kind n r _ _ HR.out HK.out (T.on hbw2)).mono ?_
    rintro e w3 ⟨rfl, hb3⟩
    have hbw3 := below_step hbw2 hb3
    go_wp2_with fail
    obtain ⟨w4, hw4⟩ : ∃ w4 : World, w3.alloc (.cells #[.string ⟨r.name.toArray⟩, .int .i64 6, .int .i64 r.low, .int .i64 r.high, .string ⟨(dfl r).toArray⟩, .bool r.noth, .bool r.lonly] 177) = w4 := ⟨_, rfl⟩
    obtain ⟨g, hg⟩ : ∃ g, w3.heap.size = g := ⟨_, rfl⟩
    have hB4 : Blk w4 g 177 #[.string ⟨r.name.toArray⟩, .int .i64 6, .int .i64 r.low, .int .i64 r.high, .string ⟨(dfl r).toArray⟩, .bool r.noth, .bool r.lonly] := by rw [← hw4, ← hg]; exact Blk.new w3 _ _
    have hbw4 : Below w.heap.size w w4 := by rw [← hw4]; exact below_step hbw3 ((Below.refl _ _).alloc (Nat.le_refl _) _)
    rw [hw4]
    try rw [hg]
    clear hw4 hg hb1 hb2 hb3 hbw2 hbw3
    refine (number_x a ha _ (E.on hbw4)).mono ?_
    rintro e w5 ⟨x, o, rfl, hx, hb5⟩
    have hbw5 := below_step hbw4 hb5
    have hB5 := hB4.below hb5 hB4.lt
    go_wp2_with fail
    refine (number_x b hb _ (E.on hbw5)).mono ?_
    rintro e w6 ⟨y, o2, rfl, hy, hb6⟩
    have hbw6 := below_step hbw5 hb6
    have hB6 := hB5.below hb6 hB5.lt
    have c1 := hB6.cell 1
    clear hb5 hb6 hB4 hB5 hbw4 hbw5
    go_wp2_with fail
    go_ret2
    exact ⟨ret_eq (resV_inr a _ rfl).symm, hbw6⟩
  · have HK := Lib.hid hK
    rw [if_neg (by omega), if_neg (by omega), if_neg (by omega), if_neg (by omega), if_neg (by omega)]
    clear hK
    go_enter Tryz.func103, Tryz.ntmps103
    go_wp2_with fail
    refine wp_loop_rounds 3 ?_
    rw [rounds_succ]
    go_wp2_with fail
    refine (fits_good n a _ HF1.out ha T E hS).mono ?_
    rintro e w1 ⟨rfl, hb1⟩
    go_wp2_with fail
    rw [rounds_succ]
    go_wp2_with fail
    refine (fits_good n b _ HF2.out hb (T.on hb1) (E.on hb1) (shapedK hS hb1)).mono ?_
    rintro e w2 ⟨rfl, hb2⟩
    have hbw2 := below_step hb1 hb2
    go_wp2_with fail
    rw [rounds_succ]
    go_wp2_with fail
    refine (of_kind n r _ _ HR.out HK.out (T.on hbw2)).mono ?_
    rintro e w3 ⟨rfl, hb3⟩
    have hbw3 := below_step hbw2 hb3
    go_wp2_with fail
    obtain ⟨w4, hw4⟩ : ∃ w4 : World, w3.alloc (.cells #[.string ⟨r.name.toArray⟩, .int .i64 7, .int .i64 r.low, .int .i64 r.high, .string ⟨(dfl r).toArray⟩, .bool r.noth, .bool r.lonly] 177) = w4 := ⟨_, rfl⟩
    obtain ⟨g, hg⟩ : ∃ g, w3.heap.size = g := ⟨_, rfl⟩
    have hB4 : Blk w4 g 177 #[.string ⟨r.name.toArray⟩, .int .i64 7, .int .i64 r.low, .int .i64 r.high, .string ⟨(dfl r).toArray⟩, .bool r.noth, .bool r.lonly] := by rw [← hw4, ← hg]; exact Blk.new w3 _ _
    have hbw4 : Below w.heap.size w w4 := by rw [← hw4]; exact below_step hbw3 ((Below.refl _ _).alloc (Nat.le_refl _) _)
    rw [hw4]
    try rw [hg]
    clear hw4 hg hb1 hb2 hb3 hbw2 hbw3
    refine (number_x a ha _ (E.on hbw4)).mono ?_
    rintro e w5 ⟨x, o, rfl, hx, hb5⟩
    have hbw5 := below_step hbw4 hb5
    have hB5 := hB4.below hb5 hB4.lt
    go_wp2_with fail
    refine (number_x b hb _ (E.on hbw5)).mono ?_
    rintro e w6 ⟨y, o2, rfl, hy, hb6⟩
    have hbw6 := below_step hbw5 hb6
    have hB6 := hB5.below hb6 hB5.lt
    have c1 := hB6.cell 1
    clear hb5 hb6 hB4 hB5 hbw4 hbw5
    go_wp2_with fail
    go_ret2
    exact ⟨ret_eq (resV_inr a _ rfl).symm, hbw6⟩
theorem result_any (n a b : ByteArray) (w : World) (ha : a.size ≤ 1000000) (hb : b.size ≤ 1000000) (T : Tabs w) (E : Errs w) (hS : w.ShapedOpen Tryz.prog) : Calls Tryz.prog 103 #[.string n, .string a, .string b] w fun e w' =>
    e = .returned (resV (resE n.data.toList a.data.toList b.data.toList)) ∧ Below w.heap.size w w' := by
  rcases hr : keyRow n.data.toList with _ | r
  · have h5 : fitsE n.data.toList a.data.toList = 5 := by unfold fitsE; rw [hr]
    refine (result_bad1 n a b 5 w h5 (by decide) ha hb T E hS).mono ?_
    rintro e w' ⟨rfl, hb'⟩
    unfold resE
    rw [hr]
    exact ⟨rfl, hb'⟩
  · have hra := row_fits (v := a.data.toList) hr
    have hrb := row_fits (v := b.data.toList) hr
    unfold resE
    rw [hr]
    simp only
    rw [← hra, ← hrb]
    by_cases h1 : fitsE n.data.toList a.data.toList = 0
    · rw [if_neg (by omega)]
      by_cases h2 : fitsE n.data.toList b.data.toList = 0
      · rw [if_neg (by omega)]
        exact result_good n a b r w hr h1 h2 ha hb T E hS
      · rw [if_pos h2]
        exact result_bad2 n a b _ w h1 rfl h2 ha hb T E hS
    · rw [if_pos h1]
      exact result_bad1 n a b _ w rfl h1 ha hb T E hS
end Go.Proofs.YtamlepacljjpiaaGreatDoor
