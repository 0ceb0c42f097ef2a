/- The contract of ahs.Read. -/
import Derived.Test.YtehellmpghfopaaGreatDoorAhsWrite
import Derived.Test.YtehellmpghfopaaGreatDoorFieldGet
import Derived.Test.YtehellmpghfopaaGreatDoorTell2
import Derived.Deep.RegionLaw
namespace Go.Proofs.YtehellmpghfopaaGreatDoor
open Go.ChangeShapes Go.WideShapes Go.ChangeAt Go.RowKit
set_option linter.unusedVariables false
theorem infoAhs : (Tryz.prog.info? 81).map (fun i => (i.zero, i.size, i.bytes)) = some (some (.agg #[.int .i64 0, .string ⟨#[]⟩]), 2, 24) := by kernel_rfl
def ARow (w : World) (base : Nat) (v : Value) (l : AhsL) : Prop := MRow w base 81 2 v l.length (ahsCells l)
theorem ahsCells_snoc (l : AhsL) (p : Int × ByteArray) : ahsCells (l ++ [p]) = ahsCells l ++ [.int .i64 p.1, .string p.2] := by simp [ahsCells]
theorem step_append_ahs (w : World) {ops : Array Oper} {o : Oper} {a : Act} {K : Act → World → Prop} {Q : Exit → Act → World → Prop} {E : Prop} (hgd : o.guard = none) (s x : Operand)
    (ho : o.op = .call { callee := .builtin .append, args := #[s, x], argTypes := #[25, 25] })
    (base : Nat) (v : Value) (l : AhsL) (hs : a.eval s = v) (hown : ARow w base v l)
    (ad : Addr) (p : Int × ByteArray) (c : Nat) (hx : a.eval x = .slice (some ad) 1 c) (h0 : w.cell? (ad.add 0) = some (.int .i64 p.1)) (h1 : w.cell? (ad.add 1) = some (.string p.2))
    (hlen : l.length ≤ 1000) (hbase : base ≤ w.heap.size) {w0 : World} (hbel : Below base w0 w)
    (h : ∀ v' w', ARow w' base v' (l ++ [p]) → Below base w0 w' → K (a.put o.dst v') w') : if Region.wanted o (yielded ops a.tmps) = true then Oper.wp Tryz.prog o a w K Q else E := by
  rw [if_pos (by simp [Region.wanted, hgd])]
  obtain ⟨i0, hi, hz0, hz1, hz2⟩ := info_parts infoAhs
  refine wp_append_m w s x _ ho base 81 i0 _ 2 24 Tryz.underlying25 hi hz0 hz1 hz2 rfl (by decide) v l.length _ hs hown ad 1 c [.int .i64 p.1, .string p.2] hx (by simp) ?_ ?_ (by unfold maxLen; omega) (by omega) hbase ?_
  · intro j u hu
    match j with
    | 0 => cases hu; exact h0
    | 1 => cases hu; exact h1
    | j + 2 => simp at hu
  · intro u hu
    simp at hu
    rcases hu with rfl | rfl <;> rfl
  · intro v' w' r1 r2 _
    refine h v' w' ?_ (hbel.grown r2 hbase fun k hk => (hown.lt k hk).1)
    unfold ARow
    rw [List.length_append, ahsCells_snoc]
    exact r1
def readGo : Nat → List UInt8 → Nat → (Nat × Nat) ⊕ AhsL
  | 0, _, _ => .inr []
  | f + 1, r, i =>
    if r.length = 0 then .inr [] else if r.length < 3 then .inl (7, i) else
    if unpadE r (3 + (getN (r.take 2) : Int)) ≠ 0 then .inl (unpadE r (3 + (getN (r.take 2) : Int)), i) else
    match readGo f (r.drop (unpadN r (3 + (getN (r.take 2) : Int))).toNat) (i + (unpadN r (3 + (getN (r.take 2) : Int))).toNat) with
    | .inl e => .inl e
    | .inr l => .inr ((((r.getD 2 0).toNat : Int), ⟨((r.take (3 + getN (r.take 2))).drop 3).toArray⟩) :: l)
/- what it is, beside what is there already -/
def rdAcc (acc : AhsL) : (Nat × Nat) ⊕ AhsL → (Nat × Nat) ⊕ AhsL
  | .inl e => .inl e
  | .inr l => .inr (acc ++ l)
def AhsRes (w : World) (base : Nat) (r er : Value) : (Nat × Nat) ⊕ AhsL → Prop
  | .inl e => r = .slice none 0 0 ∧ ErrAt w base er (some e)
  | .inr l => er = .nilIface ∧ ARow w base r l
theorem getN_lt2 (l : List UInt8) : getN (l.take 2) < 65536 := by
  have h1 := getN_lt (l.take 2)
  have h2 : 256 ^ (l.take 2).length ≤ 256 ^ 2 := Nat.pow_le_pow_right (by omega) (List.length_take_le _ _)
  omega
theorem take_take_drop (l : List UInt8) (k n : Nat) (h : l.length ≤ n) : (((l.drop k).take (n - k)).drop 0).take (2 - 0) = (l.drop k).take 2 := by
  rw [List.drop_zero, List.take_of_length_le (l := l.drop k) (by rw [List.length_drop]; omega)]
theorem unpad_ok (l : List UInt8) (n : Nat) (h : unpadE l (3 + n) = 0) : 3 + n + padI (3 + n) ≤ l.length := by
  unfold unpadE at h
  split at h
  · cases h
  · split at h
    · cases h
    · omega
theorem head_of (l : List UInt8) (n : Nat) (tt : ByteArray) (h : tt = ⟨(l.take (3 + n)).toArray⟩) (hz : tt.size = 3 + n) (h2 : 2 < tt.size) :
    (((l.getD 2 0).toNat : Int), (⟨((l.take (3 + n)).drop 3).toArray⟩ : ByteArray)) = ((tt[2].toNat : Int), tt.extract 3 tt.size) := by
  have hl : 3 + n ≤ l.length := by
    subst h
    rw [size_mkl, List.length_take] at hz
    omega
  have e1 : tt.extract 3 tt.size = ⟨((l.take (3 + n)).drop 3).toArray⟩ := by
    rw [ext_of, List.take_of_length_le (by rw [List.length_drop, len_of]; exact Nat.le_refl _), h]
  have e2 : l.getD 2 0 = tt[2] := by
    subst h
    have h2 : 2 < l.length := by omega
    show _ = ((List.take (3 + n) l).toArray[2]'(by simp; omega))
    simp [List.getElem_take, List.getElem?_eq_getElem h2]
  rw [e1, e2]
theorem byte_wrap (c : UInt8) : IntKind.i64.wrap (c.toNat : Int) = c.toNat := by
  have := c.toNat_lt
  rw [IntKind.wrap_i64]
  omega
theorem cell_lit0 (w : World) (t : TypeId) (a a' : Int) (u : Value) (h : a = a') : (w.alloc (.cells #[.int .i64 a, u] t)).cell? ((⟨w.heap.size, 0, none⟩ : Addr).add 0) = some (.int .i64 a') := by
  subst h
  rw [Addr.add_lit]
  exact (Blk.new w t _).cell 0
theorem cell_lit1 (w : World) (t : TypeId) (a u : Value) : (w.alloc (.cells #[a, u] t)).cell? ((⟨w.heap.size, 0, none⟩ : Addr).add 1) = some u := by
  rw [Addr.add_lit]
  exact (Blk.new w t _).cell 1
theorem rdAcc_rdAcc (a b : AhsL) (r : (Nat × Nat) ⊕ AhsL) : rdAcc a (rdAcc b r) = rdAcc (a ++ b) r := by
  cases r <;> simp [rdAcc]
theorem ahsRead_long (s : ByteArray) (w : World) (h : 1020 < s.size) (hs : s.size ≤ 140737488351232) : Calls Tryz.prog 41 #[.string s] w fun e w' =>
    e = .returned (.tuple #[.slice none 0 0, errv 4]) ∧ w = w' := by
  go_enter Tryz.func41, Tryz.ntmps41
  go_wp2_with fail
  go_ret2
  exact ⟨rfl, rfl⟩
set_option maxRecDepth 20000 in
set_option maxHeartbeats 2000000 in
theorem ahsRead_any (s : ByteArray) (w : World) (hL : LaidE w) (h : s.size ≤ 1020) : Calls Tryz.prog 41 #[.string s] w fun e w' =>
    ∃ r er, e = .returned (.tuple #[r, er]) ∧ AhsRes w' w.heap.size r er (readGo 1021 s.data.toList 0) ∧ Below w.heap.size w w' := by
  go_enter Tryz.func41, Tryz.ntmps41
  go_wp2_with fail
  go_loopw [4, 5] (fun o i wr => ∃ (k f : Nat) (acc : AhsL), k ≤ s.size ∧ s.size - k < f ∧ 3 * acc.length ≤ k ∧ i = .int .i64 k ∧ ARow wr w.heap.size o acc ∧ readGo 1021 s.data.toList 0 = rdAcc acc (readGo f (s.data.toList.drop k) k) ∧ Below w.heap.size w wr) (fun _ i _ => s.size - (intOf i).toNat)
  case atStart => exact ⟨0, 1021, [], Nat.zero_le _, by omega, by simp, rfl, MRow.nil _ _ _ _, by rw [List.drop_zero]; generalize readGo 1021 s.data.toList 0 = r; cases r <;> rfl, Below.refl _ _⟩
  case round =>
    obtain ⟨k, f, acc, hk, hf, hal, rfl, hrow, hgo, hbw⟩ := hrel
    have HG := Lib.hid hgo
    clear hgo
    have hs0 := hbw.size
    obtain ⟨f, rfl⟩ : ∃ f', f = f' + 1 := ⟨f - 1, by omega⟩
    have hdl : (s.data.toList.drop k).length = s.size - k := by simp
    have HD := Lib.hid hdl
    clear hdl
    by_cases hlt : k < s.size
    · by_cases h3 : s.size - k < 3
      · have hz : readGo (f + 1) (s.data.toList.drop k) k = .inl (7, k) := by
          rw [readGo, HD.out, if_neg (by omega), if_pos (by omega)]
        have HZ := Lib.hid hz
        clear hz
        go_wp2_with fail
        go_ret2
        refine ⟨_, _, rfl, ?_, hbw.alloc hs0 _⟩
        rw [HG.out, HZ.out]
        exact ⟨rfl, wr.heap.size, hs0, rfl, Blk.new _ _ _⟩
      · have hx2 : ((s.extract k s.size).extract 0 2).data.toList = (s.data.toList.drop k).take 2 := by
          rw [ext_of, ext_of]
          exact take_take_drop _ _ _ (by rw [len_of]; exact Nat.le_refl _)
        have hgl := getN_lt2 (s.data.toList.drop k)
        go_wp2_with fail
        refine (get_any _ _ (by rw [ByteArray.size_extract]; omega)).mono ?_
        rintro e w1 ⟨rfl, rfl⟩
        rw [hx2]
        obtain ⟨n, hn⟩ : ∃ n, getN ((s.data.toList.drop k).take 2) = n := ⟨_, rfl⟩
        rw [hn] at hgl ⊢
        go_wp2_with fail
        have hx1 : (s.extract k s.size).data.toList = s.data.toList.drop k := by
          rw [ext_of]
          exact List.take_of_length_le (by rw [List.length_drop, len_of]; exact Nat.le_refl _)
        refine (unpad_any _ _ _ (by rw [ByteArray.size_extract]; omega) (by omega)).mono ?_
        rintro e w1 ⟨rfl, nq, rfl⟩
        rw [hx1]
        have HX := Lib.hid hx1
        clear hx1
        by_cases hE : unpadE (s.data.toList.drop k) (3 + n) = 0
        · have hS : unpadS (s.data.toList.drop k) (3 + n) = (s.data.toList.drop k).take (3 + n) := by
            rw [unpadS, if_pos hE]; rfl
          have hN : unpadN (s.data.toList.drop k) (3 + n) = 3 + n + padI (3 + n) := by
            rw [unpadN, if_pos hE]
          have hle := unpad_ok _ _ hE
          rw [HD.out] at hle
          have hpr := padI_rng (3 + (n : Int))
          rw [hS, hN, hE, errv0]
          have hz : readGo (f + 1) (s.data.toList.drop k) k = rdAcc [((((s.data.toList.drop k).getD 2 0).toNat : Int), ⟨(((s.data.toList.drop k).take (3 + n)).drop 3).toArray⟩)] (readGo f (s.data.toList.drop (k + (3 + n + padI (3 + n)).toNat)) (k + (3 + n + padI (3 + n)).toNat)) := by
            rw [readGo, HD.out, if_neg (by omega), if_neg (by omega), hn, if_neg (by simp [hE]), hN, List.drop_drop]
            generalize readGo f _ _ = r
            cases r <;> rfl
          have HZ := Lib.hid hz
          clear hz hS hN hE
          obtain ⟨tt, htt⟩ : ∃ tt : ByteArray, tt = ⟨((s.data.toList.drop k).take (3 + n)).toArray⟩ := ⟨_, rfl⟩
          have htz : tt.size = 3 + n := by
            rw [htt, size_mkl, List.length_take, HD.out]; omega
          have htlo : 2 < tt.size := by omega
          have hthi : tt.size ≤ 1000000 := by omega
          have htli : (2 : Int) < tt.size := by omega
          have htl3 : (3 : Int) ≤ tt.size := by omega
          have hp1 : ((((s.data.toList.drop k).getD 2 0).toNat : Int), (⟨(((s.data.toList.drop k).take (3 + n)).drop 3).toArray⟩ : ByteArray)) = ((tt[2].toNat : Int), tt.extract 3 tt.size) := by
            exact head_of _ _ _ htt htz htlo
          rw [← htt]
          rw [hp1] at HZ
          have HT := Lib.hid htt
          clear htt hp1 htz
          go_wp2_with fail
          go_region_law (refine step_append_ahs _ rfl _ _ rfl w.heap.size _ acc rfl (by first | exact (MRow.drewN hrow _).alloc _ | exact ((MRow.drewN hrow _).alloc _).drew | exact ((MRow.drewN hrow _).alloc _).drewN _) ⟨wr.heap.size, 0, none⟩ ((tt[2].toNat : Int), tt.extract 3 tt.size) 1 rfl (cell_lit0 _ _ _ _ _ (byte_wrap _)) (cell_lit1 _ _ _ _) (by omega) (by simp; omega) (by first | exact (below_drewN hbw _).alloc hs0 _ | exact ((below_drewN hbw _).alloc hs0 _).drew | exact below_drewN ((below_drewN hbw _).alloc hs0 _) _) ?_; intro v1 w1 hB1 hb1)
          all_goals
            have HB1 := Lib.hid hB1
            clear hB1
            go_wp2
            go_roundw
            case rel =>
              refine ⟨k + (3 + (n : Int) + padI (3 + n)).toNat, f, acc ++ [((tt[2].toNat : Int), tt.extract 3 tt.size)], by omega, by omega, by rw [List.length_append, List.length_singleton]; omega, ?_, HB1.out, ?_, hb1⟩
              · congr 1; omega
              · rw [HG.out, HZ.out, rdAcc_rdAcc]
            case measure => simp [intOf]; omega
        · have hz : readGo (f + 1) (s.data.toList.drop k) k = .inl (unpadE (s.data.toList.drop k) (3 + n), k) := by
            rw [readGo, HD.out, if_neg (by omega), if_neg (by omega), hn, if_pos hE]
          have HZ := Lib.hid hz
          clear hz
          have hev : errv (unpadE (s.data.toList.drop k) (3 + n)) = .iface 43 (.int .i64 (unpadE (s.data.toList.drop k) (3 + n))) := by rw [errv, if_neg hE]
          have hT := (hL.on hbw).drewN nq
          go_wp2_with (rw [hev])
          refine (tell_errno _ _ hT).mono ?_
          rintro e w1 ⟨rfl, hb1⟩
          have hbw1 : Below w.heap.size w w1 := (below_drewN hbw nq).trans (hb1.mono hs0)
          go_wp2_with fail
          go_ret2
          refine ⟨_, _, rfl, ?_, hbw1.alloc hbw1.size _⟩
          rw [HG.out, HZ.out]
          exact ⟨rfl, w1.heap.size, hbw1.size, rfl, Blk.new _ _ _⟩
    · have hz : readGo (f + 1) (s.data.toList.drop k) k = .inr [] := by
        rw [readGo, HD.out, if_pos (by omega)]
      have HZ := Lib.hid hz
      clear hz
      go_wp2_with fail
      go_ret2
      refine ⟨_, _, rfl, ?_, hbw⟩
      rw [HG.out, HZ.out]
      exact ⟨rfl, by simpa using hrow⟩
end Go.Proofs.YtehellmpghfopaaGreatDoor
