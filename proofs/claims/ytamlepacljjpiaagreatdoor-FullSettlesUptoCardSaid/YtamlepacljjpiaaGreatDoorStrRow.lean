/- Rows of strings that the call itself made; gather.Split: its contract. -/
import Derived.Test.YtamlepacljjpiaaGreatDoorGbase
import Derived.Deep.RegionLaw
namespace Go.Proofs.YtamlepacljjpiaaGreatDoor
open Go.ChangeShapes Go.WideShapes Go.ChangeAt Go.RowKit
set_option linter.unusedVariables false
theorem infoStr : (Tryz.prog.info? 9).map (fun i => (i.zero, i.size, i.bytes)) = some (some (.string ⟨#[]⟩), 1, 16) := by kernel_rfl
def TRow (w : World) (base : Nat) (v : Value) (l : List ByteArray) : Prop := MRow w base 9 1 v l.length (l.map Value.string)
theorem wpList_append_str (w : World) {ops : Array Oper} {rest : List Oper} {o : Oper} {a : Act} {Q : Exit → Act → World → Prop} (hgd : o.guard = none) (s x : Operand)
    (ho : o.op = .call { callee := .builtin .append, args := #[s, x], argTypes := #[22, 22] })
    (base : Nat) (v : Value) (l : List ByteArray) (hs : a.eval s = v) (hown : TRow w base v l)
    (ad : Addr) (p : ByteArray) (c : Nat) (hx : a.eval x = .slice (some ad) 1 c) (h0 : w.cell? (ad.add 0) = some (.string p))
    (hlen : l.length ≤ 1000000) (hbase : base ≤ w.heap.size) {w0 : World} (hbel : Below base w0 w)
    (h : ∀ v' w', TRow w' base v' (l ++ [p]) → v' ≠ .slice none 0 0 → Below base w0 w' → w.grownBy w' v.ownBlock → wpList Tryz.prog ops Q rest (a.put o.dst v') w') : wpList Tryz.prog ops Q (o :: rest) a w := by
  obtain ⟨i0, hi, hz0, hz1, hz2⟩ := info_parts infoStr
  refine wpList_plain hgd fun _ hK => wp_append_m w s x _ ho base 9 i0 _ 1 16 Tryz.underlying22 hi hz0 hz1 hz2 rfl (by decide) v l.length _ hs hown ad 1 c [.string p] hx (by simp) ?_ ?_ (by unfold maxLen; omega) (by omega) hbase ?_
  · intro j u hu
    match j with
    | 0 => cases hu; exact h0
    | j + 1 => simp at hu
  · intro u hu
    simp at hu
    subst hu
    rfl
  · intro v' w' r1 r2 r3
    refine hK _ _ (h v' w' ?_ (fun e => absurd (r3 e) (by decide)) (hbel.grown r2 hbase fun k hk => (hown.lt k hk).1) r2)
    unfold TRow
    rw [List.length_append, List.map_append]
    exact r1
theorem step_append_str (w : World) {ops : Array Oper} {o : Oper} {a : Act} {K : Act → World → Prop} {Q : Exit → Act → World → Prop} {E : Prop} (hgd : o.guard = none) (s x : Operand)
    (ho : o.op = .call { callee := .builtin .append, args := #[s, x], argTypes := #[22, 22] })
    (base : Nat) (v : Value) (l : List ByteArray) (hs : a.eval s = v) (hown : TRow w base v l)
    (ad : Addr) (p : ByteArray) (c : Nat) (hx : a.eval x = .slice (some ad) 1 c) (h0 : w.cell? (ad.add 0) = some (.string p))
    (hlen : l.length ≤ 1000000) (hbase : base ≤ w.heap.size) {w0 : World} (hbel : Below base w0 w)
    (h : ∀ v' w', TRow w' base v' (l ++ [p]) → v' ≠ .slice none 0 0 → Below base w0 w' → w.grownBy w' v.ownBlock → K (a.put o.dst v') w') : if Region.wanted o (yielded ops a.tmps) = true then Oper.wp Tryz.prog o a w K Q else E := by
  rw [if_pos (by simp [Region.wanted, hgd])]
  obtain ⟨i0, hi, hz0, hz1, hz2⟩ := info_parts infoStr
  refine wp_append_m w s x _ ho base 9 i0 _ 1 16 Tryz.underlying22 hi hz0 hz1 hz2 rfl (by decide) v l.length _ hs hown ad 1 c [.string p] hx (by simp) ?_ ?_ (by unfold maxLen; omega) (by omega) hbase ?_
  · intro j u hu
    match j with
    | 0 => cases hu; exact h0
    | j + 1 => simp at hu
  · intro u hu
    simp at hu
    subst hu
    rfl
  · intro v' w' r1 r2 r3
    refine h v' w' ?_ (fun e => absurd (r3 e) (by decide)) (hbel.grown r2 hbase fun k hk => (hown.lt k hk).1) r2
    unfold TRow
    rw [List.length_append, List.map_append]
    exact r1
theorem tcell0 (w : World) (t : TypeId) (a : Value) : (w.alloc (.cells #[a] t)).cell? ((⟨w.heap.size, 0, none⟩ : Addr).add 0) = some a := by
  rw [Addr.add_lit]
  exact (Blk.new w t _).cell 0
section
variable {w w' : World} {base : Nat} {v : Value} {l : List ByteArray}
theorem TRow.alloc (h : TRow w base v l) (o : Obj) : TRow (w.alloc o) base v l := MRow.alloc h o
theorem TRow.drew (h : TRow w base v l) : TRow w.drew base v l := h
theorem TRow.drewN (h : TRow w base v l) (k : Nat) : TRow (w.drewN k) base v l := h
theorem TRow.below {B : Nat} (h : TRow w base v l) (hb : Below B w w') (hB : w.heap.size ≤ B) : TRow w' base v l := MRow.below h hb hB
theorem TRow.nil (w : World) (base : Nat) : TRow w base (.slice none 0 0) [] := MRow.nil w base _ _
end
def strSz : Value → Nat | .string s => s.size | _ => 0
def piecesN (s : ByteArray) (n k : Nat) : List ByteArray := (List.range k).map fun i => s.extract (i * n) ((i + 1) * n)
def cntN (s : ByteArray) (n : Nat) : Nat := max 1 ((s.size + n - 1) / n)
theorem piecesN_len (s : ByteArray) (n k : Nat) : (piecesN s n k).length = k := by simp [piecesN]
theorem piecesN_succ (s : ByteArray) (n k : Nat) : piecesN s n (k + 1) = piecesN s n k ++ [s.extract (k * n) ((k + 1) * n)] := by simp [piecesN, List.range_succ]
theorem ext_whole (s : ByteArray) : s.extract 0 s.size = s := by
  rw [ext_of, List.drop_zero, Nat.sub_zero, ← len_of s, List.take_length]
theorem ext_ext (s : ByteArray) (a b : Nat) (h : a ≤ s.size) : (s.extract a s.size).extract 0 b = s.extract a (a + b) := by
  rw [ext_of s a s.size, ext_of, ext_of]
  simp only [List.drop_zero, Nat.sub_zero, Nat.add_sub_cancel_left]
  rw [List.take_of_length_le (l := List.drop a s.data.toList) (by simp)]
theorem ext_ext2 (s : ByteArray) (a b : Nat) (h : a ≤ s.size) : (s.extract a s.size).extract b (s.size - a) = s.extract (a + b) s.size := by
  rw [ext_of s a s.size, ext_of, ext_of]
  rw [List.take_of_length_le (l := List.drop a s.data.toList) (by simp)]
  simp only [List.drop_drop]
  congr 3
  omega
theorem cnt_last (s : ByteArray) (n k : Nat) (hn : 1 ≤ n) (h1 : k = 0 ∨ k * n < s.size) (h2 : s.size ≤ (k + 1) * n) : cntN s n = k + 1 := by
  unfold cntN
  rcases Nat.eq_zero_or_pos s.size with h0 | h0
  · rcases h1 with rfl | h1
    · rw [h0]
      have : (0 + n - 1) / n = 0 := Nat.div_eq_of_lt (by omega)
      omega
    · omega
  · have e : (s.size + n - 1) / n = k + 1 := by
      rw [Nat.div_eq_iff (by omega)]
      have hk : k * n < s.size := by
        rcases h1 with rfl | h1
        · omega
        · exact h1
      have : (k + 1) * n = k * n + n := Nat.succ_mul _ _
      constructor
      · omega
      · have e2 : (k + 1 + 1) * n = k * n + n + n := by rw [Nat.succ_mul, Nat.succ_mul]
        omega
    omega
set_option maxHeartbeats 1000000 in
theorem split_any (s : ByteArray) (n : Nat) (w : World) (hs : s.size ≤ 1000000) (h1 : 1 ≤ n) (h2 : n ≤ 20000) : Calls Tryz.prog 84 #[.string s, .int .i64 n] w fun e w' =>
    ∃ v, e = .returned (.tuple #[v, .nilIface]) ∧ TRow w' w.heap.size v (piecesN s n (cntN s n)) ∧ Below w.heap.size w w' := by
  go_enter Tryz.func84, Tryz.ntmps84
  go_wp2_with fail
  go_loopw [0, 6] (fun t v wr => ∃ k : Nat, k ≤ s.size ∧ k * n ≤ s.size ∧ (k = 0 ∨ k * n < s.size) ∧ t = .string (s.extract (k * n) s.size) ∧ TRow wr w.heap.size v (piecesN s n k) ∧ Below w.heap.size w wr) (fun t _ _ => strSz t)
  case atStart => exact ⟨0, Nat.zero_le _, by omega, Or.inl rfl, by rw [Nat.zero_mul, ext_whole], TRow.nil _ _, Below.refl _ _⟩
  case round =>
    obtain ⟨k, hk, hkn, hk0, rfl, hrow, hbw⟩ := hrel
    have hs0 := hbw.size
    have hTz : (s.extract (k * n) s.size).size = s.size - k * n := by rw [ByteArray.size_extract]; omega
    have hx1 := ext_ext s (k * n) n hkn
    have hx2 := ext_ext2 s (k * n) n hkn
    have hsm : (k + 1) * n = k * n + n := Nat.succ_mul _ _
    rw [← hTz] at hx2
    obtain ⟨T, hT⟩ : ∃ T, s.extract (k * n) s.size = T := ⟨_, rfl⟩
    rw [hT] at hTz hx1 hx2
    rw [hT]
    have hpl := piecesN_len s n k
    by_cases hlt : n < T.size
    · have hk1 : k + 1 ≤ s.size := by
        have : k ≤ k * n := Nat.le_mul_of_pos_right _ h1
        omega
      have h10 := piecesN_succ s n k
      rw [hsm] at h10
      have hkn2 : (k + 1) * n < s.size := by omega
      have hms : T.size - n < T.size := by omega
      have hz3 : (s.extract (k * n + n) s.size).size = T.size - n := by rw [ByteArray.size_extract]; omega
      have HX1 := Lib.hid hx1
      have HX2 := Lib.hid hx2
      have HSM := Lib.hid hsm
      have HZ3 := Lib.hid hz3
      have H10 := Lib.hid h10
      have HKN := Lib.hid hkn2
      have HMS := Lib.hid hms
      have HPL := Lib.hid hpl
      have hTb : T.size ≤ 1000000 := by omega
      clear hx1 hx2 hsm hz3 h10 hT hTz hkn2 hms hkn hk0 hpl
      have hlp : (piecesN s n k).length ≤ 1000000 := by rw [HPL.out]; omega
      have hle : n ≤ T.size := by omega
      go_wp2_with fail
      go_region_law (refine step_append_str _ rfl _ _ rfl w.heap.size _ (piecesN s n k) rfl (by first | exact MRow.alloc hrow _ | exact (MRow.alloc hrow _).drew | exact MRow.alloc (MRow.drew hrow) _) ⟨wr.heap.size, 0, none⟩ (T.extract 0 n) 1 rfl (tcell0 _ _ _) hlp (by simp; omega) (by first | exact hbw.alloc hs0 _ | exact (hbw.alloc hs0 _).drew | exact hbw.drew.alloc hs0 _) ?_; intro v1 w1 hB1 hv1 hb1 hg1)
      all_goals
        have HB1 := Lib.hid hB1
        clear hB1 hg1 hv1
        go_wp2
        go_roundw
        case rel =>
          rw [HX1.out, ← H10.out] at HB1
          exact ⟨.string (T.extract n T.size), v1, _, _, _, _, _, _, _, _, _, _, _, _, _, ⟨k + 1, hk1, by have := HKN.out; omega, Or.inr HKN.out, by rw [HX2.out, HSM.out], HB1.out, hb1⟩, rfl⟩
        case measure => 
          show (T.extract n T.size).size < T.size
          rw [HX2.out, HZ3.out]; exact HMS.out
    · have hc := cnt_last s n k h1 (by omega) (by omega)
      have h10 := piecesN_succ s n k
      have he : s.extract (k * n) ((k + 1) * n) = T := by
        rw [← hT, ext_of, ext_of]
        congr 2
        rw [List.take_of_length_le (by rw [List.length_drop, len_of]; omega), List.take_of_length_le (by rw [List.length_drop, len_of]; omega)]
      have hlp : (piecesN s n k).length ≤ 1000000 := by rw [hpl]; omega
      have HC := Lib.hid hc
      have H10 := Lib.hid h10
      have HE := Lib.hid he
      have hTb : T.size ≤ 1000000 := by omega
      clear hx1 hx2 hsm h10 hT hTz hkn hk0 hpl hc he
      go_wp2_with (at_builtin; refine wpList_append_str _ rfl _ _ rfl w.heap.size _ (piecesN s n k) rfl (MRow.alloc hrow _) ⟨wr.heap.size, 0, none⟩ T 1 rfl (tcell0 _ _ _) hlp (by simp; omega) (w0 := w) (hbw.alloc hs0 _) ?_)
      intro v1 w1 hB1 hv1 hb1 hg1
      have HB1 := Lib.hid hB1
      clear hB1 hg1 hv1
      go_wp2_with fail
      go_ret2
      refine ⟨_, rfl, ?_, hb1⟩
      rw [HC.out, H10.out, HE.out]
      exact HB1.out
end Go.Proofs.YtamlepacljjpiaaGreatDoor
