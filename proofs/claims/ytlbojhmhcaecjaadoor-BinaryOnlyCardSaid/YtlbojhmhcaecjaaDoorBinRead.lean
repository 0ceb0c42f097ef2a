/- The contract of binary.Read, and the fact of values. -/
import Derived.Test.YtlbojhmhcaecjaaDoorUnbase
import Derived.Test.YtlbojhmhcaecjaaDoorBinPlain
import Derived.Test.YtlbojhmhcaecjaaDoorTellAt
namespace Go.Proofs.YtlbojhmhcaecjaaDoor
open Go.ChangeShapes Go.WideShapes Go.ChangeAt Go.RowKit
set_option linter.unusedVariables false
theorem unhexR_any (s : ByteArray) (w : World) (h2 : 2 ≤ s.size) (hs : s.size ≤ 70368744177664) : Calls Tryd.prog 64 #[.string s] w fun e w' =>
    ∃ r er, e = .returned (.tuple #[r, er]) ∧ BinOut w' w.heap.size r er (unhexR s.data.toList) ∧ Below w.heap.size w w' := by
  by_cases h : s.size % 2 ≠ 0
  · refine (unhex_bad s w h hs).mono ?_
    rintro e w' ⟨rfl, rfl⟩
    refine ⟨_, _, rfl, ?_, Below.refl _ _⟩
    rw [unhexR, len_of, if_pos h]
    exact ⟨rfl, rfl⟩
  · refine (unhex_any s w (by omega) h2 hs).mono ?_
    rintro e w' ⟨r, er, rfl, ho, hb⟩
    refine ⟨r, er, rfl, ?_, hb⟩
    rw [unhexR, len_of, if_neg h]
    exact ho
theorem unbaseR_any (s : ByteArray) (w : World) (hs : s.size ≤ 70368744177664) : Calls Tryd.prog 65 #[.string s] w fun e w' =>
    ∃ r er, e = .returned (.tuple #[r, er]) ∧ BinOut w' w.heap.size r er (unbaseR s.data.toList) ∧ Below w.heap.size w w' := by
  by_cases h : s.size % 4 ≠ 2
  · refine (unbase_bad s w h hs).mono ?_
    rintro e w' ⟨rfl, rfl⟩
    refine ⟨_, _, rfl, ?_, Below.refl _ _⟩
    rw [unbaseR, len_of, if_pos h]
    exact ⟨rfl, rfl⟩
  · refine (unbase_any s w (by omega) hs).mono ?_
    rintro e w' ⟨r, er, rfl, ho, hb⟩
    refine ⟨r, er, rfl, ?_, hb⟩
    rw [unbaseR, len_of, if_neg h]
    exact ho
theorem u8_eq_t {c : UInt8} (d : Nat) (di : Int) (hdi : (d : Int) = di) (hd : d < 256) (h : c = UInt8.ofNat d) : ((c.toNat : Int) == di) = true := by
  subst h hdi
  rw [beq_iff_eq, UInt8.toNat_ofNat']
  simp only [Nat.reducePow]
  omega
theorem u8_eq_f {c : UInt8} (d : Nat) (di : Int) (hdi : (d : Int) = di) (hd : d < 256) (h : c ≠ UInt8.ofNat d) : ((c.toNat : Int) == di) = false := by
  subst hdi
  rw [beq_eq_false_iff_ne]
  intro h2
  apply h
  rw [← UInt8.toNat_inj, UInt8.toNat_ofNat']
  simp only [Nat.reducePow]
  omega
theorem u8_ne_t {c : UInt8} (d : Nat) (di : Int) (hdi : (d : Int) = di) (hd : d < 256) (h : c ≠ UInt8.ofNat d) : ((c.toNat : Int) != di) = true := by
  rw [bne, u8_eq_f d di hdi hd h]; rfl
theorem u8_ne_f {c : UInt8} (d : Nat) (di : Int) (hdi : (d : Int) = di) (hd : d < 256) (h : c = UInt8.ofNat d) : ((c.toNat : Int) != di) = false := by
  rw [bne, u8_eq_t d di hdi hd h]; rfl
theorem getD_at (s : ByteArray) (j : Nat) (h : j < s.size) : s.data.toList.getD j 0 = s[j] := by
  rw [List.getD_eq_getElem?_getD, List.getElem?_eq_getElem (by rw [len_of]; exact h)]
  rfl
set_option maxHeartbeats 1000000 in
theorem read_any (s : ByteArray) (w : World) (hs : s.size ≤ 70368744177664) : Calls Tryd.prog 40 #[.string s] w fun e w' =>
    ∃ r er, e = .returned (.tuple #[r, er]) ∧ BinOut w' w.heap.size r er (readB s.data.toList) ∧ Below w.heap.size w w' := by
  by_cases h2 : s.size < 2
  · have hz : readB s.data.toList = .inl (3, none) := by rw [readB, len_of, if_pos (.inl h2)]
    have HZ := Lib.hid hz
    clear hz
    go_enter Tryd.func40, Tryd.ntmps40
    go_wp2_with fail
    go_ret2
    refine ⟨_, _, rfl, ?_, Below.refl _ _⟩
    rw [HZ.out]
    exact ⟨rfl, rfl⟩
  · have g0 := getD_at s 0 (by omega)
    have g1 := getD_at s 1 (by omega)
    by_cases h0 : s[0] ≠ UInt8.ofNat 48
    · have hz : readB s.data.toList = .inl (3, none) := by rw [readB, g0, if_pos (.inr h0)]
      have f0 := u8_ne_t 48 48 rfl (by omega) h0
      have HZ := Lib.hid hz
      clear hz g0 g1 h0
      go_enter Tryd.func40, Tryd.ntmps40
      go_wp2_with fail
      go_ret2
      refine ⟨_, _, rfl, ?_, Below.refl _ _⟩
      rw [HZ.out]
      exact ⟨rfl, rfl⟩
    · have h0 : s[0] = UInt8.ofNat 48 := by simpa using h0
      have f0 := u8_ne_f 48 48 rfl (by omega) h0
      have hz : readB s.data.toList = if s[1] = 120 ∨ s[1] = 88 then unhexR s.data.toList else if s[1] = 98 ∨ s[1] = 66 then unbaseR s.data.toList else .inl (3, none) := by
        rw [readB, len_of, g0, g1, if_neg (by rw [h0]; intro h; rcases h with h | h; · omega
                                              · exact h rfl)]
      have HZ := Lib.hid hz
      clear hz g0 g1 h0
      by_cases h3 : s[1] = UInt8.ofNat 120
      · have f1 := u8_eq_t 120 120 rfl (by omega) h3
        have hz : readB s.data.toList = unhexR s.data.toList := by rw [HZ.out, if_pos (.inl h3)]
        have HZ2 := Lib.hid hz
        clear hz h3
        go_enter Tryd.func40, Tryd.ntmps40
        go_wp2_with fail
        refine (unhexR_any s _ (by omega) hs).mono ?_
        rintro e w1 ⟨r, er, rfl, ho, hb⟩
        go_wp2_with fail
        go_ret2
        exact ⟨r, er, rfl, by rw [HZ2.out]; exact ho, hb⟩
      · have f1 := u8_eq_f 120 120 rfl (by omega) h3
        by_cases h4 : s[1] = UInt8.ofNat 88
        · have f2 := u8_eq_t 88 88 rfl (by omega) h4
          have hz : readB s.data.toList = unhexR s.data.toList := by rw [HZ.out, if_pos (.inr h4)]
          have HZ2 := Lib.hid hz
          clear hz h3 h4
          go_enter Tryd.func40, Tryd.ntmps40
          go_wp2_with fail
          refine (unhexR_any s _ (by omega) hs).mono ?_
          rintro e w1 ⟨r, er, rfl, ho, hb⟩
          go_wp2_with fail
          go_ret2
          exact ⟨r, er, rfl, by rw [HZ2.out]; exact ho, hb⟩
        · have f2 := u8_eq_f 88 88 rfl (by omega) h4
          by_cases h5 : s[1] = UInt8.ofNat 98
          · have f3 := u8_eq_t 98 98 rfl (by omega) h5
            have hz : readB s.data.toList = unbaseR s.data.toList := by rw [HZ.out, if_neg (by intro h; rcases h with h | h; exact h3 h; exact h4 h), if_pos (.inl h5)]
            have HZ2 := Lib.hid hz
            clear hz h3 h4 h5
            go_enter Tryd.func40, Tryd.ntmps40
            go_wp2_with fail
            refine (unbaseR_any s _ hs).mono ?_
            rintro e w1 ⟨r, er, rfl, ho, hb⟩
            go_wp2_with fail
            go_ret2
            exact ⟨r, er, rfl, by rw [HZ2.out]; exact ho, hb⟩
          · have f3 := u8_eq_f 98 98 rfl (by omega) h5
            by_cases h6 : s[1] = UInt8.ofNat 66
            · have f4 := u8_eq_t 66 66 rfl (by omega) h6
              have hz : readB s.data.toList = unbaseR s.data.toList := by rw [HZ.out, if_neg (by intro h; rcases h with h | h; exact h3 h; exact h4 h), if_pos (.inr h6)]
              have HZ2 := Lib.hid hz
              clear hz h3 h4 h5 h6
              go_enter Tryd.func40, Tryd.ntmps40
              go_wp2_with fail
              refine (unbaseR_any s _ hs).mono ?_
              rintro e w1 ⟨r, er, rfl, ho, hb⟩
              go_wp2_with fail
              go_ret2
              exact ⟨r, er, rfl, by rw [HZ2.out]; exact ho, hb⟩
            · have f4 := u8_eq_f 66 66 rfl (by omega) h6
              have hz : readB s.data.toList = .inl (3, none) := by
                rw [HZ.out, if_neg (by intro h; rcases h with h | h; exact h3 h; exact h4 h), if_neg (by intro h; rcases h with h | h; exact h5 h; exact h6 h)]
              have HZ2 := Lib.hid hz
              clear hz h3 h4 h5 h6
              go_enter Tryd.func40, Tryd.ntmps40
              go_wp2_with fail
              go_ret2
              refine ⟨_, _, rfl, ?_, Below.refl _ _⟩
              rw [HZ2.out]
              exact ⟨rfl, rfl⟩
theorem read_ok (s : ByteArray) (l : List UInt8) (w : World) (hs : s.size ≤ 70368744177664) (h : readB s.data.toList = .inr l) : Calls Tryd.prog 40 #[.string s] w fun e w' =>
    e = .returned (.tuple #[.string ⟨l.toArray⟩, .nilIface]) ∧ Below w.heap.size w w' := by
  refine (read_any s w hs).mono ?_
  rintro e w' ⟨r, er, rfl, ho, hb⟩
  rw [h] at ho
  obtain ⟨rfl, rfl⟩ := ho
  exact ⟨rfl, hb⟩
theorem read_at (s : ByteArray) (p : Nat) (w : World) (hs : s.size ≤ 70368744177664) (h : readB s.data.toList = .inl (3, some p)) : Calls Tryd.prog 40 #[.string s] w fun e w' =>
    ∃ g, e = .returned (.tuple #[.string ⟨#[]⟩, .iface 87 (.pointer (some ⟨g, 0, none⟩))]) ∧ Blk w' g 90 #[.int .i64 3, .int .i64 p] ∧ Below w.heap.size w w' := by
  refine (read_any s w hs).mono ?_
  rintro e w' ⟨r, er, rfl, ho, hb⟩
  rw [h] at ho
  obtain ⟨rfl, g, hg, rfl, hB⟩ := ho
  exact ⟨g, rfl, hB, hb⟩
theorem read_no (s : ByteArray) (k : Nat) (w : World) (hs : s.size ≤ 70368744177664) (h : readB s.data.toList = .inl (k, none)) : Calls Tryd.prog 40 #[.string s] w fun e w' =>
    e = .returned (.tuple #[.string ⟨#[]⟩, errv k]) ∧ Below w.heap.size w w' := by
  refine (read_any s w hs).mono ?_
  rintro e w' ⟨r, er, rfl, ho, hb⟩
  rw [h] at ho
  obtain ⟨rfl, rfl⟩ := ho
  exact ⟨rfl, hb⟩
theorem ext_tail (x y : UInt8) (r : List UInt8) (R : ByteArray) (h : R = ⟨(x :: y :: r).toArray⟩) : R.extract 2 R.size = ⟨r.toArray⟩ := by subst h; rw [ext_of]; simp
theorem ext_init (l : List UInt8) (R : ByteArray) (h : R = ⟨l.toArray⟩) : (R.extract 0 (R.size - 1)).data.toList = l.take (l.length - 1) := by subst h; rw [ext_of]; simp
theorem hexL_cons (l : List UInt8) : hexL l = 48 :: 120 :: hexB l := rfl
theorem b64L_cons (l : List UInt8) : b64L l = 48 :: 98 :: b64B l := rfl
theorem val1 : readB [48, 98, 84, 87, 69, 61] = .inr [77, 97] := by decide +kernel
theorem val2 : readB [48, 88, 97, 48, 70, 102] = .inr [160, 255] := by decide +kernel
theorem val3 : readB [48, 98, 84, 87, 70, 61] = .inl (3, some 4) := by decide +kernel
set_option maxRecDepth 20000 in
theorem valued_fact (w : World) (hL : LaidE w) : Calls Tryd.prog 26 #[] w fun e w' => e = .returned (.bool true) ∧ Below w.heap.size w w' := by
  go_enter Tryd.func26, Tryd.ntmps26
  go_wp2_with fail
  refine (read_ok _ [77, 97] _ (by decide) val1).mono ?_
  rintro e w1 ⟨rfl, hb1⟩
  go_wp2_with fail
  refine (read_ok _ [160, 255] _ (by decide) val2).mono ?_
  rintro e w2 ⟨rfl, hb2⟩
  have hbw2 := below_step hb1 hb2
  go_wp2_with fail
  refine (read_at _ 4 _ (by decide) val3).mono ?_
  rintro e w3 ⟨g, rfl, hB, hb3⟩
  have hbw3 := below_step hbw2 hb3
  have hL3 := hL.on hbw3
  go_wp2_with fail
  refine (tell_at g _ _ _ hL3 hB).mono ?_
  rintro e w4 ⟨rfl, hb4⟩
  have hbw4 := below_step hbw3 hb4
  go_wp2_with fail
  refine (hex_any _ _ (by decide)).mono ?_
  rintro e w5 ⟨rfl, hb5⟩
  have hbw5 := below_step hbw4 hb5
  rw [show hexL (ByteArray.mk #[160]).data.toList = [48, 120, 97, 48] from by decide +kernel]
  go_wp2_with fail
  go_ret
  exact ⟨rfl, hbw5⟩
end Go.Proofs.YtlbojhmhcaecjaaDoor
