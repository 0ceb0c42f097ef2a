/- The contracts of pairs.Key and pairs.Value. -/
import Derived.Test.YtifniblffjgfkaaGreatDoorShelfB
import Derived.Test.YtifniblffjgfkaaGreatDoorGbase
import Derived.Test.YtifniblffjgfkaaGreatDoorPairsP
import Derived.Test.YtifniblffjgfkaaGreatDoorShelf
namespace Go.Proofs.YtifniblffjgfkaaGreatDoor
open Go.ChangeShapes Go.WideShapes Go.ChangeAt Go.RowKit
set_option linter.unusedVariables false
theorem shaped_on {w w' : World} (h : w.ShapedOpen Tryz.prog) (hb : Below w.heap.size w w') : w'.ShapedOpen Tryz.prog :=
  h.keptBut (hb.frame (fun _ => False)) (fun _ h => h.elim)
theorem sign_at (s : ByteArray) (x : Int) (c : UInt8) (h : x = c.toNat) (w : World) : Calls Tryz.prog 102 #[.string s, .int .u8 x] w fun e w' => e = .returned (.int .i64 (Lib.indexByte s.data.toList c)) ∧ w = w' := by
  refine (Tryz.strings_IndexByte s x w).mono ?_
  rintro e w' ⟨rfl, rfl⟩
  refine ⟨?_, rfl⟩
  have : x.toNat.toUInt8 = c := by rw [h]; simp
  rw [this]
theorem pdrop_at (s : ByteArray) (k : Nat) (h : k < s.size) : s.data.toList.drop k = s[k] :: s.data.toList.drop (k + 1) := by
  rw [List.drop_eq_getElem_cons (by rw [len_of]; exact h)]; rfl
theorem keyGo_yes {c : UInt8} {r : List UInt8} {i : Nat} (h : greatB c = true ∨ (i ≠ 0 ∧ mayB c = true)) : keyGo (c :: r) i = keyGo r (i + 1) := by
  rw [keyGo, if_pos h]
theorem keyGo_no {c : UInt8} {r : List UInt8} {i : Nat} (h : ¬ (greatB c = true ∨ (i ≠ 0 ∧ mayB c = true))) : keyGo (c :: r) i = false := by
  rw [keyGo, if_neg h]
set_option maxHeartbeats 4000000 in
theorem key_any (s : ByteArray) (w : World) (hs : s.size ≤ 140737488351232) : Calls Tryz.prog 79 #[.string s] w fun e w' => e = .returned (.bool (keyB s.data.toList)) ∧ w = w' := by
  have hl := len_of s
  have htl := toList_of s
  have HL := Lib.hid hl
  have HTL := Lib.hid htl
  clear hl htl
  go_enter Tryz.func79, Tryz.ntmps79
  go_wp2_with fail
  go_loop [8] (fun i => ∃ k : Nat, k ≤ s.size ∧ i = .int .i64 k ∧ keyGo s.data.toList 0 = keyGo (s.data.toList.drop k) k) (fun i => s.size - (intOf i).toNat)
  case atStart => exact ⟨0, Nat.zero_le _, rfl, by rw [List.drop_zero]⟩
  case round =>
    obtain ⟨k, hk, rfl, hgo⟩ := hrel
    have HG := Lib.hid hgo
    clear hgo
    by_cases hlt : k < s.size
    · have hd := pdrop_at s k hlt
      have HD := Lib.hid hd
      clear hd
      obtain ⟨c, hc⟩ : ∃ c : UInt8, s[k] = c := ⟨_, rfl⟩
      have hcl := c.toNat_lt
      have hix : ∀ w, (Instr.index 9 (.string s) (.int .i64 (k : Int))).run Tryz.prog w = .ok (.int .u8 (c.toNat : Int)) w := by
        intro w
        have h := run_index_string (P := Tryz.prog) w 9 s .i64 (k : Int) Tryz.underlying9
        rw [dif_pos ⟨by omega, by omega⟩] at h
        rw [h]
        have e : s[(k : Int).toNat]'(by omega) = c := hc
        rw [e]
      rw [hc] at HD
      clear hc
      by_cases hgr : 65 ≤ c.toNat ∧ c.toNat ≤ 90
      · have hz : keyGo s.data.toList 0 = keyGo (s.data.toList.drop (k + 1)) (k + 1) := by
          rw [HG.out, HD.out, keyGo_yes (.inl (by simp [greatB, hgr]))]
        have HZ := Lib.hid hz
        clear hz
        obtain ⟨hg1, hg2⟩ := hgr
        go_wp2_with fail
        go_round
        case rel => exact ⟨k + 1, by omega, by go_num, HZ.out⟩
        case measure => simp [intOf]; omega
      · have hgf : greatB c = false := by simp [greatB]; omega
        have hgo2 : c.toNat < 65 ∨ 90 < c.toNat := by omega
        by_cases hk0 : k = 0
        · subst hk0
          have hz : keyB s.data.toList = false := by
            rw [keyB, HG.out, HD.out, keyGo_no (by rw [hgf]; simp)]; rfl
          have HZ := Lib.hid hz
          have hix0 : ∀ w, (Instr.index 9 (.string s) (.int .i64 0)).run Tryz.prog w = .ok (.int .u8 (c.toNat : Int)) w := hix
          clear hz hgf hgr hix
          rcases hgo2 with h1 | h1
          all_goals
            try have d90 : decide ((c.toNat : Int) ≤ 90) = false := decide_eq_false (by omega)
            try have d57 : decide ((c.toNat : Int) ≤ 57) = false := decide_eq_false (by omega)
            try have d122 : decide ((c.toNat : Int) ≤ 122) = false := decide_eq_false (by omega)
            go_wp2_with fail
            go_ret
            exact ⟨by rw [HZ.out]; rfl, rfl⟩
        · have f0 : ((k : Int) == 0) = false := beq_eq_false_iff_ne.2 (by omega)
          have hmay : mayB c = ((decide (97 ≤ c.toNat) && decide (c.toNat ≤ 122)) || ((decide (48 ≤ c.toNat) && decide (c.toNat ≤ 57)) || decide (0 ≤ Lib.indexByte signTab c))) := rfl
          by_cases hm : mayB c = true
          · have hz : keyGo s.data.toList 0 = keyGo (s.data.toList.drop (k + 1)) (k + 1) := by
              rw [HG.out, HD.out, keyGo_yes (.inr ⟨hk0, hm⟩)]
            have hcase : (97 ≤ c.toNat ∧ c.toNat ≤ 122) ∨ (48 ≤ c.toNat ∧ c.toNat ≤ 57) ∨ (0 ≤ Lib.indexByte signTab c ∧ (c.toNat < 48 ∨ (57 < c.toNat ∧ c.toNat < 65) ∨ (90 < c.toNat ∧ c.toNat < 97) ∨ 122 < c.toNat)) := by
              rw [hmay] at hm
              simp at hm
              omega
            have HZ := Lib.hid hz
            clear hz hgf hgr hgo2 hm hmay
            rcases hcase with ⟨h1, h2⟩ | ⟨h1, h2⟩ | ⟨h0, h1 | ⟨h1, h2⟩ | ⟨h1, h2⟩ | h1⟩
            · go_wp2_with fail
              go_round
              case rel => exact ⟨k + 1, by omega, by go_num, HZ.out⟩
              case measure => simp [intOf]; omega
            · go_wp2_with fail
              go_round
              case rel => exact ⟨k + 1, by omega, by go_num, HZ.out⟩
              case measure => simp [intOf]; omega
            all_goals
              try have d90 : decide ((c.toNat : Int) ≤ 90) = false := decide_eq_false (by omega)
              try have d57 : decide ((c.toNat : Int) ≤ 57) = false := decide_eq_false (by omega)
              try have d122 : decide ((c.toNat : Int) ≤ 122) = false := decide_eq_false (by omega)
              obtain ⟨j, hj⟩ : ∃ j, Lib.indexByte signTab c = j := ⟨_, rfl⟩
              rw [hj] at h0
              have HJ := Lib.hid hj
              clear hj
              go_wp2_with fail
              refine (sign_at _ _ c rfl _).mono ?_
              rintro e w1 ⟨rfl, rfl⟩
              rw [show (ByteArray.mk #[46, 45, 43, 64, 95]).data.toList = signTab from rfl, HJ.out]
              go_wp2_with fail
              go_round
              case rel => exact ⟨k + 1, by omega, by go_num, HZ.out⟩
              case measure => simp [intOf]; omega
          · have hz : keyB s.data.toList = false := by
              rw [keyB, HG.out, HD.out, keyGo_no (by rw [hgf]; simp [hm])]; rfl
            have hcase : Lib.indexByte signTab c < 0 ∧ (c.toNat < 48 ∨ (57 < c.toNat ∧ c.toNat < 65) ∨ (90 < c.toNat ∧ c.toNat < 97) ∨ 122 < c.toNat) := by
              rw [hmay] at hm
              simp at hm
              omega
            have HZ := Lib.hid hz
            clear hz hgf hgr hgo2 hm hmay
            rcases hcase with ⟨h0, h1 | ⟨h1, h2⟩ | ⟨h1, h2⟩ | h1⟩
            all_goals
              try have d90 : decide ((c.toNat : Int) ≤ 90) = false := decide_eq_false (by omega)
              try have d57 : decide ((c.toNat : Int) ≤ 57) = false := decide_eq_false (by omega)
              try have d122 : decide ((c.toNat : Int) ≤ 122) = false := decide_eq_false (by omega)
              obtain ⟨j, hj⟩ : ∃ j, Lib.indexByte signTab c = j := ⟨_, rfl⟩
              rw [hj] at h0
              have HJ := Lib.hid hj
              have fj : decide ((0 : Int) ≤ j) = false := decide_eq_false (by omega)
              clear hj
              go_wp2_with fail
              refine (sign_at _ _ c rfl _).mono ?_
              rintro e w1 ⟨rfl, rfl⟩
              rw [show (ByteArray.mk #[46, 45, 43, 64, 95]).data.toList = signTab from rfl, HJ.out]
              go_wp2_with fail
              go_ret
              exact ⟨by rw [HZ.out]; rfl, rfl⟩
    · have hz : keyGo s.data.toList 0 = true := by
        rw [HG.out, List.drop_eq_nil_of_le (by rw [HL.out]; omega), keyGo]
      by_cases he : s.data.toList = []
      · have hk : keyB s.data.toList = false := by rw [keyB, he]; rfl
        have e1 : s.toList = [] := by rw [HTL.out, he]
        have HK := Lib.hid hk
        clear hz he hk
        go_wp2_with fail
        go_ret
        exact ⟨by rw [HK.out]; first | rfl | (simp; done) | (simp; omega), rfl⟩
      · have hk : keyB s.data.toList = decide (s.size ≤ 63) := by
          rw [keyB, hz, HL.out]
          have : s.data.toList.isEmpty = false := by simpa using he
          rw [this]; rfl
        have e1 : s.toList.isEmpty = false := by rw [HTL.out]; simpa using he
        have e2 : (s.toList == []) = false := by rw [HTL.out]; simpa using he
        have e3 : (s.toList != []) = true := by rw [bne, e2]; rfl
        have HK := Lib.hid hk
        clear hz he hk
        by_cases h63 : s.size ≤ 63
        · go_wp2_with fail
          go_ret
          exact ⟨by rw [HK.out]; first | rfl | (simp; done) | (simp; omega), rfl⟩
        · go_wp2_with fail
          go_ret
          exact ⟨by rw [HK.out]; first | rfl | (simp; done) | (simp; omega), rfl⟩
set_option maxHeartbeats 2000000 in
theorem value_any (s : ByteArray) (w : World) (hs : s.size ≤ 140737488351232) : Calls Tryz.prog 80 #[.string s] w fun e w' => e = .returned (.bool (valB s.data.toList)) ∧ w = w' := by
  have hl := len_of s
  have HL := Lib.hid hl
  clear hl
  go_enter Tryz.func80, Tryz.ntmps80
  go_wp2_with fail
  go_loop [6] (fun i => ∃ k : Nat, k ≤ s.size ∧ i = .int .i64 k ∧ s.data.toList.all valC = (s.data.toList.drop k).all valC) (fun i => s.size - (intOf i).toNat)
  case atStart => exact ⟨0, Nat.zero_le _, rfl, by rw [List.drop_zero]⟩
  case round =>
    obtain ⟨k, hk, rfl, hgo⟩ := hrel
    have HG := Lib.hid hgo
    clear hgo
    by_cases hlt : k < s.size
    · have hd := pdrop_at s k hlt
      have HD := Lib.hid hd
      have hcl := s[k].toNat_lt
      clear hd
      by_cases h1 : s[k].toNat < 32
      · have hz : valB s.data.toList = false := by
          rw [valB, HG.out, HD.out, List.all_cons]
          have : valC s[k] = false := by simp [valC]; omega
          rw [this]; rfl
        have HZ := Lib.hid hz
        clear hz
        go_wp2_with fail
        go_ret
        exact ⟨by rw [HZ.out]; rfl, rfl⟩
      · by_cases h2 : 126 < s[k].toNat
        · have hz : valB s.data.toList = false := by
            rw [valB, HG.out, HD.out, List.all_cons]
            have : valC s[k] = false := by simp [valC]; omega
            rw [this]; rfl
          have HZ := Lib.hid hz
          clear hz
          go_wp2_with fail
          go_ret
          exact ⟨by rw [HZ.out]; rfl, rfl⟩
        · have hz : s.data.toList.all valC = (s.data.toList.drop (k + 1)).all valC := by
            rw [HG.out, HD.out, List.all_cons]
            have : valC s[k] = true := by simp [valC]; omega
            rw [this]; rfl
          have HZ := Lib.hid hz
          clear hz
          go_wp2_with fail
          go_round
          case rel => exact ⟨k + 1, by omega, by go_num, HZ.out⟩
          case measure => simp [intOf]; omega
    · have hz : s.data.toList.all valC = true := by
        rw [HG.out, List.drop_eq_nil_of_le (by rw [HL.out]; omega)]; rfl
      have hk : valB s.data.toList = decide (s.size ≤ 255) := by
        rw [valB, hz, HL.out]; rfl
      have HK := Lib.hid hk
      clear hz hk
      go_wp2_with fail
      go_ret
      exact ⟨by rw [HK.out]; first | rfl | (simp; done) | (simp; omega), rfl⟩
end Go.Proofs.YtifniblffjgfkaaGreatDoor
