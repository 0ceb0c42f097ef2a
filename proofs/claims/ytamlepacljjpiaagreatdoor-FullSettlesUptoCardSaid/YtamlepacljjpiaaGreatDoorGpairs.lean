/- PairsP PairsKey PairsRight PairsParse Builder PairsPrint Gather PairsFind PairRow PairsLaw. -/
import Derived.Lib.IndexMore
import Derived.Lib.IndexLaws
import Derived.Test.YtamlepacljjpiaaGreatDoorGbase
import Derived.Test.YtamlepacljjpiaaGreatDoorShelf
import Derived.Lib.Builder
import Derived.Lib.AppendStr
import Derived.Lib.AppendZeros
import Derived.Lib.SliceRun
/- Keys and values as text: plain functions. -/
namespace Go.Proofs.YtamlepacljjpiaaGreatDoor
set_option linter.unusedVariables false
def greatB (c : UInt8) : Bool := decide (65 ≤ c.toNat) && decide (c.toNat ≤ 90)
def signTab : List UInt8 := [46, 45, 43, 64, 95]
def mayB (c : UInt8) : Bool := (decide (97 ≤ c.toNat) && decide (c.toNat ≤ 122)) || ((decide (48 ≤ c.toNat) && decide (c.toNat ≤ 57)) || decide (0 ≤ Lib.indexByte signTab c))
def keyGo : List UInt8 → Nat → Bool
  | [], _ => true
  | c :: r, i => if greatB c = true ∨ (i ≠ 0 ∧ mayB c = true) then keyGo r (i + 1) else false
def keyB (l : List UInt8) : Bool := keyGo l 0 && (!l.isEmpty && decide (l.length ≤ 63))
def valC (c : UInt8) : Bool := decide (32 ≤ c.toNat) && decide (c.toNat ≤ 126)
def valB (l : List UInt8) : Bool := l.all valC && decide (l.length ≤ 255)
abbrev PairL := List (ByteArray × ByteArray)
def pRightGo : PairL → Nat → Option (Nat × Nat)
  | [], _ => none
  | p :: l, i => if keyB p.1.data.toList = false then some (5, i) else if valB p.2.data.toList = false then some (3, i) else pRightGo l (i + 1)
def pRightR (l : PairL) : Option (Nat × Option Nat) := if 60 < l.length then some (4, none) else (pRightGo l 0).map fun r => (r.1, some r.2)
def pairB (p : ByteArray × ByteArray) : List UInt8 := p.1.data.toList ++ [61] ++ p.2.data.toList ++ [0]
def pairsB (l : PairL) : List UInt8 := l.flatMap pairB
def right1 (k v : List UInt8) : Nat := if keyB k = false then 5 else if valB v = false then 3 else 0
def parseGo : Nat → List UInt8 → Nat → (Nat × Option Nat) ⊕ PairL
  | 0, _, _ => .inr []
  | f + 1, s, i =>
    if s.isEmpty = true then .inr [] else
    if (Lib.cut s [0]).2.2 = false then .inl (7, some i) else
    if (Lib.cut (Lib.cut s [0]).1 [61]).2.2 = false then .inl (3, some i) else
    if i = 60 then .inl (4, none) else
    if right1 (Lib.cut (Lib.cut s [0]).1 [61]).1 (Lib.cut (Lib.cut s [0]).1 [61]).2.1 ≠ 0 then .inl (right1 (Lib.cut (Lib.cut s [0]).1 [61]).1 (Lib.cut (Lib.cut s [0]).1 [61]).2.1, some i) else
    match parseGo f (Lib.cut s [0]).2.1 (i + 1) with
    | .inl e => .inl e
    | .inr l => .inr ((⟨(Lib.cut (Lib.cut s [0]).1 [61]).1.toArray⟩, ⟨(Lib.cut (Lib.cut s [0]).1 [61]).2.1.toArray⟩) :: l)
def pAcc (acc : PairL) : (Nat × Option Nat) ⊕ PairL → (Nat × Option Nat) ⊕ PairL
  | .inl e => .inl e
  | .inr l => .inr (acc ++ l)
theorem pAcc_pAcc (a b : PairL) (r : (Nat × Option Nat) ⊕ PairL) : pAcc a (pAcc b r) = pAcc (a ++ b) r := by
  cases r <;> simp [pAcc]
theorem index_one (s : List UInt8) (c : UInt8) : Lib.index s [c] = Lib.indexByte s c := Lib.index_one s c
theorem cut_no {s : List UInt8} {c : UInt8} (h : Lib.indexByte s c < 0) : Lib.cut s [c] = (s, [], false) := by
  unfold Lib.cut
  rw [index_one, if_neg (by omega)]
theorem cut_yes {s : List UInt8} {c : UInt8} {n : Nat} (h : Lib.indexByte s c = n) : Lib.cut s [c] = (s.take n, s.drop (n + 1), true) := by
  unfold Lib.cut
  rw [index_one, h, if_pos (by omega), Int.toNat_natCast]
  rfl
theorem indexByte_append (a b : List UInt8) (c : UInt8) (h : ∀ x ∈ a, x ≠ c) : Lib.indexByte (a ++ c :: b) c = a.length := by
  induction a with
  | nil => simp [Lib.indexByte]
  | cons x a ih =>
    have hx := h x (by simp)
    rw [List.cons_append]
    unfold Lib.indexByte
    rw [if_neg (by simpa using hx), ih (fun y hy => h y (by simp [hy])), if_neg (by simp <;> omega), List.length_cons]
    omega
theorem cut_append (a b : List UInt8) (c : UInt8) (h : ∀ x ∈ a, x ≠ c) : Lib.cut (a ++ c :: b) [c] = (a, b, true) := by
  rw [cut_yes (indexByte_append a b c h), List.take_left]
  congr 2
  rw [← List.drop_drop, List.drop_left]
  rfl
theorem indexByte_lt' : ∀ (l : List UInt8) (c : UInt8), Lib.indexByte l c < l.length
  | [], c => by simp [Lib.indexByte]
  | b :: l, c => by
    have ih := indexByte_lt' l c
    unfold Lib.indexByte
    rw [List.length_cons]
    split
    · omega
    · split <;> omega
theorem cut_len (s : List UInt8) (c : UInt8) : (Lib.cut s [c]).1.length ≤ s.length ∧ (Lib.cut s [c]).2.1.length ≤ s.length ∧ ((Lib.cut s [c]).2.2 = true → (Lib.cut s [c]).2.1.length < s.length) := by
  by_cases h : Lib.indexByte s c < 0
  · rw [cut_no h]; simp
  · obtain ⟨n, hn⟩ := Int.eq_ofNat_of_zero_le (show 0 ≤ Lib.indexByte s c by omega)
    have := indexByte_lt' s c
    rw [cut_yes hn]
    simp only [List.length_take, List.length_drop]
    omega
end Go.Proofs.YtamlepacljjpiaaGreatDoor

/- The contracts of pairs.Key and pairs.Value. -/
namespace Go.Proofs.YtamlepacljjpiaaGreatDoor
open Go.ChangeShapes Go.WideShapes Go.ChangeAt Go.RowKit
set_option linter.unusedVariables false
theorem shaped_on {w w' : World} (h : w.ShapedOpen Tryz.prog) (hb : Below w.heap.size w w') : w'.ShapedOpen Tryz.prog :=
  h.keptBut (hb.frame (fun _ => False)) (fun _ h => h.elim)
theorem sign_at (s : ByteArray) (x : Int) (c : UInt8) (h : x = c.toNat) (w : World) : Calls Tryz.prog 95 #[.string s, .int .u8 x] w fun e w' => e = .returned (.int .i64 (Lib.indexByte s.data.toList c)) ∧ w = w' := by
  refine (Tryz.strings_IndexByte s x w).mono ?_
  rintro e w' ⟨rfl, rfl⟩
  refine ⟨?_, rfl⟩
  have : x.toNat.toUInt8 = c := by rw [h]; simp
  rw [this]
theorem pdrop_at (s : ByteArray) (k : Nat) (h : k < s.size) : s.data.toList.drop k = s[k] :: s.data.toList.drop (k + 1) := by
  rw [List.drop_eq_getElem_cons (by rw [len_of]; exact h)]; rfl
theorem keyGo_yes {c : UInt8} {r : List UInt8} {i : Nat} (h : greatB c = true ∨ (i ≠ 0 ∧ mayB c = true)) : keyGo (c :: r) i = keyGo r (i + 1) := by
  rw [keyGo, if_pos h]
theorem keyGo_no {c : UInt8} {r : List UInt8} {i : Nat} (h : ¬ (greatB c = true ∨ (i ≠ 0 ∧ mayB c = true))) : keyGo (c :: r) i = false := by
  rw [keyGo, if_neg h]
set_option maxHeartbeats 4000000 in
theorem key_any (s : ByteArray) (w : World) (hs : s.size ≤ 140737488351232) : Calls Tryz.prog 63 #[.string s] w fun e w' => e = .returned (.bool (keyB s.data.toList)) ∧ w = w' := by
  have hl := len_of s
  have htl := toList_of s
  have HL := Lib.hid hl
  have HTL := Lib.hid htl
  clear hl htl
  go_enter Tryz.func63, Tryz.ntmps63
  go_wp2_with fail
  go_loop [8] (fun i => ∃ k : Nat, k ≤ s.size ∧ i = .int .i64 k ∧ keyGo s.data.toList 0 = keyGo (s.data.toList.drop k) k) (fun i => s.size - (intOf i).toNat)
  case atStart => exact ⟨0, Nat.zero_le _, rfl, by rw [List.drop_zero]⟩
  case round =>
    obtain ⟨k, hk, rfl, hgo⟩ := hrel
    have HG := Lib.hid hgo
    clear hgo
    by_cases hlt : k < s.size
    · have hd := pdrop_at s k hlt
      have HD := Lib.hid hd
      clear hd
      obtain ⟨c, hc⟩ : ∃ c : UInt8, s[k] = c := ⟨_, rfl⟩
      have hcl := c.toNat_lt
      have hix : ∀ w, (Instr.index 9 (.string s) (.int .i64 (k : Int))).run Tryz.prog w = .ok (.int .u8 (c.toNat : Int)) w := by
        intro w
        have h := run_index_string (P := Tryz.prog) w 9 s .i64 (k : Int) Tryz.underlying9
        rw [dif_pos ⟨by omega, by omega⟩] at h
        rw [h]
        have e : s[(k : Int).toNat]'(by omega) = c := hc
        rw [e]
      rw [hc] at HD
      clear hc
      by_cases hgr : 65 ≤ c.toNat ∧ c.toNat ≤ 90
      · have hz : keyGo s.data.toList 0 = keyGo (s.data.toList.drop (k + 1)) (k + 1) := by
          rw [HG.out, HD.out, keyGo_yes (.inl (by simp [greatB, hgr]))]
        have HZ := Lib.hid hz
        clear hz
        obtain ⟨hg1, hg2⟩ := hgr
        go_wp2_with fail
        go_round
        case rel => exact ⟨k + 1, by omega, by go_num, HZ.out⟩
        case measure => simp [intOf]; omega
      · have hgf : greatB c = false := by simp [greatB]; omega
        have hgo2 : c.toNat < 65 ∨ 90 < c.toNat := by omega
        by_cases hk0 : k = 0
        · subst hk0
          have hz : keyB s.data.toList = false := by
            rw [keyB, HG.out, HD.out, keyGo_no (by rw [hgf]; simp)]; rfl
          have HZ := Lib.hid hz
          have hix0 : ∀ w, (Instr.index 9 (.string s) (.int .i64 0)).run Tryz.prog w = .ok (.int .u8 (c.toNat : Int)) w := hix
          clear hz hgf hgr hix
          rcases hgo2 with h1 | h1
          all_goals
            try have d90 : decide ((c.toNat : Int) ≤ 90) = false := decide_eq_false (by omega)
            try have d57 : decide ((c.toNat : Int) ≤ 57) = false := decide_eq_false (by omega)
            try have d122 : decide ((c.toNat : Int) ≤ 122) = false := decide_eq_false (by omega)
            go_wp2_with fail
            go_ret
            exact ⟨by rw [HZ.out]; rfl, rfl⟩
        · have f0 : ((k : Int) == 0) = false := beq_eq_false_iff_ne.2 (by omega)
          have hmay : mayB c = ((decide (97 ≤ c.toNat) && decide (c.toNat ≤ 122)) || ((decide (48 ≤ c.toNat) && decide (c.toNat ≤ 57)) || decide (0 ≤ Lib.indexByte signTab c))) := rfl
          by_cases hm : mayB c = true
          · have hz : keyGo s.data.toList 0 = keyGo (s.data.toList.drop (k + 1)) (k + 1) := by
              rw [HG.out, HD.out, keyGo_yes (.inr ⟨hk0, hm⟩)]
            have hcase : (97 ≤ c.toNat ∧ c.toNat ≤ 122) ∨ (48 ≤ c.toNat ∧ c.toNat ≤ 57) ∨ (0 ≤ Lib.indexByte signTab c ∧ (c.toNat < 48 ∨ (57 < c.toNat ∧ c.toNat < 65) ∨ (90 < c.toNat ∧ c.toNat < 97) ∨ 122 < c.toNat)) := by
              rw [hmay] at hm
              simp at hm
              omega
            have HZ := Lib.hid hz
            clear hz hgf hgr hgo2 hm hmay
            rcases hcase with ⟨h1, h2⟩ | ⟨h1, h2⟩ | ⟨h0, h1 | ⟨h1, h2⟩ | ⟨h1, h2⟩ | h1⟩
            · go_wp2_with fail
              go_round
              case rel => exact ⟨k + 1, by omega, by go_num, HZ.out⟩
              case measure => simp [intOf]; omega
            · go_wp2_with fail
              go_round
              case rel => exact ⟨k + 1, by omega, by go_num, HZ.out⟩
              case measure => simp [intOf]; omega
            all_goals
              try have d90 : decide ((c.toNat : Int) ≤ 90) = false := decide_eq_false (by omega)
              try have d57 : decide ((c.toNat : Int) ≤ 57) = false := decide_eq_false (by omega)
              try have d122 : decide ((c.toNat : Int) ≤ 122) = false := decide_eq_false (by omega)
              obtain ⟨j, hj⟩ : ∃ j, Lib.indexByte signTab c = j := ⟨_, rfl⟩
              rw [hj] at h0
              have HJ := Lib.hid hj
              clear hj
              go_wp2_with fail
              refine (sign_at _ _ c rfl _).mono ?_
              rintro e w1 ⟨rfl, rfl⟩
              rw [show (ByteArray.mk #[46, 45, 43, 64, 95]).data.toList = signTab from rfl, HJ.out]
              go_wp2_with fail
              go_round
              case rel => exact ⟨k + 1, by omega, by go_num, HZ.out⟩
              case measure => simp [intOf]; omega
          · have hz : keyB s.data.toList = false := by
              rw [keyB, HG.out, HD.out, keyGo_no (by rw [hgf]; simp [hm])]; rfl
            have hcase : Lib.indexByte signTab c < 0 ∧ (c.toNat < 48 ∨ (57 < c.toNat ∧ c.toNat < 65) ∨ (90 < c.toNat ∧ c.toNat < 97) ∨ 122 < c.toNat) := by
              rw [hmay] at hm
              simp at hm
              omega
            have HZ := Lib.hid hz
            clear hz hgf hgr hgo2 hm hmay
            rcases hcase with ⟨h0, h1 | ⟨h1, h2⟩ | ⟨h1, h2⟩ | h1⟩
            all_goals
              try have d90 : decide ((c.toNat : Int) ≤ 90) = false := decide_eq_false (by omega)
              try have d57 : decide ((c.toNat : Int) ≤ 57) = false := decide_eq_false (by omega)
              try have d122 : decide ((c.toNat : Int) ≤ 122) = false := decide_eq_false (by omega)
              obtain ⟨j, hj⟩ : ∃ j, Lib.indexByte signTab c = j := ⟨_, rfl⟩
              rw [hj] at h0
              have HJ := Lib.hid hj
              have fj : decide ((0 : Int) ≤ j) = false := decide_eq_false (by omega)
              clear hj
              go_wp2_with fail
              refine (sign_at _ _ c rfl _).mono ?_
              rintro e w1 ⟨rfl, rfl⟩
              rw [show (ByteArray.mk #[46, 45, 43, 64, 95]).data.toList = signTab from rfl, HJ.out]
              go_wp2_with fail
              go_ret
              exact ⟨by rw [HZ.out]; rfl, rfl⟩
    · have hz : keyGo s.data.toList 0 = true := by
        rw [HG.out, List.drop_eq_nil_of_le (by rw [HL.out]; omega), keyGo]
      by_cases he : s.data.toList = []
      · have hk : keyB s.data.toList = false := by rw [keyB, he]; rfl
        have e1 : s.toList = [] := by rw [HTL.out, he]
        have HK := Lib.hid hk
        clear hz he hk
        go_wp2_with fail
        go_ret
        exact ⟨by rw [HK.out]; first | rfl | (simp; done) | (simp; omega), rfl⟩
      · have hk : keyB s.data.toList = decide (s.size ≤ 63) := by
          rw [keyB, hz, HL.out]
          have : s.data.toList.isEmpty = false := by simpa using he
          rw [this]; rfl
        have e1 : s.toList.isEmpty = false := by rw [HTL.out]; simpa using he
        have e2 : (s.toList == []) = false := by rw [HTL.out]; simpa using he
        have e3 : (s.toList != []) = true := by rw [bne, e2]; rfl
        have HK := Lib.hid hk
        clear hz he hk
        by_cases h63 : s.size ≤ 63
        · go_wp2_with fail
          go_ret
          exact ⟨by rw [HK.out]; first | rfl | (simp; done) | (simp; omega), rfl⟩
        · go_wp2_with fail
          go_ret
          exact ⟨by rw [HK.out]; first | rfl | (simp; done) | (simp; omega), rfl⟩
set_option maxHeartbeats 2000000 in
theorem value_any (s : ByteArray) (w : World) (hs : s.size ≤ 140737488351232) : Calls Tryz.prog 33 #[.string s] w fun e w' => e = .returned (.bool (valB s.data.toList)) ∧ w = w' := by
  have hl := len_of s
  have HL := Lib.hid hl
  clear hl
  go_enter Tryz.func33, Tryz.ntmps33
  go_wp2_with fail
  go_loop [6] (fun i => ∃ k : Nat, k ≤ s.size ∧ i = .int .i64 k ∧ s.data.toList.all valC = (s.data.toList.drop k).all valC) (fun i => s.size - (intOf i).toNat)
  case atStart => exact ⟨0, Nat.zero_le _, rfl, by rw [List.drop_zero]⟩
  case round =>
    obtain ⟨k, hk, rfl, hgo⟩ := hrel
    have HG := Lib.hid hgo
    clear hgo
    by_cases hlt : k < s.size
    · have hd := pdrop_at s k hlt
      have HD := Lib.hid hd
      have hcl := s[k].toNat_lt
      clear hd
      by_cases h1 : s[k].toNat < 32
      · have hz : valB s.data.toList = false := by
          rw [valB, HG.out, HD.out, List.all_cons]
          have : valC s[k] = false := by simp [valC]; omega
          rw [this]; rfl
        have HZ := Lib.hid hz
        clear hz
        go_wp2_with fail
        go_ret
        exact ⟨by rw [HZ.out]; rfl, rfl⟩
      · by_cases h2 : 126 < s[k].toNat
        · have hz : valB s.data.toList = false := by
            rw [valB, HG.out, HD.out, List.all_cons]
            have : valC s[k] = false := by simp [valC]; omega
            rw [this]; rfl
          have HZ := Lib.hid hz
          clear hz
          go_wp2_with fail
          go_ret
          exact ⟨by rw [HZ.out]; rfl, rfl⟩
        · have hz : s.data.toList.all valC = (s.data.toList.drop (k + 1)).all valC := by
            rw [HG.out, HD.out, List.all_cons]
            have : valC s[k] = true := by simp [valC]; omega
            rw [this]; rfl
          have HZ := Lib.hid hz
          clear hz
          go_wp2_with fail
          go_round
          case rel => exact ⟨k + 1, by omega, by go_num, HZ.out⟩
          case measure => simp [intOf]; omega
    · have hz : s.data.toList.all valC = true := by
        rw [HG.out, List.drop_eq_nil_of_le (by rw [HL.out]; omega)]; rfl
      have hk : valB s.data.toList = decide (s.size ≤ 255) := by
        rw [valB, hz, HL.out]; rfl
      have HK := Lib.hid hk
      clear hz hk
      go_wp2_with fail
      go_ret
      exact ⟨by rw [HK.out]; first | rfl | (simp; done) | (simp; omega), rfl⟩
end Go.Proofs.YtamlepacljjpiaaGreatDoor

/- The contract of pairs.Right. -/
namespace Go.Proofs.YtamlepacljjpiaaGreatDoor
open Go.ChangeShapes Go.WideShapes Go.ChangeAt Go.RowKit
set_option linter.unusedVariables false
def pairCells (l : PairL) : List Value := l.flatMap fun p => [.string p.1, .string p.2]
theorem pairCells_len (l : PairL) : (pairCells l).length = 2 * l.length := by
  induction l with
  | nil => rfl
  | cons p l ih => simp only [pairCells, List.flatMap_cons, List.length_append, List.length_cons, List.length_nil] at ih ⊢; omega
theorem pairCells_at (l : PairL) (k : Nat) (p : ByteArray × ByteArray) (h : l[k]? = some p) : (pairCells l)[2 * k]? = some (.string p.1) ∧ (pairCells l)[2 * k + 1]? = some (.string p.2) := by
  induction l generalizing k with
  | nil => simp at h
  | cons q l ih =>
    cases k with
    | zero =>
      simp at h
      subst h
      exact ⟨rfl, rfl⟩
    | succ k =>
      have := ih k (by simpa using h)
      exact this
theorem pairCells_snoc (l : PairL) (p : ByteArray × ByteArray) : pairCells (l ++ [p]) = pairCells l ++ [.string p.1, .string p.2] := by simp [pairCells]
theorem pairCells_append (a b : PairL) : pairCells (a ++ b) = pairCells a ++ pairCells b := by simp [pairCells]
/- An error, or nil: an Errno alone, or one at a place. -/
def PErr (w : World) (base : Nat) (v : Value) : Option (Nat × Option Nat) → Prop
  | none => v = .nilIface
  | some (c, none) => v = errv c
  | some (c, some p) => ∃ g, base ≤ g ∧ v = .iface 121 (.pointer (some ⟨g, 0, none⟩)) ∧ Blk w g 123 #[.int .i64 c, .int .i64 p]
def psmall (p : ByteArray × ByteArray) : Prop := p.1.size ≤ 140737488351232 ∧ p.2.size ≤ 140737488351232
set_option maxHeartbeats 2000000 in
theorem pRight_any (l : PairL) (v : Value) (w : World) (hv : SRd w v 2 l.length (pairCells l)) (hd : ∀ p ∈ l, psmall p) : Calls Tryz.prog 65 #[v] w fun e w' =>
    ∃ r, e = .returned r ∧ PErr w' w.heap.size r (pRightR l) ∧ Below w.heap.size w w' := by
  obtain ⟨hlen, A, cap, rfl, hcap, hmax, hcell⟩ := hv
  have HC := Lib.hid hcell
  unfold maxLen at hmax
  clear hcell hlen
  by_cases h60 : 60 < l.length
  · have hz : pRightR l = some (4, none) := by rw [pRightR, if_pos h60]
    have HZ := Lib.hid hz
    clear hz
    go_enter Tryz.func65, Tryz.ntmps65
    go_wp2_with fail
    refine bodyPost_ret (results_tmp rfl _ _ _) rfl ⟨_, rfl, ?_, Below.refl _ _⟩
    rw [HZ.out]
    rfl
  · have hz : pRightR l = (pRightGo l 0).map fun r => (r.1, some r.2) := by rw [pRightR, if_neg h60]
    have HR := Lib.hid hz
    clear hz
    go_enter Tryz.func65, Tryz.ntmps65
    go_wp2_with fail
    go_loopw [11] (fun i wr => ∃ k : Nat, k ≤ l.length ∧ i = .int .i64 k ∧ pRightGo l 0 = pRightGo (l.drop k) k ∧ Below w.heap.size w wr) (fun i _ => l.length - (intOf i).toNat)
    case atStart => exact ⟨0, Nat.zero_le _, rfl, by simp, Below.refl _ _⟩
    case round =>
      obtain ⟨k, hk, rfl, hgo, hbw⟩ := hrel
      have HG := Lib.hid hgo
      clear hgo
      by_cases hlt : k < l.length
      · obtain ⟨p, hp⟩ : ∃ p, l[k]? = some p := ⟨_, List.getElem?_eq_getElem hlt⟩
        obtain ⟨b, o, rfl, hbl, hcc⟩ := HC.out (by omega)
        have hc := pairCells_at l k p hp
        have c0 := (hbw.cell (p := ⟨b, o + 2 * k, none⟩) hbl).trans (hcc _ _ hc.1)
        have c1 := (hbw.cell (p := ⟨b, o + (2 * k + 1), none⟩) hbl).trans (hcc _ _ hc.2)
        rw [Nat.mul_comm] at c0 c1
        rw [← Nat.add_assoc] at c1
        have hdp := hd p (List.mem_of_getElem? hp)
        have hdrop : l.drop k = p :: l.drop (k + 1) := by
          rw [List.drop_eq_getElem_cons hlt]
          rw [List.getElem?_eq_getElem hlt] at hp
          rw [Option.some.inj hp]
        have HD := Lib.hid hdrop
        clear hc hcc hdrop hp
        have hs0 := hbw.size
        obtain ⟨p1, p2⟩ := p
        obtain ⟨hd1, hd2⟩ := hdp
        simp only at c0 c1 hd1 hd2
        go_wp2_with fail
        refine (key_any p1 _ hd1).mono ?_
        rintro e w1 ⟨rfl, rfl⟩
        obtain ⟨kb, hkb⟩ : ∃ kb, keyB p1.data.toList = kb := ⟨_, rfl⟩
        rw [hkb]
        have HKB := Lib.hid hkb
        clear hkb
        cases kb
        · have hz : pRightR l = some (5, some k) := by
            rw [HR.out, HG.out, HD.out, pRightGo, if_pos HKB.out]; rfl
          have HZ := Lib.hid hz
          clear hz
          go_wp2_with fail
          refine bodyPost_ret (results_tmp rfl _ _ _) rfl ⟨_, rfl, ?_, (hbw.alloc hs0 _).alloc (by simp; omega) _⟩
          rw [HZ.out]
          refine ⟨wr.heap.size + 1, by omega, by simp, ?_⟩
          have := Blk.new (wr.alloc (.cells #[.string p1, .string p2] 62)) 123 #[.int .i64 5, .int .i64 k]
          simpa using this
        · go_wp2_with fail
          refine (value_any p2 _ hd2).mono ?_
          rintro e w1 ⟨rfl, rfl⟩
          obtain ⟨vb, hvb⟩ : ∃ vb, valB p2.data.toList = vb := ⟨_, rfl⟩
          rw [hvb]
          have HVB := Lib.hid hvb
          clear hvb
          cases vb
          · have hz : pRightR l = some (3, some k) := by
              rw [HR.out, HG.out, HD.out, pRightGo, if_neg (by rw [HKB.out]; decide), if_pos HVB.out]; rfl
            have HZ := Lib.hid hz
            clear hz
            go_wp2_with fail
            refine bodyPost_ret (results_tmp rfl _ _ _) rfl ⟨_, rfl, ?_, (hbw.alloc hs0 _).alloc (by simp; omega) _⟩
            rw [HZ.out]
            refine ⟨wr.heap.size + 1, by omega, by simp, ?_⟩
            have := Blk.new (wr.alloc (.cells #[.string p1, .string p2] 62)) 123 #[.int .i64 3, .int .i64 k]
            simpa using this
          · have hz : pRightGo l 0 = pRightGo (l.drop (k + 1)) (k + 1) := by
              rw [HG.out, HD.out, pRightGo, if_neg (by rw [HKB.out]; decide), if_neg (by rw [HVB.out]; decide)]
            have HZ := Lib.hid hz
            clear hz
            go_wp2_with fail
            go_roundw
            case rel => exact ⟨k + 1, by omega, by go_num, HZ.out, hbw.alloc hs0 _⟩
            case measure => simp [intOf]; omega
      · have hz : pRightR l = none := by
          rw [HR.out, HG.out, List.drop_eq_nil_of_le (by omega)]; rfl
        have HZ := Lib.hid hz
        clear hz
        go_wp2_with fail
        refine bodyPost_ret (results_tmp rfl _ _ _) rfl ⟨_, rfl, ?_, hbw⟩
        rw [HZ.out]
        rfl
end Go.Proofs.YtamlepacljjpiaaGreatDoor

/- The contract of pairs.Parse. -/
namespace Go.Proofs.YtamlepacljjpiaaGreatDoor
open Go.ChangeShapes Go.WideShapes Go.ChangeAt Go.RowKit
set_option linter.unusedVariables false
theorem below_dP {B : Nat} {a w : World} (h : Below B a w) (k : Nat) : Below B a (w.drewN k) := h.trans ⟨rfl, rfl, rfl, Nat.le_refl _, fun _ _ => rfl⟩
theorem infoPair : (Tryz.prog.info? 62).map (fun i => (i.zero, i.size, i.bytes)) = some (some (.agg #[.string ⟨#[]⟩, .string ⟨#[]⟩]), 2, 32) := by kernel_rfl
def PRow (w : World) (base : Nat) (v : Value) (l : PairL) : Prop := MRow w base 62 2 v l.length (pairCells l)
theorem wpList_append_pair (w : World) {ops : Array Oper} {rest : List Oper} {o : Oper} {a : Act} {Q : Exit → Act → World → Prop} (hgd : o.guard = none) (s x : Operand)
    (ho : o.op = .call { callee := .builtin .append, args := #[s, x], argTypes := #[27, 27] })
    (base : Nat) (v : Value) (l : PairL) (hs : a.eval s = v) (hown : PRow w base v l)
    (ad : Addr) (p : ByteArray × ByteArray) (c : Nat) (hx : a.eval x = .slice (some ad) 1 c) (h0 : w.cell? (ad.add 0) = some (.string p.1)) (h1 : w.cell? (ad.add 1) = some (.string p.2))
    (hlen : l.length ≤ 1000) (hbase : base ≤ w.heap.size) {w0 : World} (hbel : Below base w0 w)
    (h : ∀ v' w', PRow w' base v' (l ++ [p]) → v' ≠ .slice none 0 0 → Below base w0 w' → wpList Tryz.prog ops Q rest (a.put o.dst v') w') : wpList Tryz.prog ops Q (o :: rest) a w := by
  obtain ⟨i0, hi, hz0, hz1, hz2⟩ := info_parts infoPair
  refine wpList_plain hgd fun _ hK => wp_append_m w s x _ ho base 62 i0 _ 2 32 Tryz.underlying27 hi hz0 hz1 hz2 rfl (by decide) v l.length _ hs hown ad 1 c [.string p.1, .string p.2] hx (by simp) ?_ ?_ (by unfold maxLen; omega) (by omega) hbase ?_
  · intro j u hu
    match j with
    | 0 => cases hu; exact h0
    | 1 => cases hu; exact h1
    | j + 2 => simp at hu
  · intro u hu
    simp at hu
    rcases hu with rfl | rfl <;> rfl
  · intro v' w' r1 r2 r3
    refine hK _ _ (h v' w' ?_ (fun e => absurd (r3 e) (by decide)) (hbel.grown r2 hbase fun k hk => (hown.lt k hk).1))
    unfold PRow
    rw [List.length_append, pairCells_snoc]
    exact r1
theorem pcell0 (w : World) (t : TypeId) (a u : Value) : (w.alloc (.cells #[a, u] t)).cell? ((⟨w.heap.size, 0, none⟩ : Addr).add 0) = some a := by
  rw [Addr.add_lit]
  exact (Blk.new w t _).cell 0
theorem pcell1 (w : World) (t : TypeId) (a u : Value) : (w.alloc (.cells #[a, u] t)).cell? ((⟨w.heap.size, 0, none⟩ : Addr).add 1) = some u := by
  rw [Addr.add_lit]
  exact (Blk.new w t _).cell 1
def PRes (w : World) (base : Nat) (r er : Value) : (Nat × Option Nat) ⊕ PairL → Prop
  | .inl e => r = .slice none 0 0 ∧ PErr w base er (some e)
  | .inr l => er = .nilIface ∧ PRow w base r l
def strLen : Value → Nat | .string s => s.size | _ => 0
theorem cut_any (s sep : ByteArray) (c : UInt8) (hsep : sep = ⟨#[c]⟩) (w : World) (hS : w.ShapedOpen Tryz.prog) (hs : s.size ≤ 1000000) : Calls Tryz.prog 64 #[.string s, .string sep] w fun e w' =>
    ∃ (x r : ByteArray) (b : Bool), e = .returned (.tuple #[.string x, .string r, .bool b]) ∧ Lib.cut s.data.toList [c] = (x.data.toList, r.data.toList, b) ∧ x.size ≤ s.size ∧ r.size ≤ s.size ∧ (b = true → r.size < s.size) ∧ ∃ n, w' = w.drewN n := by
  subst hsep
  refine (Tryz.strings_Cut_shaped s ⟨#[c]⟩ w hS (by omega)).mono ?_
  rintro e w' ⟨rfl, n, rfl⟩
  have hl := cut_len s.data.toList c
  rw [len_of] at hl
  exact ⟨⟨(Lib.cut s.data.toList [c]).1.toArray⟩, ⟨(Lib.cut s.data.toList [c]).2.1.toArray⟩, (Lib.cut s.data.toList [c]).2.2, rfl, rfl, hl.1, hl.2.1, hl.2.2, n, rfl⟩
theorem pRightR_one (p : ByteArray × ByteArray) : pRightR [p] = if right1 p.1.data.toList p.2.data.toList = 0 then none else some (right1 p.1.data.toList p.2.data.toList, some 0) := by
  rw [pRightR, if_neg (by simp)]
  unfold right1
  rw [pRightGo]
  by_cases h1 : keyB p.1.data.toList = false
  · rw [if_pos h1, if_pos h1]; rfl
  · rw [if_neg h1, if_neg h1]
    by_cases h2 : valB p.2.data.toList = false
    · rw [if_pos h2, if_pos h2]; rfl
    · rw [if_neg h2, if_neg h2]; rfl
/- the last of a row that has just grown, as a row of its own -/
theorem last_row {w : World} {base : Nat} {v : Value} {l : PairL} {p : ByteArray × ByteArray} (h : PRow w base v (l ++ [p])) : ∃ g cap, v = .slice (some ⟨g, 0, none⟩) (l.length + 1) cap ∧ l.length + 1 ≤ cap ∧ cap ≤ maxLen ∧ base ≤ g ∧ g < w.heap.size ∧
    SRd w (.slice (some ⟨g, l.length * 2, none⟩) 1 (cap - l.length)) 2 1 (pairCells [p]) := by
  have hlen : (l ++ [p]).length = l.length + 1 := by simp
  rcases h.2 with ⟨_, h0⟩ | ⟨g, cap, cur, rfl, hg, hB, hn, hm, hz, ht⟩
  · rw [hlen] at h0; omega
  · rw [hlen] at hn
    refine ⟨g, cap, by rw [hlen], hn, hm, hg, hB.lt, ?_⟩
    refine ⟨rfl, _, _, rfl, by omega, Nat.le_trans (Nat.sub_le _ _) hm, fun _ => ⟨g, l.length * 2, rfl, hB.lt, fun j u hu => ?_⟩⟩
    have hu' : (pairCells (l ++ [p]))[l.length * 2 + j]? = some u := by
      rw [pairCells_append, List.getElem?_append_right (by rw [pairCells_len]; omega), pairCells_len]
      rw [← hu]; congr 1; omega
    exact h.cellAt _ _ hu'
set_option maxRecDepth 20000 in
set_option maxHeartbeats 8000000 in
theorem parse_any (s : ByteArray) (w : World) (hL : LaidE w) (hS : w.ShapedOpen Tryz.prog) (hs : s.size ≤ 1000000) : Calls Tryz.prog 30 #[.string s] w fun e w' =>
    ∃ r er, e = .returned (.tuple #[r, er]) ∧ PRes w' w.heap.size r er (parseGo (s.size + 1) s.data.toList 0) ∧ Below w.heap.size w w' := by
  go_enter Tryz.func30, Tryz.ntmps30
  go_wp2_with fail
  go_loopw [0, 4] (fun t o wr => ∃ (T : ByteArray) (f : Nat) (acc : PairL), t = .string T ∧ T.size ≤ s.size ∧ T.size < f ∧ acc.length ≤ 60 ∧ PRow wr w.heap.size o acc ∧ parseGo (s.size + 1) s.data.toList 0 = pAcc acc (parseGo f T.data.toList acc.length) ∧ Below w.heap.size w wr) (fun t _ _ => strLen t)
  case atStart => exact ⟨s, s.size + 1, [], rfl, Nat.le_refl _, by omega, by simp, MRow.nil _ _ _ _, by show _ = pAcc [] (parseGo (s.size + 1) s.data.toList 0); generalize parseGo (s.size + 1) s.data.toList 0 = r; cases r <;> rfl, Below.refl _ _⟩
  case round =>
    obtain ⟨T, f, acc, rfl, hT, hf, hacc, hrow, hgo, hbw⟩ := hrel
    have HG := Lib.hid hgo
    clear hgo
    have hs0 := hbw.size
    obtain ⟨f, rfl⟩ : ∃ f', f = f' + 1 := ⟨f - 1, by omega⟩
    have htl := toList_of T
    have HTL := Lib.hid htl
    clear htl
    have hSw := shaped_on hS hbw
    have hLw := hL.on hbw
    by_cases he : T.data.toList = []
    · have hz : parseGo (f + 1) T.data.toList acc.length = .inr [] := by rw [parseGo, he]; rfl
      have HZ := Lib.hid hz
      have e1 : T.toList = [] := by rw [HTL.out, he]
      clear hz he
      go_wp2_with fail
      go_ret2
      refine ⟨_, _, rfl, ?_, hbw⟩
      rw [HG.out, HZ.out]
      exact ⟨rfl, by simpa using hrow⟩
    · have hemp : T.data.toList.isEmpty = false := by simpa using he
      have e1 : T.toList.isEmpty = false := by rw [HTL.out]; exact hemp
      have e2 : (T.toList == []) = false := by rw [HTL.out]; simpa using he
      have e3 : (T.toList != []) = true := by rw [bne, e2]; rfl
      have HEMP := Lib.hid hemp
      clear hemp he
      obtain ⟨A, cap, rfl, hcap, hmx, hcells⟩ := hrow.form
      have HCE := Lib.hid hcells
      unfold maxLen at hmx
      clear hcells
      go_wp2_with fail
      refine (cut_any T _ 0 rfl _ hSw (by omega)).mono ?_
      rintro e w1 ⟨X, R, b, rfl, hcut, hX, hR, hRb, nq, rfl⟩
      have HCUT := Lib.hid hcut
      clear hcut
      cases b
      · have hz : parseGo (f + 1) T.data.toList acc.length = .inl (7, some acc.length) := by
          rw [parseGo, if_neg (by rw [HEMP.out]; decide), if_pos (by rw [HCUT.out])]
        have HZ := Lib.hid hz
        clear hz hRb
        go_wp2_with fail
        go_ret2
        refine ⟨_, _, rfl, ?_, (below_dP hbw nq).alloc hs0 _⟩
        rw [HG.out, HZ.out]
        exact ⟨rfl, wr.heap.size, hs0, rfl, Blk.new _ _ _⟩
      · have hRl : R.size < T.size := hRb rfl
        clear hRb
        go_wp2_with fail
        refine (cut_any X _ 61 rfl _ (shaped_on hSw (below_dP (Below.refl _ _) nq)) (by omega)).mono ?_
        rintro e w1 ⟨K, V, b2, rfl, hcut2, hK, hV, hVb, nq2, rfl⟩
        have HCUT2 := Lib.hid hcut2
        clear hcut2 hVb
        have hbw2 : Below w.heap.size w (wr.drewN (nq + nq2)) := below_dP hbw (nq + nq2)
        cases b2
        · have hz : parseGo (f + 1) T.data.toList acc.length = .inl (3, some acc.length) := by
            rw [parseGo, if_neg (by rw [HEMP.out]; decide), if_neg (by rw [HCUT.out]; simp), HCUT.out, if_pos (by simp only [HCUT2.out])]
          have HZ := Lib.hid hz
          clear hz
          go_wp2_with fail
          go_ret2
          refine ⟨_, _, rfl, ?_, hbw2.alloc hs0 _⟩
          rw [HG.out, HZ.out]
          exact ⟨rfl, wr.heap.size, hs0, rfl, Blk.new _ _ _⟩
        · have hz : parseGo (f + 1) T.data.toList acc.length = if acc.length = 60 then .inl (4, none) else
              if right1 K.data.toList V.data.toList ≠ 0 then .inl (right1 K.data.toList V.data.toList, some acc.length) else
              pAcc [(K, V)] (parseGo f R.data.toList (acc.length + 1)) := by
            rw [parseGo, if_neg (by rw [HEMP.out]; decide), if_neg (by rw [HCUT.out]; simp), HCUT.out, if_neg (by simp only [HCUT2.out]; simp)]
            simp only [HCUT2.out]
            congr 2
            try (cases parseGo f R.data.toList (acc.length + 1) <;> rfl)
          have HZ := Lib.hid hz
          clear hz
          go_wp2_with (at_builtin; refine wpList_append_pair _ rfl _ _ rfl w.heap.size _ acc rfl ?g0 ⟨wr.heap.size, 0, none⟩ (K, V) 1 rfl ?g1 ?g2 (by omega) ?g3 (w0 := w) ?g4 ?_)
          case g0 => exact ((MRow.drewN hrow (nq + nq2)).alloc _)
          case g1 => exact pcell0 _ _ _ _
          case g2 => exact pcell1 _ _ _ _
          case g3 => simp; omega
          case g4 => exact hbw2.alloc hs0 _
          intro v3 w3 hrow3 hne3 hb3
          obtain ⟨g, cap3, rfl, hc3, hm3, hgb, hgl, hsrd⟩ := last_row hrow3
          unfold maxLen at hm3
          clear hrow hne3
          by_cases h60 : acc.length = 60
          · have f60 : ((acc.length : Int) == 60) = true := beq_iff_eq.2 (by omega)
            have hz : parseGo (f + 1) T.data.toList acc.length = .inl (4, none) := by rw [HZ.out, if_pos h60]
            have HZ2 := Lib.hid hz
            clear hz h60
            go_wp2_with fail
            go_ret2
            refine ⟨_, _, rfl, ?_, hb3⟩
            rw [HG.out, HZ2.out]
            exact ⟨rfl, rfl⟩
          · have f60 : ((acc.length : Int) == 60) = false := beq_eq_false_iff_ne.2 (by omega)
            have hz : parseGo (f + 1) T.data.toList acc.length = if right1 K.data.toList V.data.toList ≠ 0 then .inl (right1 K.data.toList V.data.toList, some acc.length) else pAcc [(K, V)] (parseGo f R.data.toList (acc.length + 1)) := by rw [HZ.out, if_neg h60]
            have HZ2 := Lib.hid hz
            have ha60 : acc.length < 60 := by omega
            clear hz h60
            have hK7 : psmall (K, V) := ⟨by show K.size ≤ _; omega, by show V.size ≤ _; omega⟩
            have HK7 := Lib.hid hK7
            clear hK7
            have hbw3 := hb3
            have hLw3 := hL.on hb3
            go_wp2_with fail
            refine (pRight_any [(K, V)] _ _ hsrd (by intro q hq; rw [List.mem_singleton] at hq; subst hq; exact HK7.out)).mono ?_
            rintro e w4 ⟨r4, rfl, he4, hb4⟩
            have hbw4 := below_step hbw3 hb4
            have hL4 := hLw3.on hb4
            have hone := pRightR_one (K, V)
            simp only at hone
            by_cases hr1 : right1 K.data.toList V.data.toList = 0
            · rw [hone, if_pos hr1] at he4
              obtain rfl : r4 = .nilIface := he4
              have hz : parseGo (f + 1) T.data.toList acc.length = pAcc [(K, V)] (parseGo f R.data.toList (acc.length + 1)) := by
                rw [HZ2.out, if_neg (by intro h; exact h hr1)]
              have HZ3 := Lib.hid hz
              have hrow4 : PRow w4 w.heap.size (.slice (some ⟨g, 0, none⟩) (acc.length + 1) cap3) (acc ++ [(K, V)]) := MRow.below hrow3 hb4 (Nat.le_refl _)
              clear hz hr1 hone hsrd
              go_wp2_with fail
              go_roundw
              case rel =>
                refine ⟨R, f, acc ++ [(K, V)], rfl, by omega, by omega, by rw [List.length_append, List.length_singleton]; omega, hrow4, ?_, hbw4⟩
                rw [HG.out, HZ3.out, pAcc_pAcc, List.length_append, List.length_singleton]
              case measure => simp only [strLen]; exact hRl
            · rw [hone, if_neg hr1] at he4
              obtain ⟨g4, hg4, rfl, hB4⟩ := he4
              have hz : parseGo (f + 1) T.data.toList acc.length = .inl (right1 K.data.toList V.data.toList, some acc.length) := by
                rw [HZ2.out, if_pos hr1]
              have HZ3 := Lib.hid hz
              obtain ⟨ec, hec⟩ : ∃ ec, right1 K.data.toList V.data.toList = ec := ⟨_, rfl⟩
              rw [hec] at HZ3 hB4
              clear hz hr1 hone hsrd hec
              go_wp2_with fail
              refine (tell_at g4 _ _ _ hL4 hB4).mono ?_
              rintro e w5 ⟨rfl, hb5⟩
              have hbw5 := below_step hbw4 hb5
              have hs5 := hbw5.size
              go_wp2_with fail
              go_ret2
              refine ⟨_, _, rfl, ?_, hbw5.alloc hs5 _⟩
              rw [HG.out, HZ3.out]
              exact ⟨rfl, w5.heap.size, hs5, rfl, Blk.new _ _ _⟩
end Go.Proofs.YtamlepacljjpiaaGreatDoor

/- strings.Builder: copyCheck and WriteString, as the shelf has them, at this translation's copyCheck. -/
namespace Go.Proofs.YtamlepacljjpiaaGreatDoor
open Go.ChangeShapes Go.WideShapes Go.ChangeAt Go.RowKit
set_option linter.unusedVariables false
theorem infoBld : (Tryz.prog.info? 135).map (·.size) = some 2 := by kernel_rfl
theorem liesBld : liesAt Tryz.prog Tryz.prog.depth 135 (2 / Tryz.prog.cellsOf 135) 0 135 1 = true := by kernel_rfl
set_option maxHeartbeats 1000000 in
set_option maxRecDepth 100000 in
theorem copyCheck_used (b : Nat) (w : World) (h0 : w.cell? ⟨b, 0, none⟩ = some (.pointer (some ⟨b, 0, none⟩))) :
    Calls Tryz.prog 99 #[.pointer (some ⟨b, 0, none⟩)] w fun e w' => e = .returned (.tuple #[]) ∧ w' = w := by
  obtain ⟨j, hj, _⟩ := Option.map_eq_some_iff.1 infoBld
  go_enter Tryz.func99, Tryz.ntmps99
  go_wp2
  rw [Lib.run_neq_ptr_same w _ Tryz.underlying133 hj]
  go_wp2
  go_end0
  exact ⟨rfl, rfl⟩
set_option maxHeartbeats 1000000 in
set_option maxRecDepth 100000 in
theorem copyCheck_fresh (b : Nat) (w : World) (h0 : w.cell? ⟨b, 0, none⟩ = some (.pointer none)) (hsh : w.shape? b = some (135, 2)) (hfz : w.frozen? ⟨b, 0, none⟩ = false) :
    Calls Tryz.prog 99 #[.pointer (some ⟨b, 0, none⟩)] w fun e w' => e = .returned (.tuple #[]) ∧ w' = w.setCell ⟨b, 0, none⟩ (.pointer (some ⟨b, 0, none⟩)) := by
  obtain ⟨j, hj, hjs⟩ := Option.map_eq_some_iff.1 infoBld
  go_enter Tryz.func99, Tryz.ntmps99
  go_wp2
  rw [Lib.run_to_unsafe w ⟨b, 0, none⟩ Tryz.underlying133 Tryz.underlying159 hj (by rw [hjs]; decide) hsh (Nat.zero_lt_succ 1)]
  simp only [Result.andThen]
  rw [Oper.upon_value]
  go_wp2
  rw [run_callFunc_extern Tryz.func116 (by kernel_rfl) (by kernel_rfl) (by kernel_rfl) (e := Extern.AbiNoEscape.same) (by kernel_rfl)]
  rw [Lib.run_noEscape]
  simp only [Result.andThen]
  rw [Oper.upon_value]
  go_wp2
  rw [Lib.run_from_unsafe w ⟨b, 0, none⟩ Tryz.underlying159 Tryz.underlying133 hj hsh liesBld]
  simp only [Result.andThen]
  rw [Oper.upon_value]
  go_wp2
  go_end0
  exact ⟨rfl, rfl⟩
theorem copyCheck_any (B b : Nat) (bs : List Value) (w : World) (h : Lib.IsBuilder 135 5 B b bs w) :
    Calls Tryz.prog 99 #[.pointer (some ⟨b, 0, none⟩)] w fun e w' => e = .returned (.tuple #[]) ∧ (Lib.BuilderAt 135 5 B b (.pointer (some ⟨b, 0, none⟩)) bs w' ∧ Below B w w') := by
  rcases h with h | h
  · refine (copyCheck_fresh b w h.cell0 h.shape h.frozen0).mono ?_
    rintro e w' ⟨rfl, rfl⟩
    exact ⟨rfl, h.used _, (Below.refl B w).setCell (p := ⟨b, 0, none⟩) h.1 _⟩
  · refine (copyCheck_used b w h.cell0).mono ?_
    rintro e w' ⟨rfl, rfl⟩
    exact ⟨rfl, h, Below.refl B _⟩
set_option maxHeartbeats 2000000 in
set_option maxRecDepth 100000 in
theorem writeString_any (B b : Nat) (bs : List Value) (s : ByteArray) (w : World) (h : Lib.IsBuilder 135 5 B b bs w) (hlen : bs.length + s.size ≤ 140737488355328) (hBw : B ≤ w.heap.size) :
    Calls Tryz.prog 74 #[.pointer (some ⟨b, 0, none⟩), .string s] w fun e w' => e = .returned (.tuple #[.int .i64 s.size, .nilIface]) ∧ (Lib.BuilderAt 135 5 B b (.pointer (some ⟨b, 0, none⟩)) (bs ++ Lib.strCells s) w' ∧ Below B w w') := by
  obtain ⟨i0, hi, hz0, hz1, hz2⟩ := info_parts infoU8
  go_enter Tryz.func74, Tryz.ntmps74
  go_wp2_with fail
  refine (copyCheck_any B b bs _ h).mono ?_
  rintro e w1 ⟨rfl, h1, hb1⟩
  obtain ⟨hB, v, hbk, hown, hne⟩ := h1
  have c0 : w1.cell? ⟨b, 0, none⟩ = some (.pointer (some ⟨b, 0, none⟩)) := by rw [Lib.cell_of_heap hbk]; rfl
  have c1 : w1.cell? ⟨b, 1, none⟩ = some v := by rw [Lib.cell_of_heap hbk]; rfl
  go_wp2_with (at_builtin; refine Lib.wpList_append_own_string _ rfl _ _ 115 9 rfl B 5 i0 Tryz.underlying115 Tryz.underlying9 hi hz0 hz1 hz2 _ _ _ rfl hown s rfl ?c3 ?c4 ?c5 ?_)
  case c3 => unfold maxLen; omega
  case c4 => omega
  case c5 => have := hb1.size; omega
  intro v' w2 hown' hgrow _
  have hlt : b < w1.heap.size := by
    rcases Nat.lt_or_ge b w1.heap.size with h' | h'
    · exact h'
    · simp [Array.getElem?_eq_none h'] at hbk
  have hb2 : w2.heap[b]? = some (.cells #[.pointer (some ⟨b, 0, none⟩), v] 135 (0, 0)) := by
    rw [hgrow.block b hlt (fun e => hne e.symm)]
    exact hbk
  have d0 : w2.cell? ⟨b, 0, none⟩ = some (.pointer (some ⟨b, 0, none⟩)) := by rw [Lib.cell_of_heap hb2]; rfl
  have d1 : w2.cell? ⟨b, 1, none⟩ = some v := by rw [Lib.cell_of_heap hb2]; rfl
  have f1 : w2.frozen? ⟨b, 1, none⟩ = false := Lib.frozen_of_heap hb2 1
  obtain ⟨ao, n', cap, rfl⟩ : ∃ ao n' cap, v' = .slice ao n' cap := by
    rcases hown'.2 with ⟨hv, _⟩ | ⟨g, cap, cur, hv, _⟩
    · exact ⟨_, _, _, hv⟩
    · exact ⟨_, _, _, hv⟩
  go_wp2_with fail
  go_ret2
  refine ⟨rfl, ?_, ?_⟩
  · exact Lib.BuilderAt.put (T := 135) (e := 5) hB hb2 (bs' := bs ++ Lib.strCells s) (by simpa [Lib.strCells_length] using hown') (by decide)
  · exact (hb1.grown hgrow (by have := hb1.size; omega) (fun k hk => (hown.lt k hk).1)).setCell (p := ⟨b, 1, none⟩) hB _
end Go.Proofs.YtamlepacljjpiaaGreatDoor

/- The contract of pairs.Print. -/
namespace Go.Proofs.YtamlepacljjpiaaGreatDoor
open Go.ChangeShapes Go.WideShapes Go.ChangeAt Go.RowKit
set_option linter.unusedVariables false
theorem keyB_len {l : List UInt8} (h : keyB l = true) : l.length ≤ 63 := by
  unfold keyB at h
  simp at h
  omega
theorem valB_len {l : List UInt8} (h : valB l = true) : l.length ≤ 255 := by
  unfold valB at h
  simp at h
  omega
theorem pRightGo_none : ∀ (l : PairL) (i : Nat), pRightGo l i = none → ∀ p ∈ l, keyB p.1.data.toList = true ∧ valB p.2.data.toList = true
  | [], _, _, p, hp => (List.not_mem_nil hp).elim
  | q :: l, i, h, p, hp => by
    rw [pRightGo] at h
    split at h
    · cases h
    · rename_i h1
      split at h
      · cases h
      · rename_i h2
        rcases List.mem_cons.1 hp with rfl | hp
        · exact ⟨by simpa using h1, by simpa using h2⟩
        · exact pRightGo_none l _ h p hp
theorem pRight_none {l : PairL} (h : pRightR l = none) : l.length ≤ 60 ∧ ∀ p ∈ l, keyB p.1.data.toList = true ∧ valB p.2.data.toList = true := by
  unfold pRightR at h
  split at h
  · cases h
  · exact ⟨by omega, pRightGo_none l 0 (by simpa using h)⟩
theorem pRightGo_ok : ∀ (l : PairL) (i : Nat), (∀ p ∈ l, keyB p.1.data.toList = true ∧ valB p.2.data.toList = true) → pRightGo l i = none
  | [], _, _ => rfl
  | q :: l, i, h => by
    obtain ⟨h1, h2⟩ := h q (by simp)
    rw [pRightGo, if_neg (by rw [h1]; simp), if_neg (by rw [h2]; simp)]
    exact pRightGo_ok l _ fun p hp => h p (by simp [hp])
theorem pRight_ok {l : PairL} (hl : l.length ≤ 60) (h : ∀ p ∈ l, keyB p.1.data.toList = true ∧ valB p.2.data.toList = true) : pRightR l = none := by
  rw [pRightR, if_neg (by omega), pRightGo_ok l 0 h]; rfl
theorem pairB_len (p : ByteArray × ByteArray) : (pairB p).length = p.1.size + p.2.size + 2 := by
  simp only [pairB, List.length_append, List.length_singleton, len_of]; omega
theorem pairsB_len_le (l : PairL) (h : ∀ p ∈ l, keyB p.1.data.toList = true ∧ valB p.2.data.toList = true) : (pairsB l).length ≤ 320 * l.length := by
  induction l with
  | nil => simp [pairsB]
  | cons p l ih =>
    obtain ⟨h1, h2⟩ := h p (by simp)
    have h3 := keyB_len h1
    have h4 := valB_len h2
    rw [len_of] at h3 h4
    have := ih fun q hq => h q (by simp [hq])
    show (pairB p ++ pairsB l).length ≤ _
    rw [List.length_append, pairB_len, List.length_cons]
    omega
theorem pairsB_snoc (l : PairL) (p : ByteArray × ByteArray) : pairsB (l ++ [p]) = pairsB l ++ pairB p := by simp [pairsB]
theorem pairsB_append (a b : PairL) : pairsB (a ++ b) = pairsB a ++ pairsB b := by simp [pairsB]
theorem bld_alloc {T e : TypeId} {B b : Nat} {p : Value} {bs : List Value} {w : World} (h : Lib.BuilderAt T e B b p bs w) (o : Obj) : Lib.BuilderAt T e B b p bs (w.alloc o) := by
  have hlt := h.lt
  obtain ⟨hB, v, hb, hown, hne⟩ := h
  exact ⟨hB, v, (Lib.alloc_old w o b hlt).trans hb, hown.alloc o, hne⟩
theorem isb_alloc {T e : TypeId} {B b : Nat} {bs : List Value} {w : World} (h : Lib.IsBuilder T e B b bs w) (o : Obj) : Lib.IsBuilder T e B b bs (w.alloc o) := by
  rcases h with h | h
  · exact .inl (bld_alloc h o)
  · exact .inr (bld_alloc h o)
theorem print_bad (l : PairL) (v : Value) (w : World) (hv : SRd w v 2 l.length (pairCells l)) (hd : ∀ p ∈ l, psmall p) (r : Nat × Option Nat) (hr : pRightR l = some r) : Calls Tryz.prog 44 #[v] w fun e w' =>
    ∃ er, e = .returned (.tuple #[.string ⟨#[]⟩, er]) ∧ PErr w' w.heap.size er (some r) ∧ Below w.heap.size w w' := by
  have HR := Lib.hid hr
  clear hr
  go_enter Tryz.func44, Tryz.ntmps44
  go_wp2_with fail
  refine (pRight_any l v w hv hd).mono ?_
  rintro e w1 ⟨r1, rfl, he, hb⟩
  rw [HR.out] at he
  obtain ⟨c, _ | p⟩ := r
  · have hc : errv c = .iface 56 (.int .i64 c) := by
      unfold errv
      rw [if_neg]
      intro h0
      subst h0
      have := HR.out
      unfold pRightR at this
      split at this
      · cases this
      · rcases h : pRightGo l 0 with _ | ⟨a, b⟩ <;> rw [h] at this <;> cases this
    obtain rfl : r1 = errv c := he
    rw [hc]
    go_wp2_with fail
    go_ret2
    exact ⟨_, rfl, hc.symm, hb⟩
  · obtain ⟨g, hg, rfl, hB⟩ := he
    go_wp2_with fail
    go_ret2
    exact ⟨_, rfl, ⟨g, hg, rfl, hB⟩, hb⟩
set_option maxRecDepth 20000 in
set_option maxHeartbeats 4000000 in
theorem print_ok (l : PairL) (v : Value) (w : World) (hv : SRd w v 2 l.length (pairCells l)) (hd : ∀ p ∈ l, psmall p) (hr : pRightR l = none) : Calls Tryz.prog 44 #[v] w fun e w' =>
    e = .returned (.tuple #[.string ⟨(pairsB l).toArray⟩, .nilIface]) ∧ Below w.heap.size w w' := by
  obtain ⟨hl60, hall⟩ := pRight_none hr
  have HR := Lib.hid hr
  have HALL := Lib.hid hall
  clear hr hall
  go_enter Tryz.func44, Tryz.ntmps44
  go_wp2_with fail
  refine (pRight_any l v w hv hd).mono ?_
  rintro e w1 ⟨r1, rfl, he, hb⟩
  rw [HR.out] at he
  obtain rfl : r1 = .nilIface := he
  have hv1 := hv.on hb
  obtain ⟨hlen, A, cap, rfl, hcap, hmax, hcell⟩ := hv1
  have HC := Lib.hid hcell
  unfold maxLen at hmax
  have hs1 := hb.size
  have hB0 := Lib.fresh_isBuilder 135 5 w1
  have hb0 : Below w1.heap.size w1 (w1.alloc (.cells #[.pointer none, .slice none 0 0] 135)) := (Below.refl _ _).alloc (Nat.le_refl _) _
  clear hcell hlen hv
  go_wp2_with fail
  go_loopw [15] (fun i wr => ∃ k : Nat, k ≤ l.length ∧ i = .int .i64 k ∧ Lib.IsBuilder 135 5 w1.heap.size w1.heap.size (Lib.byteCells (pairsB (l.take k))) wr ∧ Below w1.heap.size w1 wr) (fun i _ => l.length - (intOf i).toNat)
  case atStart => exact ⟨0, Nat.zero_le _, rfl, hB0, hb0⟩
  case round =>
    obtain ⟨k, hk, rfl, hB, hbw⟩ := hrel
    clear hB0 hb0
    have hs2 := hbw.size
    by_cases hlt : k < l.length
    · obtain ⟨p, hp⟩ : ∃ p, l[k]? = some p := ⟨_, List.getElem?_eq_getElem hlt⟩
      obtain ⟨b, o, rfl, hbl, hcc⟩ := HC.out (by omega)
      have hc := pairCells_at l k p hp
      have c0 := (hbw.cell (p := ⟨b, o + 2 * k, none⟩) hbl).trans (hcc _ _ hc.1)
      have c1 := (hbw.cell (p := ⟨b, o + (2 * k + 1), none⟩) hbl).trans (hcc _ _ hc.2)
      rw [Nat.mul_comm] at c0 c1
      rw [← Nat.add_assoc] at c1
      obtain ⟨hpa, hpb⟩ := HALL.out p (List.mem_of_getElem? hp)
      have hpa := keyB_len hpa
      have hpb := valB_len hpb
      rw [len_of] at hpa hpb
      have htk : pairsB (l.take (k + 1)) = pairsB (l.take k) ++ pairB p := by
        rw [List.take_succ_eq_append_getElem hlt, pairsB_snoc]
        rw [List.getElem?_eq_getElem hlt] at hp
        rw [Option.some.inj hp]
      have hln : (pairsB (l.take k)).length ≤ 20000 := by
        have h1 := pairsB_len_le (l.take k) fun q hq => HALL.out q (List.mem_of_mem_take hq)
        have h2 := List.length_take_le k l
        omega
      have HT := Lib.hid htk
      clear hc hcc htk hp
      obtain ⟨p1, p2⟩ := p
      simp only at hpa hpb c0 c1
      have hpe : (p1 ++ ⟨#[61]⟩ ++ p2 ++ ⟨#[0]⟩).data.toList = pairB (p1, p2) := by rw [cat_of, cat_of, cat_of]; rfl
      have hpz : (p1 ++ ⟨#[61]⟩ ++ p2 ++ ⟨#[0]⟩).size ≤ 400 := by rw [← len_of, hpe, pairB_len]; simp only; omega
      have hsc : Lib.byteCells (pairsB (l.take k)) ++ Lib.strCells (p1 ++ ⟨#[61]⟩ ++ p2 ++ ⟨#[0]⟩) = Lib.byteCells (pairsB (l.take (k + 1))) := by
        rw [HT.out, Lib.strCells_eq, hpe]
        simp [Lib.byteCells]
      have HSC := Lib.hid hsc
      clear hsc hpe
      go_wp2_with fail
      refine (writeString_any w1.heap.size w1.heap.size _ _ _ (isb_alloc hB _) ?_ ?_).mono ?_
      · rw [Lib.byteCells_length]; omega
      · simp; omega
      rintro e w2 ⟨rfl, h2, hb2⟩
      rw [HSC.out] at h2
      go_wp2_with fail
      go_roundw
      case rel => exact ⟨k + 1, by omega, by go_num, .inr h2, (hbw.alloc hs2 _).trans hb2⟩
      case measure => simp [intOf]; omega
    · have hfin : l.take k = l := List.take_of_length_le (by omega)
      rw [hfin] at hB
      clear hfin
      go_wp2_with fail
      refine (Tryz.Builder_String_any w1.heap.size w1.heap.size (pairsB l) _ hB hs2).mono ?_
      rintro e w2 ⟨rfl, hb2⟩
      go_wp2_with fail
      go_ret2
      exact ⟨rfl, below_step hb (hbw.trans hb2)⟩
end Go.Proofs.YtamlepacljjpiaaGreatDoor

/- The contracts of package gather: New, Add, Size; the fact of parts. -/
namespace Go.Proofs.YtamlepacljjpiaaGreatDoor
open Go.ChangeShapes Go.WideShapes Go.ChangeAt Go.RowKit
set_option linter.unusedVariables false
theorem below_step' {a b c : World} (h : Below a.heap.size a b) (k : Below b.heap.size b c) : Below a.heap.size a c := below_step h k
theorem gnew_ok (m : Int) (w : World) (h0 : 0 ≤ m) (h1 : m ≤ 20000) : Calls Tryz.prog 67 #[.int .i64 m] w fun e w' => e = .returned (.tuple #[.pointer (some ⟨w.heap.size, 0, none⟩), .nilIface]) ∧ w' = w.alloc (.cells #[.string ⟨#[]⟩, .int .i64 m] 175) := by
  go_enter Tryz.func67, Tryz.ntmps67
  go_wp2_with fail
  go_ret2
  exact ⟨rfl, rfl⟩
def GBlk (w : World) (g : Nat) (T : ByteArray) (m : Int) : Prop := Blk w g 175 #[.string T, .int .i64 m]
theorem GBlk.cells {w : World} {g : Nat} {T : ByteArray} {m : Int} (h : GBlk w g T m) : w.cell? ⟨g, 0, none⟩ = some (.string T) ∧ w.cell? ⟨g, 1, none⟩ = some (.int .i64 m) ∧ w.frozen? ⟨g, 0, none⟩ = false := by
  have c0 := Blk.cell h 0
  have c1 := Blk.cell h 1
  exact ⟨c0, c1, Blk.frozen h 0⟩
theorem gsize_any (g : Nat) (T : ByteArray) (m : Int) (w : World) (hB : GBlk w g T m) : Calls Tryz.prog 69 #[.pointer (some ⟨g, 0, none⟩)] w fun e w' => e = .returned (.int .i64 T.size) ∧ w = w' := by
  obtain ⟨c0, c1, c2⟩ := hB.cells
  clear hB
  go_enter Tryz.func69, Tryz.ntmps69
  go_wp2_with fail
  go_ret
  exact ⟨rfl, rfl⟩
theorem grown_put (w : World) (n g : Nat) (u : Value) : w.grownBy ((w.drewN n).setCell ⟨g, 0, none⟩ u) (some g) :=
  ⟨rfl, rfl, rfl, by simp [World.setCell], fun k _ hk => Below.heap_setCell _ _ _ _ (fun h => hk (by rw [h]))⟩
theorem grown_trans {a b c : World} {g : Nat} (h : a.grownBy b (some g)) (k : b.grownBy c (some g)) : a.grownBy c (some g) :=
  ⟨k.os.trans h.os, k.tape.trans h.tape, k.output.trans h.output, Nat.le_trans h.size k.size, fun i hi hk => (k.block i (Nat.lt_of_lt_of_le hi h.size) hk).trans (h.block i hi hk)⟩
theorem grown_below {a b : World} {g : Nat} (h : Below a.heap.size a b) : a.grownBy b (some g) := ⟨h.os, h.tape, h.output, h.size, fun i hi _ => h.block i hi⟩
theorem PRow.past {w w' : World} {base g : Nat} {v : Value} {l : PairL} (h : PRow w base v l) (hg : w.grownBy w' (some g)) (hlt : g < base) : PRow w' base v l :=
  MRow.kept h hg (by
    rcases hv : v.ownBlock with _ | k
    · exact .inl rfl
    · exact .inr fun e => by have := (MRow.lt h k hv).1; have := Option.some.inj e; omega)
theorem gadd_full (g : Nat) (T s : ByteArray) (m : Int) (b : Bool) (w w0 : World) (hB : GBlk w g T m) (hm : 0 ≤ m ∧ m ≤ 20000) (hT : T.size ≤ 20000) (hs : s.size ≤ 140737488351232) (h : m - T.size < s.size) (hbw : Below w0.heap.size w0 w) (hg : w0.heap.size ≤ g) :
    Calls Tryz.prog 68 #[.pointer (some ⟨g, 0, none⟩), .string s, .bool b] w fun e w' => e = .returned (.tuple #[.slice none 0 0, .iface 56 (.int .i64 12)]) ∧ GBlk w' g ⟨#[]⟩ m ∧ Below w0.heap.size w0 w' ∧ w.grownBy w' (some g) := by
  obtain ⟨c0, c1, c2⟩ := hB.cells
  go_enter Tryz.func68, Tryz.ntmps68
  go_wp2_with fail
  go_quiet (fail)
  go_wp2_with fail
  go_ret2
  exact ⟨rfl, (Blk.drewN hB _).put 0 _, (below_dP hbw _).setCell hg _, grown_put _ _ _ _⟩
theorem gadd_more (g : Nat) (T s : ByteArray) (m : Int) (w w0 : World) (hB : GBlk w g T m) (hm : 0 ≤ m ∧ m ≤ 20000) (hT : T.size ≤ 20000) (h : s.size ≤ m - T.size) (hbw : Below w0.heap.size w0 w) (hg : w0.heap.size ≤ g) :
    Calls Tryz.prog 68 #[.pointer (some ⟨g, 0, none⟩), .string s, .bool true] w fun e w' => e = .returned (.tuple #[.slice none 0 0, .nilIface]) ∧ GBlk w' g (T ++ s) m ∧ Below w0.heap.size w0 w' ∧ w.grownBy w' (some g) := by
  obtain ⟨c0, c1, c2⟩ := hB.cells
  have hs : s.size ≤ 20000 := by omega
  go_enter Tryz.func68, Tryz.ntmps68
  go_wp2_with fail
  go_quiet (fail)
  go_wp2_with fail
  go_ret2
  exact ⟨rfl, (Blk.drewN hB _).put 0 _, (below_dP hbw _).setCell hg _, grown_put _ _ _ _⟩
theorem PErr.put {w : World} {base g : Nat} {er : Value} {r : Option (Nat × Option Nat)} (h : PErr w base er r) (hg : g < base) (u : Value) : PErr (w.setCell ⟨g, 0, none⟩ u) base er r := by
  match r, h with
  | none, h => exact h
  | some (c, none), h => exact h
  | some (c, some p), ⟨k, hk, h1, h2⟩ => exact ⟨k, hk, h1, h2.far (by show k ≠ g; omega) u⟩
theorem PRes.put {w : World} {base g : Nat} {r er : Value} {x : (Nat × Option Nat) ⊕ PairL} (h : PRes w base r er x) (hg : g < base) (u : Value) : PRes (w.setCell ⟨g, 0, none⟩ u) base r er x := by
  match x, h with
  | .inl e, ⟨h1, h2⟩ => exact ⟨h1, h2.put hg u⟩
  | .inr l, ⟨h1, h2⟩ => exact ⟨h1, MRow.keep h2 fun k hk => Below.heap_setCell _ _ _ _ (by have := (MRow.lt h2 k hk).1; show k ≠ g; omega)⟩
theorem PErr.below {w w' : World} {base B : Nat} {er : Value} {r : Option (Nat × Option Nat)} (h : PErr w base er r) (hb : Below B w w') (hB : w.heap.size ≤ B) : PErr w' base er r := by
  match r, h with
  | none, h => exact h
  | some (c, none), h => exact h
  | some (c, some p), ⟨k, hk, h1, h2⟩ => exact ⟨k, hk, h1, h2.below hb (Nat.lt_of_lt_of_le h2.lt hB)⟩
theorem PRes.below {w w' : World} {base B : Nat} {r er : Value} {x : (Nat × Option Nat) ⊕ PairL} (h : PRes w base r er x) (hb : Below B w w') (hB : w.heap.size ≤ B) : PRes w' base r er x := by
  match x, h with
  | .inl e, ⟨h1, h2⟩ => exact ⟨h1, h2.below hb hB⟩
  | .inr l, ⟨h1, h2⟩ => exact ⟨h1, MRow.below h2 hb hB⟩
theorem gadd_end (g : Nat) (T s : ByteArray) (m : Int) (w w0 : World) (hB : GBlk w g T m) (hm : 0 ≤ m ∧ m ≤ 20000) (hT : T.size ≤ 20000) (h : s.size ≤ m - T.size) (hbw : Below w0.heap.size w0 w) (hg : w0.heap.size ≤ g) (hL : LaidE w0) (hS : w0.ShapedOpen Tryz.prog) :
    Calls Tryz.prog 68 #[.pointer (some ⟨g, 0, none⟩), .string s, .bool false] w fun e w' => ∃ r er, e = .returned (.tuple #[r, er]) ∧ PRes w' w.heap.size r er (parseGo ((T ++ s).size + 1) (T ++ s).data.toList 0) ∧ GBlk w' g ⟨#[]⟩ m ∧ Below w0.heap.size w0 w' ∧ w.grownBy w' (some g) := by
  obtain ⟨c0, c1, c2⟩ := hB.cells
  have hs : s.size ≤ 20000 := by omega
  go_enter Tryz.func68, Tryz.ntmps68
  go_wp2_with fail
  go_quiet (fail)
  have hB1 : GBlk ((w.drewN nq).setCell ⟨g, 0, none⟩ (.string (T ++ s))) g (T ++ s) m := (Blk.drewN hB nq).put 0 _
  have hb1 : Below w0.heap.size w0 ((w.drewN nq).setCell ⟨g, 0, none⟩ (.string (T ++ s))) := (below_dP hbw nq).setCell hg _
  have hz1 : ((w.drewN nq).setCell ⟨g, 0, none⟩ (.string (T ++ s))).heap.size = w.heap.size := by simp [World.setCell]
  have HZ1 := Lib.hid hz1
  have hg1 := grown_put w nq g (.string (T ++ s))
  clear hz1
  go_wp2_with fail
  refine (parse_any (T ++ s) _ (hL.on hb1) (shaped_on hS hb1) (by rw [ByteArray.size_append]; omega)).mono ?_
  rintro e w2 ⟨r, er, rfl, hr, hb2⟩
  have hgl : g < w.heap.size := Blk.lt hB
  rw [HZ1.out] at hr hb2
  have hB2 : GBlk w2 g (T ++ s) m := Blk.below hB1 hb2 hgl
  obtain ⟨d0, d1, d2⟩ := hB2.cells
  have hle := hbw.size
  have hbw2 : Below w0.heap.size w0 w2 := hb1.trans (hb2.mono hle)
  clear c0 c1 c2 hB hB1
  go_wp2_with fail
  go_ret2
  refine ⟨r, er, rfl, hr.put hgl _, Blk.put hB2 0 _, hbw2.setCell hg _, ?_⟩
  rw [← HZ1.out] at hb2
  exact grown_trans hg1 (grown_trans (grown_below hb2) (grown_put w2 0 g _))
theorem pequal_same (l : PairL) (v v2 : Value) (w : World) (hv : SRd w v 2 l.length (pairCells l)) (hv2 : SRd w v2 2 l.length (pairCells l)) : Calls Tryz.prog 32 #[v, v2] w fun e w' =>
    e = .returned (.bool true) ∧ ∃ k, w' = w.drewN k := by
  obtain ⟨hlen, A, cap, rfl, hcap, hmax, hcell⟩ := hv
  obtain ⟨_, A2, cap2, rfl, hcap2, hmax2, hcell2⟩ := hv2
  have HC := Lib.hid hcell
  have HC2 := Lib.hid hcell2
  unfold maxLen at hmax
  clear hcell hcell2 hlen
  go_enter Tryz.func32, Tryz.ntmps32
  go_wp2_with fail
  go_loopw [13] (fun i wr => ∃ (k n : Nat), k ≤ l.length ∧ i = .int .i64 k ∧ wr = w.drewN n) (fun i _ => l.length - (intOf i).toNat)
  case atStart => exact ⟨0, 0, Nat.zero_le _, rfl, rfl⟩
  case round =>
    obtain ⟨k, nd, hk, rfl, rfl⟩ := hrel
    by_cases hlt : k < l.length
    · obtain ⟨p, hp⟩ : ∃ p, l[k]? = some p := ⟨_, List.getElem?_eq_getElem hlt⟩
      obtain ⟨b, o, rfl, hbl, hcc⟩ := HC.out (by omega)
      have hc := pairCells_at l k p hp
      obtain ⟨b2, o2, rfl, hbl2, hcc2⟩ := HC2.out (by omega)
      have c0 := hcc _ _ hc.1
      have c1 := hcc _ _ hc.2
      have d0 := hcc2 _ _ hc.1
      have d1 := hcc2 _ _ hc.2
      rw [Nat.mul_comm] at c0 c1 d0 d1
      rw [← Nat.add_assoc] at c1 d1
      clear hc hcc hcc2 hp
      go_wp2_with fail
      go_quiet (fail)
      go_wp2_with fail
      go_roundw
      case rel => exact ⟨k + 1, _, by omega, by go_num, rfl⟩
      case measure => simp [intOf]; omega
    · go_wp2_with fail
      go_ret
      exact ⟨rfl, nd, rfl⟩
def axL : PairL := [(⟨#[65]⟩, ⟨#[120]⟩)]
theorem parse_ax : parseGo 5 [65, 61, 120, 0] 0 = .inr axL := by decide +kernel
set_option maxRecDepth 20000 in
set_option maxHeartbeats 4000000 in
theorem gathered_fact (w : World) (hL : LaidE w) (hS : w.ShapedOpen Tryz.prog) : Calls Tryz.prog 35 #[] w fun e w' => e = .returned (.bool true) ∧ Below w.heap.size w w' := by
  go_enter Tryz.func35, Tryz.ntmps35
  go_wp2_with fail
  refine (gnew_ok 20 _ (by omega) (by omega)).mono ?_
  rintro e w1 ⟨rfl, rfl⟩
  have hB1 : GBlk (w.alloc (.cells #[.string ⟨#[]⟩, .int .i64 20] 175)) w.heap.size ⟨#[]⟩ 20 := Blk.new w _ _
  have hb1 : Below w.heap.size w (w.alloc (.cells #[.string ⟨#[]⟩, .int .i64 20] 175)) := (Below.refl _ _).alloc (Nat.le_refl _) _
  go_wp2_with fail
  refine (gadd_more w.heap.size ⟨#[]⟩ ⟨#[65, 61]⟩ 20 _ w hB1 (by omega) (by decide) (by decide) hb1 (Nat.le_refl _)).mono ?_
  rintro e w2 ⟨rfl, hB2, hb2, _⟩
  clear hB1 hb1
  go_wp2_with fail
  refine (gadd_end w.heap.size ⟨#[65, 61]⟩ ⟨#[120, 0]⟩ 20 _ w hB2 (by omega) (by decide) (by decide) hb2 (Nat.le_refl _) hL hS).mono ?_
  rintro e w3 ⟨r, er, rfl, hr, hB3, hb3, _⟩
  rw [show ((⟨#[65, 61]⟩ : ByteArray) ++ ⟨#[120, 0]⟩).data.toList = [65, 61, 120, 0] from rfl, show ((⟨#[65, 61]⟩ : ByteArray) ++ ⟨#[120, 0]⟩).size + 1 = 5 from rfl, parse_ax] at hr
  obtain ⟨rfl, hr⟩ := hr
  have hs2 := hb2.size
  have hg2 : w.heap.size < w2.heap.size := Blk.lt hB2
  clear hB2 hb2
  go_wp2_with fail
  refine (gadd_full w.heap.size ⟨#[]⟩ _ 20 true _ w hB3 (by omega) (by decide) (by decide) (by decide) hb3 (Nat.le_refl _)).mono ?_
  rintro e w4 ⟨rfl, hB4, hb4, hg4⟩
  have hr4 := hr.past hg4 hg2
  have hrd := SRd.of_m hr4
  have hL4 := hL.on hb4
  have hgl4 : w.heap.size < w4.heap.size := Blk.lt hB4
  clear hr hB3 hb3 hg4
  go_wp2_with fail
  refine (tell_errno 12 _ hL4).mono ?_
  rintro e w5 ⟨rfl, hb5⟩
  have hrd5 := hrd.on hb5
  have hB5 : GBlk w5 w.heap.size ⟨#[]⟩ 20 := Blk.below hB4 hb5 hgl4
  have hbw5 := below_step' hb4 hb5
  go_wp2_with fail
  refine (pequal_same axL r _ _ (hrd5.on ((Below.refl _ _).alloc (Nat.le_refl _) _)) ⟨rfl, _, 1, rfl, by decide, by decide, fun _ => ⟨w5.heap.size, 0, rfl, by simp, ?_⟩⟩).mono ?_
  · intro j u hu
    rw [Nat.zero_add, (Blk.new w5 _ _).cell j]
    exact (Array.getElem?_toList ..).symm.trans hu
  rintro e w6 ⟨rfl, k6, rfl⟩
  go_wp2_with fail
  refine (gsize_any w.heap.size ⟨#[]⟩ 20 _ ((Blk.alloc hB5 _).drewN k6)).mono ?_
  rintro e w7 ⟨rfl, rfl⟩
  go_wp2_with fail
  go_ret
  exact ⟨rfl, below_dP (hbw5.alloc hbw5.size _) _⟩
end Go.Proofs.YtamlepacljjpiaaGreatDoor

/- The contract of pairs.Find; the fact of pairs; thick. -/
namespace Go.Proofs.YtamlepacljjpiaaGreatDoor
open Go.ChangeShapes Go.WideShapes Go.ChangeAt Go.RowKit
set_option linter.unusedVariables false
def findB : PairL → ByteArray → Option ByteArray
  | [], _ => none
  | p :: l, k => if p.1.data.toList = k.data.toList then some p.2 else findB l k
def findV : Option ByteArray → Value
  | none => .tuple #[.string ⟨#[]⟩, .bool false]
  | some v => .tuple #[.string v, .bool true]
set_option maxHeartbeats 2000000 in
theorem find_any (l : PairL) (v : Value) (key : ByteArray) (w : World) (hv : SRd w v 2 l.length (pairCells l)) : Calls Tryz.prog 62 #[v, .string key] w fun e w' =>
    e = .returned (findV (findB l key)) ∧ Below w.heap.size w w' := by
  obtain ⟨hlen, A, cap, rfl, hcap, hmax, hcell⟩ := hv
  have HC := Lib.hid hcell
  unfold maxLen at hmax
  clear hcell hlen
  go_enter Tryz.func62, Tryz.ntmps62
  go_wp2_with fail
  go_loopw [10] (fun i wr => ∃ k : Nat, k ≤ l.length ∧ i = .int .i64 k ∧ findB l key = findB (l.drop k) key ∧ Below w.heap.size w wr) (fun i _ => l.length - (intOf i).toNat)
  case atStart => exact ⟨0, Nat.zero_le _, rfl, by rw [List.drop_zero], Below.refl _ _⟩
  case round =>
    obtain ⟨k, hk, rfl, hgo, hbw⟩ := hrel
    have HG := Lib.hid hgo
    clear hgo
    have hs0 := hbw.size
    by_cases hlt : k < l.length
    · obtain ⟨p, hp⟩ : ∃ p, l[k]? = some p := ⟨_, List.getElem?_eq_getElem hlt⟩
      obtain ⟨b, o, rfl, hbl, hcc⟩ := HC.out (by omega)
      have hc := pairCells_at l k p hp
      have c0 := (hbw.cell (p := ⟨b, o + 2 * k, none⟩) hbl).trans (hcc _ _ hc.1)
      have c1 := (hbw.cell (p := ⟨b, o + (2 * k + 1), none⟩) hbl).trans (hcc _ _ hc.2)
      rw [Nat.mul_comm] at c0 c1
      rw [← Nat.add_assoc] at c1
      have hdrop : l.drop k = p :: l.drop (k + 1) := by
        rw [List.drop_eq_getElem_cons hlt]
        rw [List.getElem?_eq_getElem hlt] at hp
        rw [Option.some.inj hp]
      have HD := Lib.hid hdrop
      clear hc hcc hdrop hp
      obtain ⟨p1, p2⟩ := p
      simp only at c0 c1
      by_cases he : p1.data.toList = key.data.toList
      · have f1 : (p1.toList == key.toList) = true := by rw [toList_of, toList_of, he]; simp
        have hz : findB l key = some p2 := by rw [HG.out, HD.out, findB, if_pos he]
        have HZ := Lib.hid hz
        clear hz he
        go_wp2_with fail
        go_ret2
        exact ⟨by rw [HZ.out]; rfl, hbw.alloc hs0 _⟩
      · have f1 : (p1.toList == key.toList) = false := by rw [toList_of, toList_of]; simpa using he
        have hz : findB l key = findB (l.drop (k + 1)) key := by rw [HG.out, HD.out, findB, if_neg he]
        have HZ := Lib.hid hz
        clear hz he
        go_wp2_with fail
        go_roundw
        case rel => exact ⟨k + 1, by omega, by go_num, HZ.out, hbw.alloc hs0 _⟩
        case measure => simp [intOf]; omega
    · have hz : findB l key = none := by rw [HG.out, List.drop_eq_nil_of_le (by omega), findB]
      have HZ := Lib.hid hz
      clear hz
      go_wp2_with fail
      go_ret2
      exact ⟨by rw [HZ.out]; rfl, hbw⟩
theorem thick_any (l : PairL) (v : Value) (w : World) (hv : SRd w v 2 l.length (pairCells l)) (hd : ∀ p ∈ l, psmall p) : Calls Tryz.prog 40 #[v] w fun e w' =>
    ∃ b, e = .returned (.bool b) ∧ Below w.heap.size w w' := by
  obtain ⟨hlen, A, cap, rfl, hcap, hmax, hcell⟩ := hv
  have HC := Lib.hid hcell
  unfold maxLen at hmax
  clear hcell hlen
  go_enter Tryz.func40, Tryz.ntmps40
  go_wp2_with fail
  go_loopw [3, 10] (fun s i wr => ∃ (k : Nat) (n : Int), k ≤ l.length ∧ i = .int .i64 k ∧ s = .int .i64 n ∧ Below w.heap.size w wr) (fun _ i _ => l.length - (intOf i).toNat)
  case atStart => exact ⟨0, _, Nat.zero_le _, rfl, rfl, Below.refl _ _⟩
  case round =>
    obtain ⟨k, n, hk, rfl, rfl, hbw⟩ := hrel
    by_cases hlt : k < l.length
    · obtain ⟨p, hp⟩ : ∃ p, l[k]? = some p := ⟨_, List.getElem?_eq_getElem hlt⟩
      obtain ⟨b, o, rfl, hbl, hcc⟩ := HC.out (by omega)
      have hc := pairCells_at l k p hp
      have c0 := (hbw.cell (p := ⟨b, o + 2 * k, none⟩) hbl).trans (hcc _ _ hc.1)
      have c1 := (hbw.cell (p := ⟨b, o + (2 * k + 1), none⟩) hbl).trans (hcc _ _ hc.2)
      rw [Nat.mul_comm] at c0 c1
      rw [← Nat.add_assoc] at c1
      have hdp := hd p (List.mem_of_getElem? hp)
      clear hc hcc hp
      obtain ⟨p1, p2⟩ := p
      obtain ⟨hd1, hd2⟩ := hdp
      simp only at c0 c1 hd1 hd2
      have hs0 := hbw.size
      go_wp2_with fail
      go_roundw
      case rel => exact ⟨k + 1, _, by omega, by go_num, rfl, hbw.alloc hs0 _⟩
      case measure => simp [intOf]; omega
    · go_wp2_with fail
      go_ret
      exact ⟨_, rfl, hbw⟩
def pfL : PairL := [(⟨#[65]⟩, ⟨#[120, 61, 121]⟩), (⟨#[66]⟩, ⟨#[]⟩)]
theorem pf_right : pRightR pfL = none := by decide +kernel
theorem pf_bytes : pairsB pfL = [65, 61, 120, 61, 121, 0, 66, 61, 0] := by decide +kernel
theorem pf_parse : parseGo 10 [65, 61, 120, 61, 121, 0, 66, 61, 0] 0 = .inr pfL := by decide +kernel
theorem pf_find : findB pfL ⟨#[65]⟩ = some ⟨#[120, 61, 121]⟩ := by decide +kernel
theorem pf_key1 : keyB [88, 45, 97] = true := by decide +kernel
theorem pf_key2 : keyB [97] = false := by decide +kernel
theorem pf_val : valB [0] = false := by decide +kernel
theorem pf_small : ∀ p ∈ pfL, psmall p := by
  intro p hp
  simp [pfL] at hp
  rcases hp with rfl | rfl <;> exact ⟨by decide, by decide⟩
set_option maxRecDepth 20000 in
set_option maxHeartbeats 4000000 in
theorem paired_fact (w : World) (hL : LaidE w) (hS : w.ShapedOpen Tryz.prog) : Calls Tryz.prog 28 #[] w fun e w' => e = .returned (.bool true) ∧ Below w.heap.size w w' := by
  have k1 : ∀ w, Calls Tryz.prog 63 #[.string ⟨#[88, 45, 97]⟩] w fun e w' => e = .returned (.bool true) ∧ w = w' := fun w => by
    have := key_any ⟨#[88, 45, 97]⟩ w (by decide); rw [show (ByteArray.mk #[88, 45, 97]).data.toList = [88, 45, 97] from rfl, pf_key1] at this; exact this
  have k2 : ∀ w, Calls Tryz.prog 63 #[.string ⟨#[97]⟩] w fun e w' => e = .returned (.bool false) ∧ w = w' := fun w => by
    have := key_any ⟨#[97]⟩ w (by decide); rw [show (ByteArray.mk #[97]).data.toList = [97] from rfl, pf_key2] at this; exact this
  have k3 : ∀ w, Calls Tryz.prog 33 #[.string ⟨#[0]⟩] w fun e w' => e = .returned (.bool false) ∧ w = w' := fun w => by
    have := value_any ⟨#[0]⟩ w (by decide); rw [show (ByteArray.mk #[0]).data.toList = [0] from rfl, pf_val] at this; exact this
  have K1 := Lib.hid k1
  have K2 := Lib.hid k2
  have K3 := Lib.hid k3
  clear k1 k2 k3
  go_enter Tryz.func28, Tryz.ntmps28
  go_wp2_with fail
  refine (print_ok pfL _ _ ⟨rfl, _, 2, rfl, by decide, by decide, fun _ => ⟨w.heap.size, 0, rfl, by simp, ?_⟩⟩ pf_small pf_right).mono ?_
  · intro j u hu
    rw [Nat.zero_add, (Blk.new w _ _).cell j]
    exact (Array.getElem?_toList ..).symm.trans hu
  rintro e w1 ⟨rfl, hb1⟩
  rw [pf_bytes]
  have hbw1 : Below w.heap.size w w1 := ((Below.refl _ _).alloc (Nat.le_refl _) _).trans (hb1.mono (by simp))
  go_wp2_with fail
  refine (parse_any _ _ (hL.on hbw1) (shaped_on hS hbw1) (by decide)).mono ?_
  rintro e w2 ⟨r, er, rfl, hr, hb2⟩
  rw [show (ByteArray.mk #[65, 61, 120, 61, 121, 0, 66, 61, 0]).data.toList = [65, 61, 120, 61, 121, 0, 66, 61, 0] from rfl, show (ByteArray.mk #[65, 61, 120, 61, 121, 0, 66, 61, 0]).size + 1 = 10 from rfl, pf_parse] at hr
  obtain ⟨rfl, hr⟩ := hr
  have hbw2 := below_step hbw1 hb2
  have hrd := SRd.of_m hr
  go_wp2_with fail
  refine (find_any pfL r _ _ hrd).mono ?_
  rintro e w3 ⟨rfl, hb3⟩
  have hbw3 := below_step hbw2 hb3
  rw [pf_find, findV]
  obtain ⟨A, cap, rfl, _⟩ := MRow.form hr
  rw [show pfL.length = 2 from rfl]
  clear hr hrd
  go_wp2_with fail
  refine (K1.out _).mono ?_
  rintro e w4 ⟨rfl, rfl⟩
  go_wp2_with fail
  refine (K2.out _).mono ?_
  rintro e w4 ⟨rfl, rfl⟩
  go_wp2_with fail
  refine (K3.out _).mono ?_
  rintro e w4 ⟨rfl, rfl⟩
  go_wp2_with fail
  go_ret
  exact ⟨rfl, hbw3⟩
end Go.Proofs.YtamlepacljjpiaaGreatDoor

/- Rows of pairs that a call makes: append of one, of many; slices.Clone. -/
namespace Go.Proofs.YtamlepacljjpiaaGreatDoor
open Go.ChangeShapes Go.WideShapes Go.ChangeAt Go.RowKit
set_option linter.unusedVariables false
theorem step_append_pair (w : World) {ops : Array Oper} {o : Oper} {a : Act} {K : Act → World → Prop} {Q : Exit → Act → World → Prop} {E : Prop} (hgd : o.guard = none) (s x : Operand)
    (ho : o.op = .call { callee := .builtin .append, args := #[s, x], argTypes := #[27, 27] })
    (base : Nat) (v : Value) (l : PairL) (hs : a.eval s = v) (hown : PRow w base v l)
    (ad : Addr) (c : Nat) (p : ByteArray × ByteArray) (hx : a.eval x = .slice (some ad) 1 c) (h0 : w.cell? (ad.add 0) = some (.string p.1)) (h1 : w.cell? (ad.add 1) = some (.string p.2)) (hlen : (l.length + 1) * 32 ≤ 140737488355328) (hbase : base ≤ w.heap.size) {w0 : World} (hbel : Below base w0 w)
    (h : ∀ v' w', PRow w' base v' (l ++ [p]) → Below base w0 w' → w.grownBy w' v.ownBlock → K (a.put o.dst v') w') : if Region.wanted o (yielded ops a.tmps) = true then Oper.wp Tryz.prog o a w K Q else E := by
  rw [if_pos (by simp [Region.wanted, hgd])]
  obtain ⟨i0, hi, hz0, hz1, hz2⟩ := info_parts infoPair
  refine wp_append_m w s x _ ho base 62 i0 _ 2 32 Tryz.underlying27 hi hz0 hz1 hz2 rfl (by decide) v l.length _ hs hown ad 1 c [.string p.1, .string p.2] hx (by simp) ?_ ?_ (by unfold maxLen; omega) (by omega) hbase ?_
  · intro j u hu
    match j with
    | 0 => cases hu; exact h0
    | 1 => cases hu; exact h1
    | j + 2 => simp at hu
  · intro u hu
    simp at hu
    rcases hu with rfl | rfl <;> rfl
  · intro v' w' r1 r2 r3
    refine h v' w' ?_ (hbel.grown r2 hbase fun k hk => (hown.lt k hk).1) r2
    unfold PRow
    rw [List.length_append, pairCells_snoc]
    exact r1
theorem wpList_append_pairs (w : World) {ops : Array Oper} {rest : List Oper} {o : Oper} {a : Act} {Q : Exit → Act → World → Prop} (hgd : o.guard = none) (s x : Operand)
    (ho : o.op = .call { callee := .builtin .append, args := #[s, x], argTypes := #[27, 27] })
    (base : Nat) (v : Value) (l : PairL) (hs : a.eval s = v) (hown : PRow w base v l)
    (vx : Value) (m : PairL) (hx : a.eval x = vx) (hm : SRd w vx 2 m.length (pairCells m)) (hlen : (l.length + m.length) * 32 ≤ 140737488355328) (hbase : base ≤ w.heap.size) {w0 : World} (hbel : Below base w0 w)
    (h : ∀ v' w', PRow w' base v' (l ++ m) → Below base w0 w' → w.grownBy w' v.ownBlock → wpList Tryz.prog ops Q rest (a.put o.dst v') w') : wpList Tryz.prog ops Q (o :: rest) a w := by
  obtain ⟨i0, hi, hz0, hz1, hz2⟩ := info_parts infoPair
  obtain ⟨h1, A, cap, rfl, h2, h3, h4⟩ := hm
  rcases A with _ | ad
  · have hm0 : m = [] := by
      rcases m with _ | ⟨p, m⟩
      · rfl
      · obtain ⟨b, o, hA, _⟩ := h4 (by simp)
        cases hA
    subst hm0
    have hrun : (Builtin.append_ #[27, 27] o.type #[v, .slice none 0 cap]).run Tryz.prog w = .ok v w := by
      rcases hown.2 with ⟨rfl, h0⟩ | ⟨g, cap', cur, rfl, _, _, hnc, _⟩
      · simp [Builtin.append_, run_underlying Tryz.underlying27, sizeOf, typeInfo, hi, Builtin.lenOf, Builtin.firstCells]
      · simp [Builtin.append_, run_underlying Tryz.underlying27, sizeOf, typeInfo, hi, Builtin.lenOf, Builtin.firstCells, hnc, storeCells]
    refine Lib.wpList_append_run w hgd s x _ _ ho v _ hs hx v w hrun (h v w (by rw [List.append_nil]; exact hown) hbel ⟨rfl, rfl, rfl, Nat.le_refl _, fun _ _ _ => rfl⟩)
  · refine wpList_plain hgd fun _ hK => wp_append_m w s x _ ho base 62 i0 _ 2 32 Tryz.underlying27 hi hz0 hz1 hz2 rfl (by decide) v l.length _ hs hown ad m.length cap (pairCells m) hx (by rw [pairCells_len, Nat.mul_comm]) ?_ ?_ (by unfold maxLen; omega) (by omega) hbase ?_
    · intro j u hu
      have hpos : 0 < m.length := by
        have := (List.getElem?_eq_some_iff.1 hu).1
        rw [pairCells_len] at this
        omega
      obtain ⟨b, o, hA, _, hc⟩ := h4 hpos
      obtain rfl := Option.some.inj hA
      rw [Addr.add_lit]
      exact hc j u hu
    · intro u hu
      simp only [pairCells, List.mem_flatMap] at hu
      obtain ⟨q, _, hq⟩ := hu
      simp at hq
      rcases hq with rfl | rfl <;> rfl
    · intro v' w' r1 r2 _
      refine hK _ _ (h v' w' ?_ (hbel.grown r2 hbase fun k hk => (hown.lt k hk).1) r2)
      unfold PRow
      rw [List.length_append, pairCells_append]
      exact r1
set_option maxHeartbeats 2000000 in
theorem clone_pair (l : PairL) (v : Value) (w : World) (hv : SRd w v 2 l.length (pairCells l)) (hl : l.length * 32 ≤ 140737488351232) : Calls Tryz.prog 42 #[v] w fun e w' =>
    ∃ u, e = .returned u ∧ PRow w' w.heap.size u l ∧ Below w.heap.size w w' := by
  have hv0 := hv
  obtain ⟨hlen, A, cap, rfl, hcap, hmax, hcell⟩ := hv
  unfold maxLen at hmax
  have hnil : A = none → l = [] := by
    intro hA
    rcases l with _ | ⟨p, l⟩
    · rfl
    · obtain ⟨b, o, hA2, _⟩ := hcell (by simp)
      rw [hA] at hA2; cases hA2
  clear hcell hlen
  have heq := fun (w : World) (a : Option Addr) (n c : Nat) => Lib.run_eql_slice_nil (P := Tryz.prog) w 27 62 a n c 0 0 Tryz.underlying27
  go_enter Tryz.func42, Tryz.ntmps42
  rcases A with _ | a
  · have h0 := hnil rfl
    subst h0
    clear hnil
    go_wp2_with fail
    go_ret
    exact ⟨_, rfl, MRow.nil _ _ _ _, Below.refl _ _⟩
  · have hown : PRow (w.alloc (.cells #[] 62)) w.heap.size (.slice (some ⟨w.heap.size, 0, none⟩) 0 0) [] :=
      ⟨rfl, .inr ⟨w.heap.size, 0, #[], rfl, Nat.le_refl _, BlkM.of_blk (Blk.new w _ _), Nat.le_refl _, by decide, rfl, rfl⟩⟩
    have hb0 : Below w.heap.size w (w.alloc (.cells #[] 62)) := (Below.refl _ _).alloc (Nat.le_refl _) _
    have hv1 := hv0.on hb0
    go_wp2_with (at_builtin; refine wpList_append_pairs _ rfl _ _ rfl w.heap.size _ [] rfl hown _ l rfl hv1 (by simp; omega) (by simp) (w0 := w) hb0 ?_)
    intro v1 w1 hr1 hb1 hg1
    go_wp2_with fail
    go_ret
    exact ⟨_, rfl, hr1, hb1⟩
end Go.Proofs.YtamlepacljjpiaaGreatDoor

/- Keys and values as text: what is read is right, and is written so; what is written is read; cut: the plain laws. -/
namespace Go.Proofs.YtamlepacljjpiaaGreatDoor
set_option linter.unusedVariables false
theorem cut_true {s x r : List UInt8} {c : UInt8} (h : Lib.cut s [c] = (x, r, true)) : s = x ++ c :: r ∧ ∀ y ∈ x, y ≠ c := by
  by_cases hn : Lib.indexByte s c < 0
  · rw [cut_no hn] at h; cases h
  · obtain ⟨n, hn⟩ := Int.eq_ofNat_of_zero_le (show 0 ≤ Lib.indexByte s c by omega)
    rw [cut_yes hn] at h
    obtain ⟨h1, h2⟩ := Lib.indexByte_some hn
    have hlt : n < s.length := (List.getElem?_eq_some_iff.1 h1).1
    have hx : x = s.take n := (congrArg Prod.fst h).symm
    have hr : r = s.drop (n + 1) := (congrArg (fun t => t.2.1) h).symm
    subst hx hr
    refine ⟨?_, fun y hy => ?_⟩
    · have e : s.drop n = c :: s.drop (n + 1) := by
        rw [List.drop_eq_getElem_cons hlt]
        rw [List.getElem?_eq_getElem hlt] at h1
        rw [Option.some.inj h1]
      rw [← e, List.take_append_drop]
    · obtain ⟨k, hk, rfl⟩ := List.getElem_of_mem hy
      rw [List.length_take] at hk
      intro he
      refine h2 k (by omega) ?_
      rw [List.getElem?_eq_getElem (by omega), ← he, List.getElem_take]
theorem cut_none {s : List UInt8} {c : UInt8} (h : ∀ y ∈ s, y ≠ c) : (Lib.cut s [c]).2.2 = false := by
  by_cases hn : Lib.indexByte s c < 0
  · rw [cut_no hn]
  · obtain ⟨n, hn⟩ := Int.eq_ofNat_of_zero_le (show 0 ≤ Lib.indexByte s c by omega)
    obtain ⟨h1, _⟩ := Lib.indexByte_some hn
    obtain ⟨hlt, he⟩ := List.getElem?_eq_some_iff.1 h1
    exact absurd he (h _ (List.getElem_mem hlt))
theorem right1_zero {k v : List UInt8} (h : right1 k v = 0) : keyB k = true ∧ valB v = true := by
  unfold right1 at h
  split at h
  · cases h
  · split at h
    · cases h
    · rename_i h1 h2
      exact ⟨by simpa using h1, by simpa using h2⟩
theorem parse_ok : ∀ (f : Nat) (s : List UInt8) (i : Nat) (l : PairL), s.length < f → i ≤ 60 → parseGo f s i = .inr l → pairsB l = s ∧ (∀ p ∈ l, keyB p.1.data.toList = true ∧ valB p.2.data.toList = true) ∧ l.length + i ≤ 60
  | 0, s, i, l, hf, _, _ => by omega
  | f + 1, s, i, l, hf, hi, h => by
    rw [parseGo] at h
    split at h
    · rename_i h0
      cases h
      have : s = [] := by simpa using h0
      subst this
      exact ⟨rfl, fun p hp => (List.not_mem_nil hp).elim, by simpa using hi⟩
    · split at h
      · cases h
      · rename_i h0 h1
        obtain ⟨⟨x, r, b⟩, hc⟩ : ∃ t, Lib.cut s [0] = t := ⟨_, rfl⟩
        rw [hc] at h h1
        simp only at h h1
        have hb : b = true := by simpa using h1
        subst hb
        split at h
        · cases h
        · rename_i h2
          obtain ⟨⟨k, v, b2⟩, hc2⟩ : ∃ t, Lib.cut x [61] = t := ⟨_, rfl⟩
          rw [hc2] at h h2
          simp only at h h2
          have hb : b2 = true := by simpa using h2
          subst hb
          split at h
          · cases h
          · rename_i h60
            split at h
            · cases h
            · rename_i hr1
              have hr1 : right1 k v = 0 := by simpa using hr1
              obtain ⟨e1, _⟩ := cut_true hc
              obtain ⟨e2, _⟩ := cut_true hc2
              obtain ⟨k1, k2⟩ := right1_zero hr1
              have hlr : r.length < s.length := by rw [e1, List.length_append, List.length_cons]; omega
              split at h
              · cases h
              · rename_i m hm
                cases h
                obtain ⟨i1, i2, i3⟩ := parse_ok f r (i + 1) m (by omega) (by omega) hm
                refine ⟨?_, ?_, ?_⟩
                · show pairB _ ++ pairsB m = s
                  rw [i1, e1, e2]
                  simp [pairB]
                · intro p hp
                  rcases List.mem_cons.1 hp with rfl | hp
                  · exact ⟨k1, k2⟩
                  · exact i2 p hp
                · rw [List.length_cons]; omega
theorem keyGo_mem : ∀ (l : List UInt8) (i : Nat), keyGo l i = true → ∀ c ∈ l, greatB c = true ∨ mayB c = true
  | [], _, _, c, hc => (List.not_mem_nil hc).elim
  | d :: l, i, h, c, hc => by
    rw [keyGo] at h
    split at h
    · rename_i h1
      rcases List.mem_cons.1 hc with rfl | hc
      · rcases h1 with h1 | h1
        · exact .inl h1
        · exact .inr h1.2
      · exact keyGo_mem l _ h c hc
    · cases h
theorem char_ne (c : UInt8) (h : greatB c = true ∨ mayB c = true) : c ≠ 61 ∧ c ≠ 0 := by
  constructor
  · rintro rfl
    exact absurd h (by decide +kernel)
  · rintro rfl
    exact absurd h (by decide +kernel)
theorem keyB_mem {l : List UInt8} (h : keyB l = true) : ∀ c ∈ l, c ≠ 61 ∧ c ≠ 0 := by
  intro c hc
  unfold keyB at h
  rw [Bool.and_eq_true] at h
  exact char_ne c (keyGo_mem l 0 h.1 c hc)
theorem valB_mem {l : List UInt8} (h : valB l = true) : ∀ c ∈ l, c ≠ 0 := by
  intro c hc
  unfold valB at h
  rw [Bool.and_eq_true, List.all_eq_true] at h
  have := h.1 c hc
  rintro rfl
  exact absurd this (by decide)
theorem keyB_ne {l : List UInt8} (h : keyB l = true) : l ≠ [] := by
  rintro rfl
  exact absurd h (by decide)
theorem right1_ok {k v : List UInt8} (h1 : keyB k = true) (h2 : valB v = true) : right1 k v = 0 := by
  unfold right1
  rw [if_neg (by rw [h1]; simp), if_neg (by rw [h2]; simp)]
def rightP (l : PairL) : Prop := ∀ p ∈ l, keyB p.1.data.toList = true ∧ valB p.2.data.toList = true
theorem parse_step (p : ByteArray × ByteArray) (t : List UInt8) (f i : Nat) (h1 : keyB p.1.data.toList = true) (h2 : valB p.2.data.toList = true) (hi : i < 60) :
    parseGo (f + 1) (pairB p ++ t) i = pAcc [p] (parseGo f t (i + 1)) := by
  have hk := keyB_mem h1
  have hv := valB_mem h2
  have e1 : pairB p ++ t = (p.1.data.toList ++ 61 :: p.2.data.toList) ++ 0 :: t := by simp [pairB]
  have hc : Lib.cut (pairB p ++ t) [0] = (p.1.data.toList ++ 61 :: p.2.data.toList, t, true) := by
    rw [e1]
    refine cut_append _ _ _ fun y hy => ?_
    rcases List.mem_append.1 hy with hy | hy
    · exact (hk y hy).2
    · rcases List.mem_cons.1 hy with rfl | hy
      · decide
      · exact hv y hy
  have hc2 : Lib.cut (p.1.data.toList ++ 61 :: p.2.data.toList) [61] = (p.1.data.toList, p.2.data.toList, true) := cut_append _ _ _ fun y hy => (hk y hy).1
  rw [parseGo, if_neg (by rw [e1]; simp), hc]
  simp only
  rw [if_neg (by simp), hc2]
  simp only
  rw [if_neg (by simp), if_neg (by omega), if_neg (by rw [right1_ok h1 h2]; simp)]
  have ep : ((⟨p.1.data.toList.toArray⟩ : ByteArray), (⟨p.2.data.toList.toArray⟩ : ByteArray)) = p := by
    rw [← str_of, ← str_of]
  rw [ep]
  cases parseGo f t (i + 1) <;> rfl
theorem parse_app : ∀ (l : PairL) (t : List UInt8) (f i : Nat), rightP l → i + l.length ≤ 60 → (pairsB l ++ t).length < f → ∃ f', t.length < f' ∧ parseGo f (pairsB l ++ t) i = pAcc l (parseGo f' t (i + l.length))
  | [], t, f, i, _, _, hf => ⟨f, by simpa [pairsB] using hf, by
      have e : pairsB [] = [] := rfl
      rw [e, List.nil_append, List.length_nil, Nat.add_zero]
      cases parseGo f t i <;> rfl⟩
  | p :: l, t, f, i, h, hi, hf => by
    obtain ⟨f, rfl⟩ : ∃ f', f = f' + 1 := ⟨f - 1, by omega⟩
    have e : pairsB (p :: l) ++ t = pairB p ++ (pairsB l ++ t) := by simp [pairsB]
    obtain ⟨h1, h2⟩ := h p (by simp)
    rw [List.length_cons] at hi
    rw [e, List.length_append, pairB_len] at hf
    obtain ⟨f', hf', he⟩ := parse_app l t f (i + 1) (fun q hq => h q (by simp [hq])) (by omega) (by omega)
    refine ⟨f', hf', ?_⟩
    rw [e, parse_step p _ f i h1 h2 (by omega), he, pAcc_pAcc, List.length_cons]
    congr 2
    omega
theorem parse_pairsB (l : PairL) (f : Nat) (h : rightP l) (hl : l.length ≤ 60) (hf : (pairsB l).length < f) : parseGo f (pairsB l) 0 = .inr l := by
  obtain ⟨f', hf', he⟩ := parse_app l [] f 0 h (by omega) (by simpa using hf)
  rw [List.append_nil] at he
  rw [he]
  obtain ⟨f', rfl⟩ : ∃ g, f' = g + 1 := ⟨f' - 1, by simp at hf'; omega⟩
  rw [parseGo, if_pos (show ([] : List UInt8).isEmpty = true from rfl)]
  simp [pAcc]
theorem parse_cutoff (l : PairL) (p : ByteArray × ByteArray) (f : Nat) (h : rightP (l ++ [p])) (hl : l.length + 1 ≤ 60) (hf : (pairsB (l ++ [p])).length ≤ f) :
    parseGo f ((pairsB (l ++ [p])).take ((pairsB (l ++ [p])).length - 1)) 0 = .inl (7, some l.length) := by
  have e : (pairsB (l ++ [p])).take ((pairsB (l ++ [p])).length - 1) = pairsB l ++ (p.1.data.toList ++ 61 :: p.2.data.toList) := by
    have e1 : pairsB (l ++ [p]) = (pairsB l ++ (p.1.data.toList ++ 61 :: p.2.data.toList)) ++ [0] := by
      rw [pairsB_snoc]; simp [pairB]
    rw [e1, List.length_append, List.length_singleton, Nat.add_sub_cancel, List.take_left]
  obtain ⟨h1, h2⟩ := h p (by simp)
  have hz : (pairsB (l ++ [p])).length = (pairsB l).length + (p.1.size + p.2.size + 2) := by rw [pairsB_snoc, List.length_append, pairB_len]
  rw [e]
  obtain ⟨f', hf', he⟩ := parse_app l (p.1.data.toList ++ 61 :: p.2.data.toList) f 0 (fun q hq => h q (by simp [hq])) (by omega) (by
    rw [List.length_append, List.length_append, List.length_cons, len_of, len_of]; omega)
  rw [he, Nat.zero_add]
  obtain ⟨f', rfl⟩ : ∃ g, f' = g + 1 := ⟨f' - 1, by omega⟩
  have hk := keyB_mem h1
  have hv := valB_mem h2
  rw [parseGo, if_neg (by simp), if_pos (cut_none fun y hy => by
    rcases List.mem_append.1 hy with hy | hy
    · exact (hk y hy).2
    · rcases List.mem_cons.1 hy with rfl | hy
      · decide
      · exact hv y hy)]
  rfl
theorem count_pairsB (l : PairL) (h : rightP l) : (pairsB l).count 0 = l.length := by
  induction l with
  | nil => rfl
  | cons p l ih =>
    obtain ⟨h1, h2⟩ := h p (by simp)
    have hk := keyB_mem h1
    have hv := valB_mem h2
    have c1 : p.1.data.toList.count 0 = 0 := List.count_eq_zero.2 fun hm => (hk 0 hm).2 rfl
    have c2 : p.2.data.toList.count 0 = 0 := List.count_eq_zero.2 fun hm => hv 0 hm rfl
    have e : pairsB (p :: l) = pairB p ++ pairsB l := rfl
    rw [e, List.count_append, ih fun q hq => h q (by simp [hq]), pairB, List.count_append, List.count_append, List.count_append, c1, c2, List.length_cons]
    simp
    omega
end Go.Proofs.YtamlepacljjpiaaGreatDoor
