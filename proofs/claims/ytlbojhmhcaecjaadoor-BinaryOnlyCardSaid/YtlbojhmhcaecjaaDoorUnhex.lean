/- The contract of binary.unhex. -/
import Derived.Test.YtlbojhmhcaecjaaDoorB64
import Derived.Test.YtlbojhmhcaecjaaDoorAhs
import Derived.Test.YtlbojhmhcaecjaaDoorShelf
namespace Go.Proofs.YtlbojhmhcaecjaaDoor
open Go.ChangeShapes Go.WideShapes Go.ChangeAt Go.RowKit
set_option linter.unusedVariables false
def BinErr (w : World) (base : Nat) (v : Value) : Nat × Option Nat → Prop
  | (c, none) => v = errv c
  | (c, some p) => ErrAt w base v (some (c, p))
def BinOut (w : World) (base : Nat) (r er : Value) : (Nat × Option Nat) ⊕ List UInt8 → Prop
  | .inl e => r = .string ⟨#[]⟩ ∧ BinErr w base er e
  | .inr l => r = .string ⟨l.toArray⟩ ∧ er = .nilIface
theorem idx_at (s : ByteArray) (x : Int) (c : UInt8) (h : x = c.toNat) (w : World) : Calls Tryd.prog 85 #[.string s, .int .u8 x] w fun e w' => e = .returned (.int .i64 (Lib.indexByte s.data.toList c)) ∧ w = w' := by
  refine (Tryd.strings_IndexByte s x w).mono ?_
  rintro e w' ⟨rfl, rfl⟩
  refine ⟨?_, rfl⟩
  have : x.toNat.toUInt8 = c := by rw [h]; simp
  rw [this]
theorem unhex_bad (s : ByteArray) (w : World) (h : s.size % 2 ≠ 0) (hs : s.size ≤ 70368744177664) : Calls Tryd.prog 64 #[.string s] w fun e w' => e = .returned (.tuple #[.string ⟨#[]⟩, errv 7]) ∧ w = w' := by
  have f0 : (((s.size : Int) % 2) != 0) = true := by rw [bne_iff_ne]; omega
  go_enter Tryd.func64, Tryd.ntmps64
  go_wp2_with fail
  go_ret2
  exact ⟨rfl, rfl⟩
theorem low_toNat (c : UInt8) : ((low c).toNat : Int) = if 65 ≤ c.toNat ∧ c.toNat ≤ 70 then (c.toNat : Int) + 32 else c.toNat := by
  unfold low
  split
  · rw [UInt8.toNat_add]
    show (((c.toNat + 32) % 256 : Nat) : Int) = _
    omega
  · rfl
theorem list_last (l : List UInt8) (h : l ≠ []) : ∃ l' z, l = l' ++ [z] := by
  rcases List.eq_nil_or_concat l with h0 | ⟨l', z, h1⟩
  · exact absurd h0 h
  · exact ⟨l', z, by rw [h1]; simp⟩
set_option maxHeartbeats 2000000 in
theorem unhex_any (s : ByteArray) (w : World) (h : s.size % 2 = 0) (h2 : 2 ≤ s.size) (hs : s.size ≤ 70368744177664) : Calls Tryd.prog 64 #[.string s] w fun e w' =>
    ∃ r er, e = .returned (.tuple #[r, er]) ∧ BinOut w' w.heap.size r er (binAt (unhexGo (s.data.toList.drop 2) 2 [])) ∧ Below w.heap.size w w' := by
  have f0 : (((s.size : Int) % 2) != 0) = false := by rw [bne_eq_false_iff_eq]; omega
  go_enter Tryd.func64, Tryd.ntmps64
  go_wp2_with fail
  clear f0
  go_loopw [4, 5] (fun v i wr => ∃ (k : Nat) (acc : List UInt8), 2 ≤ k ∧ k ≤ s.size ∧ i = .int .i64 k ∧ acc.length = (k - 1) / 2 ∧ BRow wr w.heap.size v acc ∧ unhexGo (s.data.toList.drop 2) 2 [] = unhexGo (s.data.toList.drop k) k acc ∧ Below w.heap.size w wr) (fun _ i _ => s.size - (intOf i).toNat)
  case atStart => exact ⟨2, [], by omega, h2, rfl, rfl, MRow.nil _ _ _ _, rfl, Below.refl _ _⟩
  case round =>
    obtain ⟨k, acc, hk2, hk, rfl, hal, hB, hgo, hbw⟩ := hrel
    have HG := Lib.hid hgo
    have HAL := Lib.hid hal
    have hab : acc.length ≤ s.size := by omega
    have hs0 := hbw.size
    clear hgo hal
    by_cases hlt : k < s.size
    · have hc := s[k].toNat_lt
      have hdrop : s.data.toList.drop k = s[k] :: s.data.toList.drop (k + 1) := by
        rw [List.drop_eq_getElem_cons (by rw [len_of]; exact hlt)]; rfl
      have hlow := low_toNat s[k]
      have HD := Lib.hid hdrop
      clear hdrop
      have h3 : (s[k].toNat < 65 ∧ (s[k].toNat : Int) = ((low s[k]).toNat : Int)) ∨ ((65 ≤ s[k].toNat ∧ s[k].toNat ≤ 70) ∧ (s[k].toNat : Int) + 32 = ((low s[k]).toNat : Int)) ∨ (70 < s[k].toNat ∧ (s[k].toNat : Int) = ((low s[k]).toNat : Int)) := by
        split at hlow <;> omega
      clear hlow
      rcases h3 with ⟨h3, h4⟩ | ⟨⟨h3, h3b⟩, h4⟩ | ⟨h3, h4⟩
      all_goals
        have HL := Lib.hid h4
        clear h4
        go_wp2_with fail
        refine (idx_at _ _ (low s[k]) (by exact HL.out) _).mono ?_
        rintro e w1 ⟨rfl, rfl⟩
        have hix := indexByte_lt hexTab (low s[k])
        rw [show (ByteArray.mk #[48, 49, 50, 51, 52, 53, 54, 55, 56, 57, 97, 98, 99, 100, 101, 102]).data.toList = hexTab from rfl]
        obtain ⟨j, hj⟩ : ∃ j, Lib.indexByte hexTab (low s[k]) = j := ⟨_, rfl⟩
        rw [hj] at hix ⊢
        have hix : j < 16 := hix
        have HJ := Lib.hid hj
        clear hj HL h3
        by_cases hneg : j < 0
        · have hz : unhexGo (s.data.toList.drop k) k acc = .inl k := by
            rw [HD.out, unhexGo, HJ.out, if_pos hneg]
          have HZ := Lib.hid hz
          clear hz
          go_wp2_with fail
          go_ret2
          refine ⟨_, _, rfl, ?_, hbw.alloc hs0 _⟩
          rw [HG.out, HZ.out]
          exact ⟨rfl, wr.heap.size, hs0, rfl, Blk.new _ _ _⟩
        · obtain ⟨n, rfl⟩ := Int.eq_ofNat_of_zero_le (show 0 ≤ j by omega)
          have hn : n < 16 := by omega
          clear hix
          by_cases hev : k % 2 = 0
          · have f1 : (((k : Int) % 2) == 0) = true := beq_iff_eq.2 (by omega)
            have hz : unhexGo (s.data.toList.drop k) k acc = unhexGo (s.data.toList.drop (k + 1)) (k + 1) (acc ++ [UInt8.ofNat (n * 16)]) := by
              rw [HD.out, unhexGo, HJ.out, if_neg (by omega), if_pos hev, Int.toNat_natCast]
            have HZ := Lib.hid hz
            clear hz
            obtain ⟨q, hq⟩ : ∃ q, UInt8.ofNat (n * 16) = q := ⟨_, rfl⟩
            have hqn : byteV q = .int .u8 (n * 16 : Int) := by rw [← hq, byteV_ofNat]; congr 1; omega
            rw [hq] at HZ
            clear hq
            have HQ := Lib.hid hqn
            clear hqn
            go_wp2_with (at_builtin; refine wpList_append_bytes _ rfl _ _ rfl w.heap.size _ acc rfl ?c0 ⟨wr.heap.size, 0, none⟩ [q] 1 1 rfl rfl ?c1 ?c2 ?c3 (w0 := w) ?c4 ?_)
            case c0 => exact hB.alloc _
            case c1 =>
              refine lit_cells wr _ 5 [q] ?_
              rw [List.map_cons, List.map_nil, HQ.out]
            case c2 => simp; omega
            case c3 => simp; omega
            case c4 => exact hbw.alloc hs0 _
            intro v2 w2 hB2 hb2 hg2
            clear hB hg2
            go_wp2_with fail
            go_roundw
            case rel =>
              refine ⟨k + 1, acc ++ [q], by omega, by omega, by go_num, ?_, hB2, by rw [HG.out, HZ.out], hb2⟩
              have := HAL.out
              rw [List.length_append, List.length_singleton]
              omega
            case measure => simp [intOf]; omega
          · have f1 : (((k : Int) % 2) == 0) = false := beq_eq_false_iff_ne.2 (by omega)
            have hne : acc ≠ [] := by
              intro h0
              have := HAL.out
              rw [h0] at this
              simp at this
              omega
            obtain ⟨l', z, rfl⟩ := list_last acc hne
            have hz : unhexGo (s.data.toList.drop k) k (l' ++ [z]) = unhexGo (s.data.toList.drop (k + 1)) (k + 1) (l' ++ [z ||| UInt8.ofNat n]) := by
              rw [HD.out, unhexGo, HJ.out, if_neg (by omega), if_neg hev, Int.toNat_natCast, List.dropLast_concat, List.getLastD_concat]
            have HZ := Lib.hid hz
            clear hz
            rcases hB.2 with ⟨_, h0⟩ | ⟨g, cap, cur, rfl, hg1, hg2, hg3, hg4, hg5, hg6⟩
            · simp at h0
            · have hcell := hB.cellAt l'.length (byteV z) (by simp)
              have hfr := hB.frozenAt l'.length (by simp)
              have hst := hB.stored l'.length (byteV (z ||| UInt8.ofNat n))
              have hzl := z.toNat_lt
              have eo : bits .or .u8 (z.toNat : Int) (n : Int) = ((z ||| UInt8.ofNat n).toNat : Int) := by
                rw [u8_or_nat _ _ hzl (by omega), UInt8.toNat_or]
                simp
                rw [Nat.mod_eq_of_lt (by omega)]
              rw [List.length_append, List.length_singleton] at hab ⊢
              have hls : (List.map byteV (l' ++ [z])).set l'.length (byteV (z ||| UInt8.ofNat n)) = List.map byteV (l' ++ [z ||| UInt8.ofNat n]) := by
                simp
              rw [hls] at hst
              unfold byteV at hcell
              have HS := Lib.hid hst
              clear hB hst hls hg2 hg6 hne
              go_wp2_with fail
              go_roundw
              case rel =>
                refine ⟨k + 1, l' ++ [z ||| UInt8.ofNat n], by omega, by omega, by go_num, ?_, ?_, by rw [HG.out, HZ.out], hbw.setCell hg1 _⟩
                · have := HAL.out
                  rw [List.length_append, List.length_singleton] at this ⊢
                  omega
                · have h := HS.out
                  rw [List.length_append, List.length_singleton] at h
                  unfold BRow
                  rw [List.length_append, List.length_singleton]
                  exact h
              case measure => simp [intOf]; omega
    · have hz : unhexGo (s.data.toList.drop 2) 2 [] = .inr acc := by
        rw [HG.out, List.drop_eq_nil_of_le (by rw [len_of]; omega), unhexGo]
      have hcv := hB.string
      have HZ := Lib.hid hz
      clear hz
      go_wp2_with fail
      go_ret2
      refine ⟨_, _, rfl, ?_, hbw⟩
      rw [HZ.out]
      exact ⟨rfl, rfl⟩
end Go.Proofs.YtlbojhmhcaecjaaDoor
