/- Contracts of package crc: table, Sum, Digest: what they return, of whatever text. -/
import Derived.Test.YtehellmpghfopaaGreatDoorCrcPlain
namespace Go.Proofs.YtehellmpghfopaaGreatDoor
open Go.ChangeShapes Go.WideShapes Go.ChangeAt Go.RowKit
set_option linter.unusedVariables false
def u32V (n : Nat) : Value := .int .u32 n
def tabRow (k : Nat) : List Value := (List.range k).map (fun i => u32V (tabN i)) ++ List.replicate (256 - k) (u32V 0)
def tabA (k : Nat) : Array Value := (tabRow k).toArray
theorem tabRow_len (k : Nat) (h : k ≤ 256) : (tabRow k).length = 256 := by simp [tabRow]; omega
theorem tabA_size (k : Nat) (h : k ≤ 256) : (tabA k).size = 256 := by simp [tabA, tabRow_len k h]
theorem tabA_zero : tabA 0 = Array.replicate 256 (.int .u32 0) := by rfl
theorem zero_tab0 (w : World) : (zeroValue 138).run Tryz.prog w = .ok (.agg (Array.replicate 256 (.int .u32 0))) w := by kernel_rfl
theorem zero_tab (w : World) : (zeroValue 138).run Tryz.prog w = .ok (.agg (tabA 0)) w := by
  rw [tabA_zero]; exact zero_tab0 w
theorem step_u32 (n : Nat) (h : n < 4294967296) :
    bits .xor .u32 ((n : Int) / 2) (bits .and .u32 (-bits .and .u32 (n : Int) 1 % 4294967296) 2197175160) = (f1 n : Nat) := by
  have e1 : bits .and .u32 (n : Int) 1 = ((n % 2 : Nat) : Int) := by
    have := u32_and_nat n 1 h (by decide)
    rw [Nat.and_one_is_mod] at this
    exact this
  have e2 : ((n : Int) / 2) = ((n / 2 : Nat) : Int) := by omega
  rw [e1, e2]
  have h2 : n % 2 = 0 ∨ n % 2 = 1 := by omega
  rcases h2 with h2 | h2
  · rw [h2]
    have e3 : bits .and .u32 (-((0 : Nat) : Int) % 4294967296) 2197175160 = ((0 : Nat) : Int) := by decide +kernel
    rw [e3, u32_xor_nat _ _ (by omega) (by decide)]
    simp [f1, h2]
  · rw [h2]
    have e3 : bits .and .u32 (-((1 : Nat) : Int) % 4294967296) 2197175160 = ((2197175160 : Nat) : Int) := by decide +kernel
    rw [e3, u32_xor_nat _ _ (by omega) (by decide)]
    simp [f1, h2, crcP]
theorem fk_out (j n : Nat) : fk (j + 1) n = f1 (fk j n) := fk_add j 1 n
theorem tabRow_set (k : Nat) (h : k < 256) : (tabA k).setIfInBounds k (.int .u32 (tabN k)) = tabA (k + 1) := by
  apply Array.toList_inj.1
  rw [Array.toList_setIfInBounds]
  show (tabRow k).set k (u32V (tabN k)) = tabRow (k + 1)
  unfold tabRow
  rw [List.set_append_right _ _ (by simp), List.range_succ, List.map_append, List.append_assoc]
  congr 1
  rw [show 256 - k = (256 - (k + 1)) + 1 from by omega, List.replicate_succ]
  simp
theorem tabA_all (k : Nat) : (tabA k).all (·.oneCell') = true := by
  rw [tabA, List.all_toArray, List.all_eq_true]
  intro v hv
  unfold tabRow at hv
  rcases List.mem_append.1 hv with hv | hv
  · obtain ⟨i, _, rfl⟩ := List.mem_map.1 hv; rfl
  · rw [List.eq_of_mem_replicate hv]; rfl
theorem tab_info : (Tryz.prog.info? 138).map (·.size) = some 256 := by kernel_rfl
set_option maxRecDepth 100000 in
theorem table_any (w : World) : Calls Tryz.prog 75 #[] w fun e w' => e = .returned (.agg (tabA 256)) ∧ Below w.heap.size w w' := by
  have hal := zero_tab
  go_enter Tryz.func75, Tryz.ntmps75
  go_wp2
  go_loopw [4] (fun i wr => ∃ k : Nat, k ≤ 256 ∧ i = .int .i64 k ∧ Below w.heap.size w wr ∧ Blk wr (w.heap.size + 1) 138 (tabA k) ∧ Blk wr w.heap.size 138 (tabA 0)) (fun i _ => 256 - (intOf i).toNat)
  case atStart =>
    refine ⟨0, by omega, rfl, ((Below.refl _ _).alloc (Nat.le_refl _) _).alloc (by simp) _, ?_, (Blk.new _ _ _).alloc _⟩
    have := Blk.new (w.alloc (.cells (tabA 0) 138)) 138 (tabA 0)
    simpa using this
  case round =>
    obtain ⟨k, hk, rfl, hb, hB, hA⟩ := hrel
    by_cases hlt : k < 256
    · go_wp2
      obtain ⟨wo, rfl⟩ : ∃ wo : World, wo = wr := ⟨_, rfl⟩
      go_loop [3, 9] (fun n i => ∃ j : Nat, j ≤ 8 ∧ i = .int .i64 j ∧ n = .int .u32 (fk j k)) (fun _ i => 8 - (intOf i).toNat)
      case atStart => exact ⟨0, by omega, rfl, by simp [fk]⟩
      case round =>
        obtain ⟨j, hj, rfl, rfl⟩ := hrel
        by_cases hl8 : j < 8
        · have hx := fk_lt j k (by omega)
          go_wp2
          go_round
          case rel => exact ⟨j + 1, by omega, by go_num, by rw [step_u32 _ hx, fk_out]⟩
          case measure => simp [intOf]; omega
        · obtain rfl : j = 8 := by omega
          have hc := hB.cell k
          have hf := hB.frozen k
          rw [Array.getElem?_eq_getElem (by rw [tabA_size k hk]; exact hlt)] at hc
          have hn := hB.put k (.int .u32 (tabN k))
          rw [tabRow_set k hlt] at hn
          have HN := Lib.hid hn
          clear hn
          go_wp2
          go_roundw
          case rel => exact ⟨k + 1, by omega, by go_num, hb.setCell (by simp) _, HN.out, hA.far (by simp) _⟩
          case measure => simp [intOf]; omega
    · obtain rfl : k = 256 := by omega
      have hi : (Tryz.prog.info? 138).map (·.size) = some (tabA 256).size := by rw [tabA_size 256 (by omega)]; exact tab_info
      have ho : (tabA 0).size = (tabA 256).size := by rw [tabA_size 256 (by omega), tabA_size 0 (by omega)]
      have hall := tabA_all 256
      generalize hT : tabA 256 = T at *
      have HT := Lib.hid hT
      clear hT
      go_wp2_with (first | (refine wpList_load_row rfl 138 _ rfl (w.heap.size + 1) rfl _ _ _ _ hB Tryz.underlying138 rfl hi ?_) | (refine wpList_store_row rfl 138 _ _ rfl w.heap.size _ rfl rfl _ _ hA hi ho hall ?_))
      refine bodyPost_ret (v := .agg T) (results_cell_row rfl _ _ w.heap.size _ T _ _ rfl (setRow_heap _ _ _ _ _ _ hA) Tryz.underlying138 rfl hi) rfl ⟨by rw [HT.out], below_setRow hb (Nat.le_refl _) _⟩
theorem tabA_get (i : Nat) (h : i < 256) : (tabA 256)[i]? = some (.int .u32 (tabN i)) := by
  show (tabRow 256).toArray[i]? = _
  rw [List.getElem?_toArray]
  unfold tabRow
  rw [List.getElem?_append_left (by simpa using h)]
  simp [h, u32V]
set_option maxRecDepth 100000 in
theorem sum_any (s : ByteArray) (w : World) (hs : s.size ≤ 4611686018427387904) : Calls Tryz.prog 58 #[.string s] w fun e w' => e = .returned (.int .u32 (crcN s.data.toList)) ∧ Below w.heap.size w w' := by
  have hal := zero_tab
  have hi : (Tryz.prog.info? 138).map (·.size) = some (tabA 256).size := by rw [tabA_size 256 (by omega)]; exact tab_info
  have ho : (tabA 0).size = (tabA 256).size := by rw [tabA_size 256 (by omega), tabA_size 0 (by omega)]
  have hall := tabA_all 256
  go_enter Tryz.func58, Tryz.ntmps58
  go_wp2_with (first | (go_at_call 75; refine (table_any _).mono ?_; rintro e w1 ⟨rfl, hb1⟩) | (refine wpList_store_row rfl 138 _ _ rfl _ _ rfl rfl _ _ (Blk.new _ _ _) hi ho hall ?_) | fail)
  have hB0 : Blk ((w1.alloc (.cells (tabA 0) 138)).setRow w1.heap.size (tabA 256)) w1.heap.size 138 (tabA 256) := setRow_heap _ _ _ _ _ _ (Blk.new _ _ _)
  have hb0 : Below w.heap.size w ((w1.alloc (.cells (tabA 0) 138)).setRow w1.heap.size (tabA 256)) := below_setRow (hb1.alloc hb1.size _) hb1.size _
  generalize (w1.alloc (.cells (tabA 0) 138)).setRow w1.heap.size (tabA 256) = W0 at *
  clear hal hi ho hall
  go_loop [4, 9] (fun n i => ∃ k : Nat, k ≤ s.size ∧ i = .int .i64 k ∧ n = .int .u32 (st 4294967295 (s.data.toList.take k))) (fun _ i => s.size - (intOf i).toNat)
  case atStart => exact ⟨0, Nat.zero_le _, rfl, rfl⟩
  case round =>
    obtain ⟨k, hk, rfl, rfl⟩ := hrel
    by_cases hlt : k < s.size
    · have hl := st_lt 4294967295 (s.data.toList.take k) (by decide)
      have hc := s[k].toNat_lt
      have hx : (st 4294967295 (s.data.toList.take k) % 256) ^^^ s[k].toNat < 256 := Nat.xor_lt_two_pow (n := 8) (Nat.mod_lt _ (by decide)) hc
      have hn : st 4294967295 (s.data.toList.take (k + 1)) = stB (st 4294967295 (s.data.toList.take k)) s[k].toNat := by
        rw [take_snoc_s s k hlt, st_append]; rfl
      have HN := Lib.hid hn
      clear hn
      generalize st 4294967295 (s.data.toList.take k) = n at *
      have hcell := (hB0.cell (n % 256 ^^^ s[k].toNat)).trans (tabA_get _ hx)
      have hbx : bits .xor .u8 ((n : Int) % 256) (s[k].toNat : Int) = ((n % 256 ^^^ s[k].toNat : Nat) : Int) := by
        have := u8_xor_nat (n % 256) s[k].toNat (Nat.mod_lt _ (by decide)) hc
        simpa using this
      go_wp2
      go_round
      case rel =>
        refine ⟨k + 1, by omega, by go_num, ?_⟩
        have e2 : ((n : Int) / 256) = ((n / 256 : Nat) : Int) := by omega
        rw [e2, u32_xor_nat (tabN _) _ (fk_lt 8 _ (by omega)) (by omega), HN.out]
        rfl
      case measure => simp [intOf]; omega
    · have hl := st_lt 4294967295 s.data.toList (by decide)
      go_wp2
      go_ret
      refine ⟨ret_int ?_, hb0⟩
      rw [take_all s k (by omega)]
      have := u32_xor_nat 4294967295 (st 4294967295 s.data.toList) (by decide) hl
      rw [Nat.xor_comm, ← crcN_eq] at this
      exact this
theorem crcN_lt (l : List UInt8) : crcN l < 4294967296 := by unfold crcN; omega
theorem digest_any (s : ByteArray) (w : World) (hs : s.size ≤ 4611686018427387904) : Calls Tryz.prog 38 #[.string s] w fun e w' => e = .returned (.string ⟨(digB (crcN s.data.toList)).toArray⟩) ∧ Below w.heap.size w w' := by
  have hn := crcN_lt s.data.toList
  go_enter Tryz.func38, Tryz.ntmps38
  go_wp2_with fail
  refine (sum_any _ _ hs).mono ?_
  rintro e w1 ⟨rfl, hb1⟩
  have hcv := lit_string w1 (digB (crcN s.data.toList)) #[.int .u8 ((crcN s.data.toList : Int) % 256), .int .u8 ((crcN s.data.toList : Int) / 256 % 256), .int .u8 ((crcN s.data.toList : Int) / 65536 % 256), .int .u8 ((crcN s.data.toList : Int) / 16777216)]
    (by simp [digB, byteV]; omega) (by simp [digB, maxLen])
  simp only [digB, List.length_cons, List.length_nil, Nat.zero_add, Nat.reduceAdd] at hcv
  go_wp2
  go_ret
  exact ⟨rfl, hb1.alloc hb1.size _⟩
end Go.Proofs.YtehellmpghfopaaGreatDoor
