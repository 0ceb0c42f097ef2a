/- The walks of the laws CrcBurst and CrcEven: they return true, whatever their arguments. -/
import Derived.Test.YtacijaejdgpjaaaCrc
import Derived.Test.YtacijaejdgpjaaaTurn
namespace Go.Proofs.Ytacijaejdgpjaaa
open Go.ChangeShapes Go.WideShapes Go.ChangeAt Go.RowKit
set_option linter.unusedVariables false
theorem summed_fact (w : World) : Calls Try.prog 17 #[] w fun e w' => e = .returned (.bool true) ∧ Below w.heap.size w w' := by
  have f1 : crcN [49, 50, 51, 52, 53, 54, 55, 56, 57] = 3808858755 := by decide +kernel
  have f2 : (digB 3808858755 == [131, 146, 6, 227]) = true := by decide +kernel
  have f3 : crcN [] = 0 := by decide +kernel
  go_enter Try.func17, Try.ntmps17
  go_wp2_with fail
  refine (sum_any _ _ (by decide)).mono ?_
  rintro e w1 ⟨rfl, hb1⟩
  go_wp2_with fail
  refine (digest_any _ _ (by decide)).mono ?_
  rintro e w2 ⟨rfl, hb2⟩
  go_wp2_with fail
  refine (sum_any _ _ (by decide)).mono ?_
  rintro e w3 ⟨rfl, hb3⟩
  go_wp2_with fail
  go_ret
  exact ⟨rfl, (hb1.trans (hb2.mono hb1.size)).trans (hb3.mono (Nat.le_trans hb1.size hb2.size))⟩
theorem burstCrc (s : ByteArray) (f b : Int) (w : World) (hs : s.size ≤ 140737488351232) (hf : -9223372036854775808 ≤ f ∧ f ≤ 9223372036854775807) (hb : 0 ≤ b ∧ b ≤ 4294967295) :
    Calls Try.prog 6 #[.string s, .int .i64 f, .int .u32 b] w fun e w' => e = .returned (.bool true) ∧ Below w.heap.size w w' := by
  clear hf
  by_cases hl : 300 < s.size
  · go_enter Try.func6, Try.ntmps6
    go_wp2_with fail
    refine (summed_fact _).mono ?_
    rintro e w1 ⟨rfl, hb1⟩
    go_wp2_with fail
    go_ret
    exact ⟨rfl, hb1⟩
  · go_enter Try.func6, Try.ntmps6
    go_wp2_with fail
    refine (summed_fact _).mono ?_
    rintro e w1 ⟨rfl, hb1⟩
    go_wp2_with fail
    refine (digest_any _ _ (by omega)).mono ?_
    rintro e w2 ⟨rfl, hb2⟩
    have hd : (digB (crcN s.data.toList)).length = 4 := rfl
    go_wp2_with fail
    refine (pick_any _ _ _ (by omega) (by omega)).mono ?_
    rintro e w' ⟨rfl, rfl⟩
    have hp := pick_rng f (8 * (s.size + 4)) (by omega)
    obtain ⟨p, hpe⟩ := Int.eq_ofNat_of_zero_le hp.1
    rw [hpe] at hp ⊢
    clear hpe
    go_wp2_with fail
    obtain ⟨c, rfl⟩ := Int.eq_ofNat_of_zero_le hb.1
    refine (turned_any _ p c _ (by simp; omega) (by omega) (by omega)).mono ?_
    rintro e w3 ⟨rfl, hb3⟩
    have hu := burst_text s.data.toList p c (by rw [len_of]; omega)
    have hul : (turnL (s.data.toList ++ digB (crcN s.data.toList)) p c 32).length = s.size + 4 := by rw [turnL_len]; simp [hd]
    have ea : (s ++ { data := (digB (crcN s.data.toList)).toArray }).data.toList = s.data.toList ++ digB (crcN s.data.toList) := by simp
    rw [ea]
    clear ea
    generalize hU : turnL (s.data.toList ++ digB (crcN s.data.toList)) p c 32 = U at *
    go_wp2_with fail
    refine wp_region_quietB (by kernel_rfl) (by kernel_rfl) ?_
    repeat (first | go_big_quiet_skip | (go_big_quiet_want; go_big_quiet_op; first | go_big_quiet_on | (apply Exists.intro; refine ⟨fun _ => ?_, ?_⟩; (go_at_call 18; exact calls_bw (digest_any _ _ (by simp; omega))); go_big_quiet_on)))
    refine wpQuiet_nil ?_
    rintro _ ⟨iq, rfl⟩
    go_wp2
    go_ret
    refine ⟨ret_bool ?_, below_step (below_step (below_step hb1 hb2) hb3) iq.h⟩
    rw [cat_of, ext_of, toList_of, toList_of]
    have e1 : ({ data := U.toArray } : ByteArray).data.toList = U := rfl
    have e2 : (U.drop s.size).take (s.size + 4 - s.size) = U.drop s.size := List.take_of_length_le (by simp; omega)
    rw [e1, e2, beq_iff_eq, Bool.eq_iff_iff, beq_iff_eq, beq_iff_eq]
    rw [len_of] at hu
    exact hu
theorem evenSum (a b c : List UInt8) (n : Nat) (x y z : Nat) (ha : a.length = n) (hb : b.length = n) (hc : c.length = n) :
    st (x ^^^ y ^^^ z) (List.zipWith (fun p q => p ^^^ q) (List.zipWith (fun p q => p ^^^ q) a b) c) = st x a ^^^ st y b ^^^ st z c := by
  induction n generalizing a b c x y z with
  | zero => 
    rw [List.length_eq_zero_iff.1 ha, List.length_eq_zero_iff.1 hb, List.length_eq_zero_iff.1 hc]; rfl
  | succ n ih =>
    match a, b, c, ha, hb, hc with
    | p :: a, q :: b, r :: c, ha, hb, hc =>
      show st (stB (x ^^^ y ^^^ z) (p ^^^ q ^^^ r).toNat) (List.zipWith _ (List.zipWith _ a b) c) = st (stB x p.toNat) a ^^^ st (stB y q.toNat) b ^^^ st (stB z r.toNat) c
      rw [← ih a b c _ _ _ (by simpa using ha) (by simpa using hb) (by simpa using hc)]
      congr 1
      rw [stB_eq _ _ (p ^^^ q ^^^ r).toNat_lt, stB_eq _ _ p.toNat_lt, stB_eq _ _ q.toNat_lt, stB_eq _ _ r.toNat_lt, ← fk_xor, ← fk_xor]
      congr 1
      simp only [UInt8.toNat_xor]
      ac_rfl
theorem evenCrc_plain (a b c : List UInt8) (n : Nat) (ha : a.length = n) (hb : b.length = n) (hc : c.length = n) :
    crcN a ^^^ crcN b ^^^ crcN c = crcN (List.zipWith (fun p q => p ^^^ q) (List.zipWith (fun p q => p ^^^ q) a b) c) := by
  have h := evenSum a b c n 4294967295 4294967295 4294967295 ha hb hc
  have e : (4294967295 : Nat) ^^^ 4294967295 ^^^ 4294967295 = 4294967295 := by decide
  rw [e] at h
  simp only [crcN_eq, h]
  have e2 : ∀ p q r t : Nat, p ^^^ t ^^^ (q ^^^ t) ^^^ (r ^^^ t) = p ^^^ q ^^^ r ^^^ (t ^^^ t ^^^ t) := by
    intro p q r t; ac_rfl
  rw [e2, e]
theorem xor3_u8 (a b c : UInt8) : bits .xor .u8 (bits .xor .u8 (a.toNat : Int) (b.toNat : Int)) (c.toNat : Int) = ((a ^^^ b ^^^ c).toNat : Nat) := by
  rw [u8_xor_nat _ _ a.toNat_lt b.toNat_lt, u8_xor_nat _ _ (Nat.xor_lt_two_pow (n := 8) a.toNat_lt b.toNat_lt) c.toNat_lt, UInt8.toNat_xor, UInt8.toNat_xor]
def xor3 (a b c : List UInt8) : List UInt8 := List.zipWith (fun p q => p ^^^ q) (List.zipWith (fun p q => p ^^^ q) a b) c
theorem evenCrc (a b c : ByteArray) (w : World) (hA : a.size ≤ 140737488351232) (hB : b.size ≤ 140737488351232) (hC : c.size ≤ 140737488351232) :
    Calls Try.prog 7 #[.string a, .string b, .string c] w fun e w' => e = .returned (.bool true) ∧ Below w.heap.size w w' := by
  obtain ⟨n, hn, ha, hb, hc, hD⟩ : ∃ n : Nat, (if (c.size : Int) < (if b.size < a.size then (b.size : Int) else (a.size : Int)) then (c.size : Int) else if b.size < a.size then (b.size : Int) else (a.size : Int)) = (n : Int) ∧
      n ≤ a.size ∧ n ≤ b.size ∧ n ≤ c.size ∧ (xor3 a.data.toList b.data.toList c.data.toList).length = n := by
    refine ⟨min (min a.size b.size) c.size, ?_, by omega, by omega, by omega, by simp [xor3]⟩
    split <;> split <;> omega
  have hev := evenCrc_plain (a.data.toList.take n) (b.data.toList.take n) (c.data.toList.take n) n (by simp; omega) (by simp; omega) (by simp; omega)
  have hD2 : List.zipWith (fun p q => p ^^^ q) (List.zipWith (fun p q => p ^^^ q) (a.data.toList.take n) (b.data.toList.take n)) (c.data.toList.take n) = xor3 a.data.toList b.data.toList c.data.toList := by
    rw [← List.take_zipWith, ← List.take_zipWith, List.take_of_length_le (by rw [← hD]; exact Nat.le_refl _)]; rfl
  rw [hD2] at hev
  have hget : ∀ k (hk : k < n), (xor3 a.data.toList b.data.toList c.data.toList)[k]? = some (a[k]'(by omega) ^^^ b[k]'(by omega) ^^^ c[k]'(by omega)) := by
    intro k hk
    rw [List.getElem?_eq_getElem (by omega)]
    simp [xor3]
    rfl
  clear hD2
  obtain ⟨D, hDe⟩ : ∃ D, xor3 a.data.toList b.data.toList c.data.toList = D := ⟨_, rfl⟩
  rw [hDe] at hev hD hget
  clear hDe
  have HE := Lib.hid hev
  have HD := Lib.hid hD
  have HG := Lib.hid hget
  clear hev hD hget
  by_cases hl : 300 < n
  · go_enter Try.func7, Try.ntmps7
    go_wp2_with fail
    refine (summed_fact _).mono ?_
    rintro e w1 ⟨rfl, hb1⟩
    go_wp2_with fail
    all_goals go_ret
    all_goals exact ⟨rfl, hb1⟩
  · have hmk := fun w => make_bytes n w (by omega)
    go_enter Try.func7, Try.ntmps7
    go_wp2_with fail
    refine (summed_fact _).mono ?_
    rintro e w1 ⟨rfl, hb1⟩
    go_wp2_with fail
    clear hmk hn
    have hb0 : Below w.heap.size w (w1.alloc (.cells (zeros n) 5)) := hb1.alloc hb1.size _
    have hB0 : BlkM (w1.alloc (.cells (zeros n) 5)) w1.heap.size 5 ((D.take 0).map byteV ++ List.replicate (n - 0) (byteV 0)).toArray := by
      rw [show ((D.take 0).map byteV ++ List.replicate (n - 0) (byteV 0)).toArray = zeros n by apply Array.toList_inj.1; rw [zeros_list]; simp]
      exact BlkM.of_blk (Blk.new _ _ _)
    have hg1 := hb1.size
    generalize w1.heap.size = g at *
    generalize w1.alloc (.cells (zeros n) 5) = W0 at *
    go_loopw [25] (fun i wr => ∃ k : Nat, k ≤ n ∧ i = .int .i64 k ∧ Below w.heap.size w wr ∧ BlkM wr g 5 ((D.take k).map byteV ++ List.replicate (n - k) (byteV 0)).toArray) (fun i _ => n - (intOf i).toNat)
    case atStart => exact ⟨0, by omega, rfl, hb0, hB0⟩
    case round =>
      obtain ⟨k, hk, rfl, hbw, hBk⟩ := hrel
      by_cases hlt : k < n
      · have hka : k < a.size := by omega
        have hkb : k < b.size := by omega
        have hkc : k < c.size := by omega
        have hlen : (D.take k).length = k := by rw [List.length_take, HD.out]; omega
        have hc := hBk.cell k
        have hz : ((D.take k).map byteV ++ List.replicate (n - k) (byteV 0)).toArray[k]? = some (byteV 0) := by
          rw [List.getElem?_toArray, List.getElem?_append_right (by rw [List.length_map, hlen]; exact Nat.le_refl _), List.length_map, hlen, Nat.sub_self, List.getElem?_replicate, if_pos (by omega)]
        rw [hz] at hc
        have hfz := hBk.frozen k (by rw [List.size_toArray, List.length_append, List.length_map, hlen, List.length_replicate]; omega)
        have hput := hBk.put k (byteV (a[k] ^^^ b[k] ^^^ c[k]))
        have hset : ((D.take k).map byteV ++ List.replicate (n - k) (byteV 0)).toArray.setIfInBounds k (byteV (a[k] ^^^ b[k] ^^^ c[k])) = ((D.take (k + 1)).map byteV ++ List.replicate (n - (k + 1)) (byteV 0)).toArray := by
          apply Array.toList_inj.1
          rw [Array.toList_setIfInBounds, List.set_append_right _ _ (by rw [List.length_map, hlen]; exact Nat.le_refl _)]
          have e1 : D.take (k + 1) = D.take k ++ [a[k] ^^^ b[k] ^^^ c[k]] := by
            have h1 : k < D.length := by rw [HD.out]; exact hlt
            rw [take_snoc D k h1]
            have := HG.out k hlt
            rw [List.getElem?_eq_getElem h1] at this
            rw [Option.some.inj this]
          rw [e1, List.map_append, List.length_map, hlen, Nat.sub_self, show n - k = (n - (k + 1)) + 1 from by omega, List.replicate_succ]
          simp
        rw [hset] at hput
        have HP := Lib.hid hput
        have HX := Lib.hid (xor3_u8 a[k] b[k] c[k])
        clear hput hset hz hlen
        go_wp2
        go_region
        go_wp2
        go_roundw
        case rel => exact ⟨k + 1, by omega, by go_num, (hbw.setCell hg1 _).drew, by rw [HX.out]; exact HP.out⟩
        case measure => simp [intOf]; omega
      · obtain rfl : k = n := by omega
        have hDn : D.take k = D := List.take_of_length_le (by rw [HD.out]; exact Nat.le_refl _)
        rw [hDn] at hBk
        have hgl := hBk.lt
        have hcv : ∀ i : BW wr, (convert 32 9 (.slice (some ⟨g, 0, none⟩) k k)).run Try.prog i.v = .ok (.string ⟨D.toArray⟩) i.v := by
          intro i
          have := blkM_string (cap := k) (hBk.below i.h hgl)
          rwa [HD.out] at this
        clear hDn
        have hDl : D.length ≤ 300 := by rw [HD.out]; omega
        have i1 : (k : Int) ≤ a.size := by omega
        have i2 : (k : Int) ≤ b.size := by omega
        have i3 : (k : Int) ≤ c.size := by omega
        go_wp2_with fail
        refine wp_region_quietB (by kernel_rfl) (by kernel_rfl) ?_
        repeat (first | go_big_quiet_skip | (go_big_quiet_want; go_big_quiet_op; first | go_big_quiet_on | (apply Exists.intro; refine ⟨fun _ => ?_, ?_⟩; (go_at_call 20; exact calls_bw (sum_any _ _ (by simp; omega))); go_big_quiet_on)))
        refine wpQuiet_nil ?_
        rintro _ ⟨iq, rfl⟩
        go_wp2
        go_ret
        refine ⟨ret_bool ?_, hbw.trans (iq.h.mono hbw.size)⟩
        rw [u32_xor_nat _ _ (crcN_lt _) (crcN_lt _), u32_xor_nat _ _ (Nat.xor_lt_two_pow (n := 32) (crcN_lt _) (crcN_lt _)) (crcN_lt _), HE.out]
        exact beq_self_eq_true _
end Go.Proofs.Ytacijaejdgpjaaa
