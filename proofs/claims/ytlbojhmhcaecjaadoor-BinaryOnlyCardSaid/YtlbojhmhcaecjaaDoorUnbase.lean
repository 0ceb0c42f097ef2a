/- The contract of binary.unbase. -/
import Derived.Test.YtlbojhmhcaecjaaDoorUnhex
namespace Go.Proofs.YtlbojhmhcaecjaaDoor
open Go.ChangeShapes Go.WideShapes Go.ChangeAt Go.RowKit
set_option linter.unusedVariables false
theorem unbase_bad (s : ByteArray) (w : World) (h : s.size % 4 ≠ 2) (hs : s.size ≤ 70368744177664) : Calls Tryd.prog 65 #[.string s] w fun e w' => e = .returned (.tuple #[.string ⟨#[]⟩, errv 7]) ∧ w = w' := by
  have f0 : (((s.size : Int) % 4) != 2) = true := by rw [bne_iff_ne]; omega
  go_enter Tryd.func65, Tryd.ntmps65
  go_wp2_with fail
  go_ret2
  exact ⟨rfl, rfl⟩
theorem take4_drop (s : ByteArray) (p j : Nat) (hj : j < 4) (h : p + j < s.size) : ((s.data.toList.drop p).take 4).drop j = s[p + j] :: ((s.data.toList.drop p).take 4).drop (j + 1) := by
  have hl : j < ((s.data.toList.drop p).take 4).length := by rw [List.length_take, List.length_drop, len_of]; omega
  rw [List.drop_eq_getElem_cons hl]
  congr 1
  rw [List.getElem_take, List.getElem_drop]
  rfl
theorem and_mask_i64_0 (m : Nat) (h : m < 9223372036854775808) : bits .and .i64 (m : Int) 0 = 0 := by
  have := i64_and_nat m 0 h (by decide)
  rw [Nat.and_zero] at this
  exact this
theorem u8_beq_t {c : UInt8} (h : c = 61) : ((c.toNat : Int) == 61) = true := by subst h; rfl
theorem u8_beq_f {c : UInt8} (h : c ≠ 61) : ((c.toNat : Int) == 61) = false := by
  rw [beq_eq_false_iff_ne]
  intro h2
  apply h
  rw [← UInt8.toNat_inj]
  show c.toNat = 61
  omega
theorem unb3_cells (w : World) (m k : Nat) (hm : m < 16777216) : ∀ (j : Nat) (u : Value), (((unb3 m).take k).map byteV)[j]? = some u → (w.alloc (.cells #[.int .u8 ((m : Int) / 65536), .int .u8 ((m : Int) / 256 % 256), .int .u8 ((m : Int) % 256)] 5)).cell? ((⟨w.heap.size, 0, none⟩ : Addr).add j) = some u := by
  have h := lit_cells w #[.int .u8 ((m : Int) / 65536), .int .u8 ((m : Int) / 256 % 256), .int .u8 ((m : Int) % 256)] 5 (unb3 m) (by
    have e1 : ((m : Int) / 65536) % 256 = (m : Int) / 65536 := by omega
    simp [unb3, byteV, e1])
  intro j u hu
  apply h j u
  rw [List.map_take] at hu
  have hj : j < ((unb3 m).map byteV |>.take k).length := (List.getElem?_eq_some_iff.1 hu).1
  rw [List.length_take] at hj
  rw [List.getElem?_take_of_lt (by omega)] at hu
  exact hu
def unbNext (f p : Nat) (L acc : List UInt8) : Nat ⊕ (Nat × Nat) → Nat ⊕ List UInt8
  | .inl i => .inl (p + i)
  | .inr (n, h) => if n % 2 ^ (8 * (4 - h)) ≠ 0 then .inl (p + h - 1) else unbF f (L.drop 4) (p + 4) (acc ++ (unb3 n).take (h - 1))
set_option maxRecDepth 20000 in
set_option maxHeartbeats 4000000 in
theorem unbase_any (s : ByteArray) (w : World) (h : s.size % 4 = 2) (hs : s.size ≤ 70368744177664) : Calls Tryd.prog 65 #[.string s] w fun e w' =>
    ∃ r er, e = .returned (.tuple #[r, er]) ∧ BinOut w' w.heap.size r er (binAt (unbF s.size (s.data.toList.drop 2) 2 [])) ∧ Below w.heap.size w w' := by
  have f0 : (((s.size : Int) % 4) != 2) = false := by rw [bne_eq_false_iff_eq]; omega
  go_enter Tryd.func65, Tryd.ntmps65
  go_wp2_with fail
  clear f0
  go_loopw [4, 5] (fun v i wr => ∃ (p f : Nat) (acc : List UInt8), 2 ≤ p ∧ p ≤ s.size ∧ p % 4 = 2 ∧ s.size - p ≤ f ∧ acc.length ≤ p ∧ i = .int .i64 p ∧ BRow wr w.heap.size v acc ∧ unbF s.size (s.data.toList.drop 2) 2 [] = unbF f (s.data.toList.drop p) p acc ∧ Below w.heap.size w wr) (fun _ i _ => s.size - (intOf i).toNat)
  case atStart => exact ⟨2, s.size, [], by omega, by omega, by omega, by omega, by simp, rfl, MRow.nil _ _ _ _, rfl, Below.refl _ _⟩
  case round =>
    obtain ⟨p, f, acc, hp2, hp, hpm, hf, hal, rfl, hB, hgo, hbw⟩ := hrel
    have HG := Lib.hid hgo
    have hs0 := hbw.size
    have HPM := Lib.hid hpm
    clear hgo hpm
    by_cases hlt : p < s.size
    · obtain ⟨f, rfl⟩ : ∃ f', f = f' + 1 := ⟨f - 1, by omega⟩
      have hp4 : p + 4 ≤ s.size := by have := HPM.out; omega
      obtain ⟨L, hL⟩ : ∃ L, s.data.toList.drop p = L := ⟨_, rfl⟩
      have hLl : L.length = s.size - p := by rw [← hL]; simp
      have hg3 := getD_drop s p 3 (by omega)
      rw [hL] at hg3
      have hla : decide (L.length = 4) = decide (p + 4 = s.size) := by rw [decide_eq_decide, hLl]; omega
      obtain ⟨X, hX⟩ : ∃ X, unbGo (decide (p + 4 = s.size)) s[p + 3] (L.take 4) 0 0 4 = X := ⟨_, rfl⟩
      have hz : unbF (f + 1) L p acc = unbNext f p L acc X := by
        rw [unbF, if_neg (by omega), hla, hg3, hX]
        cases X <;> rfl
      have HZ := Lib.hid hz
      have HL := Lib.hid hL
      have HX := Lib.hid hX
      clear hz hL hLl hg3 hla hX
      go_wp2_with fail
      obtain ⟨wo, rfl⟩ : ∃ wo : World, wo = wr := ⟨_, rfl⟩
      go_loop [6, 7, 22] (fun n h i => ∃ j m q : Nat, j ≤ 4 ∧ i = .int .i64 j ∧ n = .int .i64 m ∧ h = .int .i64 q ∧ 2 ≤ q ∧ q ≤ 4 ∧ m < 64 ^ j ∧ X = unbGo (decide (p + 4 = s.size)) s[p + 3] ((L.take 4).drop j) j m q) (fun _ _ i => 4 - (intOf i).toNat)
      case atStart => exact ⟨0, 0, 4, by omega, rfl, rfl, rfl, by omega, by omega, by simp, by rw [← HX.out]; rfl⟩
      case round =>
        obtain ⟨j, m, q, hj, rfl, rfl, rfl, hq2, hq4, hm, hgo⟩ := hrel
        have HGO := Lib.hid hgo
        clear hgo
        by_cases hj4 : j < 4
        · have hmb : m < 262144 := Nat.lt_of_lt_of_le hm (show 64 ^ j ≤ 64 ^ 3 from Nat.pow_le_pow_right (by omega) (by omega))
          have hpow : 64 ^ (j + 1) = 64 ^ j * 64 := Nat.pow_succ ..
          have hdr := take4_drop s p j hj4 (by omega)
          rw [HL.out] at hdr
          have HDR := Lib.hid hdr
          have HPOW := Lib.hid hpow
          have HM := Lib.hid hm
          have hpj : p + j < s.size := by omega
          clear hdr hpow hm
          have hix := indexByte_lt b64Tab s[p + j]
          have hix0 := Lib.indexByte_ge b64Tab s[p + j]
          obtain ⟨kk, hkk⟩ : ∃ kk, Lib.indexByte b64Tab s[p + j] = kk := ⟨_, rfl⟩
          rw [hkk] at hix hix0
          have hix : kk < 64 := hix
          have HKK := Lib.hid hkk
          clear hkk
          go_wp2_with fail
          refine (idx_at _ _ s[p + j] rfl _).mono ?_
          rintro e w1 ⟨rfl, rfl⟩
          rw [show (ByteArray.mk #[65, 66, 67, 68, 69, 70, 71, 72, 73, 74, 75, 76, 77, 78, 79, 80, 81, 82, 83, 84, 85, 86, 87, 88, 89, 90, 97, 98, 99, 100, 101, 102, 103, 104, 105, 106, 107, 108, 109, 110, 111, 112, 113, 114, 115, 116, 117, 118, 119, 120, 121, 122, 48, 49, 50, 51, 52, 53, 54, 55, 56, 57, 43, 47]).data.toList = b64Tab from rfl, HKK.out]
          by_cases hC : s[p + j] = 61 ∧ decide (p + 4 = s.size) = true ∧ (j = 3 ∨ (j = 2 ∧ s[p + 3] = 61))
          · have hz2 : X = unbGo (decide (p + 4 = s.size)) s[p + 3] ((L.take 4).drop (j + 1)) (j + 1) (m * 64) (min q j) := by
              rw [HGO.out, HDR.out, unbGo, if_pos hC]
            have HZ2 := Lib.hid hz2
            clear hz2
            obtain ⟨h1, h2, h3⟩ := hC
            have h2 : p + 4 = s.size := of_decide_eq_true h2
            have eo0 : bits .or .i64 ((m : Int) * 64) 0 = (m : Int) * 64 := by have := or_add_i64 m 6 0 (by omega) (by omega); simpa using this
            have f1 := u8_beq_t h1
            have f2 : ((p : Int) + 4 == (s.size : Int)) = true := beq_iff_eq.2 (by omega)
            have HH1 := Lib.hid h1
            clear h1 h2
            rcases h3 with rfl | ⟨rfl, h4⟩
            · go_wp2_with fail
              clear f1 f2
              go_round
              case rel =>
                refine ⟨4, m * 64, min q 3, by omega, rfl, by go_num, by go_num, by omega, by omega, ?_, HZ2.out⟩
                have h5 := HPOW.out
                have h6 := HM.out
                omega
              case measure => simp [intOf]
            · have f3 := u8_beq_t h4
              have HH4 := Lib.hid h4
              clear h4
              go_wp2_with fail
              clear f3
              clear f1 f2
              go_round
              case rel =>
                refine ⟨3, m * 64, min q 2, by omega, rfl, by go_num, by go_num, by omega, by omega, ?_, HZ2.out⟩
                have h5 := HPOW.out
                have h6 := HM.out
                omega
              case measure => simp [intOf]
          · have hN : s[p + j] ≠ 61 ∨ (s[p + j] = 61 ∧ p + 4 ≠ s.size) ∨ (s[p + j] = 61 ∧ p + 4 = s.size ∧ j ≠ 3 ∧ j ≠ 2) ∨ (s[p + j] = 61 ∧ p + 4 = s.size ∧ j = 2 ∧ s[p + 3] ≠ 61) := by
              by_cases h1 : s[p + j] = 61
              · by_cases h2 : p + 4 = s.size
                · by_cases h3 : j = 3
                  · exact absurd ⟨h1, decide_eq_true h2, .inl h3⟩ hC
                  · by_cases h4 : j = 2
                    · by_cases h5 : s[p + 3] = 61
                      · exact absurd ⟨h1, decide_eq_true h2, .inr ⟨h4, h5⟩⟩ hC
                      · exact .inr (.inr (.inr ⟨h1, h2, h4, h5⟩))
                    · exact .inr (.inr (.inl ⟨h1, h2, h3, h4⟩))
                · exact .inr (.inl ⟨h1, h2⟩)
              · exact .inl h1
            have hz2 : X = if kk < 0 then .inl j else unbGo (decide (p + 4 = s.size)) s[p + 3] ((L.take 4).drop (j + 1)) (j + 1) (m * 64 + kk.toNat) q := by
              rw [HGO.out, HDR.out, unbGo, if_neg hC, HKK.out]
            have HZ2 := Lib.hid hz2
            clear hz2 hC
            by_cases hk0 : kk < 0
            · have hz3 : unbF (f + 1) L p acc = .inl (p + j) := by rw [HZ.out, HZ2.out, if_pos hk0]; rfl
              have HZ3 := Lib.hid hz3
              clear hz3
              rcases hN with h1 | ⟨h1, h2⟩ | ⟨h1, h2, h3, h4⟩ | ⟨h1, h2, rfl, h4⟩
              · have f1 := u8_beq_f h1
                clear h1
                go_wp2_with fail
                go_ret2
                refine ⟨_, _, rfl, ?_, hbw.alloc hs0 _⟩
                rw [HG.out, HL.out, HZ3.out]
                exact ⟨rfl, wo.heap.size, hs0, rfl, Blk.new _ _ _⟩
              · have f1 := u8_beq_t h1
                have f2 : ((p : Int) + 4 == (s.size : Int)) = false := beq_eq_false_iff_ne.2 (by omega)
                clear h1 h2
                go_wp2_with fail
                go_ret2
                refine ⟨_, _, rfl, ?_, hbw.alloc hs0 _⟩
                rw [HG.out, HL.out, HZ3.out]
                exact ⟨rfl, wo.heap.size, hs0, rfl, Blk.new _ _ _⟩
              · have f1 := u8_beq_t h1
                have f2 : ((p : Int) + 4 == (s.size : Int)) = true := beq_iff_eq.2 (by omega)
                have f3 : ((j : Int) == 3) = false := beq_eq_false_iff_ne.2 (by omega)
                have f4 : ((j : Int) == 2) = false := beq_eq_false_iff_ne.2 (by omega)
                clear h1 h2 h3 h4
                go_wp2_with fail
                go_ret2
                refine ⟨_, _, rfl, ?_, hbw.alloc hs0 _⟩
                rw [HG.out, HL.out, HZ3.out]
                exact ⟨rfl, wo.heap.size, hs0, rfl, Blk.new _ _ _⟩
              · have f1 := u8_beq_t h1
                have f2 : ((p : Int) + 4 == (s.size : Int)) = true := beq_iff_eq.2 (by omega)
                have f3 := u8_beq_f h4
                clear h1 h2 h4
                go_wp2_with fail
                go_ret2
                refine ⟨_, _, rfl, ?_, hbw.alloc hs0 _⟩
                rw [HG.out, HL.out, HZ3.out]
                exact ⟨rfl, wo.heap.size, hs0, rfl, Blk.new _ _ _⟩
            · obtain ⟨k, rfl⟩ := Int.eq_ofNat_of_zero_le (show 0 ≤ kk by omega)
              have eo : bits .or .i64 ((m : Int) * 64) (k : Int) = ((m * 64 + k : Nat) : Int) := or_add_i64 m 6 k (by omega) (by omega)
              have eo0 : bits .or .i64 ((m : Int) * 64) 0 = (m : Int) * 64 := by have := or_add_i64 m 6 0 (by omega) (by omega); simpa using this
              have hz3 : X = unbGo (decide (p + 4 = s.size)) s[p + 3] ((L.take 4).drop (j + 1)) (j + 1) (m * 64 + k) q := by rw [HZ2.out, if_neg hk0, Int.toNat_natCast]
              have HZ3 := Lib.hid hz3
              clear hz3
              rcases hN with h1 | ⟨h1, h2⟩ | ⟨h1, h2, h3, h4⟩ | ⟨h1, h2, rfl, h4⟩
              · have f1 := u8_beq_f h1
                clear h1
                go_wp2_with fail
                go_round
                case rel =>
                  refine ⟨j + 1, m * 64 + k, q, by omega, by go_num, rfl, rfl, hq2, hq4, ?_, HZ3.out⟩
                  have h5 := HPOW.out
                  have h6 := HM.out
                  omega
                case measure => simp [intOf] <;> omega
              · have f1 := u8_beq_t h1
                have f2 : ((p : Int) + 4 == (s.size : Int)) = false := beq_eq_false_iff_ne.2 (by omega)
                clear h1 h2
                go_wp2_with fail
                go_round
                case rel =>
                  refine ⟨j + 1, m * 64 + k, q, by omega, by go_num, rfl, rfl, hq2, hq4, ?_, HZ3.out⟩
                  have h5 := HPOW.out
                  have h6 := HM.out
                  omega
                case measure => simp [intOf] <;> omega
              · have f1 := u8_beq_t h1
                have f2 : ((p : Int) + 4 == (s.size : Int)) = true := beq_iff_eq.2 (by omega)
                have f3 : ((j : Int) == 3) = false := beq_eq_false_iff_ne.2 (by omega)
                have f4 : ((j : Int) == 2) = false := beq_eq_false_iff_ne.2 (by omega)
                clear h1 h2 h3 h4
                go_wp2_with fail
                go_round
                case rel =>
                  refine ⟨j + 1, m * 64 + k, q, by omega, by go_num, rfl, rfl, hq2, hq4, ?_, HZ3.out⟩
                  have h5 := HPOW.out
                  have h6 := HM.out
                  omega
                case measure => simp [intOf] <;> omega
              · have f1 := u8_beq_t h1
                have f2 : ((p : Int) + 4 == (s.size : Int)) = true := beq_iff_eq.2 (by omega)
                have f3 := u8_beq_f h4
                clear h1 h2 h4
                go_wp2_with fail
                go_round
                case rel =>
                  refine ⟨2 + 1, m * 64 + k, q, by omega, by go_num, rfl, rfl, hq2, hq4, ?_, HZ3.out⟩
                  have h5 := HPOW.out
                  have h6 := HM.out
                  omega
                case measure => simp [intOf] <;> omega
        · obtain rfl : j = 4 := by omega
          have hmb : m < 16777216 := hm
          have hx : X = .inr (m, q) := by
            rw [HGO.out, List.drop_of_length_le (by rw [List.length_take]; omega), unbGo]
          have hz2 := HZ.out
          rw [hx] at hz2
          simp only [unbNext] at hz2
          have HZ2 := Lib.hid hz2
          have HM := Lib.hid hm
          clear hz2 hx hm hj hj4
          obtain rfl | rfl | rfl : q = 2 ∨ q = 3 ∨ q = 4 := by omega
          · have e1 : bits .and .i64 (m : Int) 65535 = (m : Int) % 65536 := and_mask_i64 m 16 (by omega) (by omega)
            by_cases hr : m % 65536 = 0
            · have f1 : ((m : Int) % 65536 != 0) = false := by rw [bne_eq_false_iff_eq]; omega
              have hz3 : unbF (f + 1) L p acc = unbF f (L.drop 4) (p + 4) (acc ++ (unb3 m).take 1) := by
                rw [HZ2.out, if_neg (by intro h; exact h hr)]
              have HZ3 := Lib.hid hz3
              clear hz3 hr
              obtain ⟨bs, hbs⟩ : ∃ bs, (unb3 m).take 1 = bs := ⟨_, rfl⟩
              have hc1 := unb3_cells wo m 1 hmb
              have hbl : bs.length = 1 := by rw [← hbs]; rfl
              rw [hbs] at HZ3 hc1
              have HC1 := Lib.hid hc1
              have HBL := Lib.hid hbl
              clear hbs hc1 hbl
              go_wp2_with (at_builtin; refine wpList_append_bytes _ rfl _ _ rfl w.heap.size _ acc rfl ?g0 ⟨wo.heap.size, 0, none⟩ bs 1 3 rfl ?gk HC1.out ?g2 ?g3 (w0 := w) ?g4 ?_)
              case gk => exact HBL.out.symm
              case g0 => exact hB.alloc _
              case g2 => rw [HBL.out]; omega
              case g3 => first | omega | (simp; omega)
              case g4 => exact hbw.alloc hs0 _
              intro v2 w2 hB2 hb2 hg2
              clear hB hg2
              go_wp2_with fail
              go_roundw
              case rel =>
                refine ⟨p + 4, f, acc ++ bs, by omega, by omega, by have := HPM.out; omega, by omega, by rw [List.length_append, HBL.out]; omega, by go_num, hB2, ?_, hb2⟩
                rw [HG.out, HL.out, HZ3.out, ← HL.out, List.drop_drop]
              case measure => simp [intOf]; omega
            · have f1 : ((m : Int) % 65536 != 0) = true := by rw [bne_iff_ne]; omega
              have hz3 : unbF (f + 1) L p acc = .inl (p + 1) := by
                rw [HZ2.out, if_pos hr]; rfl
              have HZ3 := Lib.hid hz3
              clear hz3 hr
              go_wp2_with fail
              go_ret2
              refine ⟨_, _, rfl, ?_, hbw.alloc hs0 _⟩
              rw [HG.out, HL.out, HZ3.out]
              refine ⟨rfl, wo.heap.size, hs0, rfl, ?_⟩
              have e : (((p + 1 : Nat)) : Int) = (p : Int) + 2 - 1 := by omega
              rw [e]
              exact Blk.new _ _ _
          · have e1 : bits .and .i64 (m : Int) 255 = (m : Int) % 256 := and_mask_i64 m 8 (by omega) (by omega)
            by_cases hr : m % 256 = 0
            · have f1 : ((m : Int) % 256 != 0) = false := by rw [bne_eq_false_iff_eq]; omega
              have hz3 : unbF (f + 1) L p acc = unbF f (L.drop 4) (p + 4) (acc ++ (unb3 m).take 2) := by
                rw [HZ2.out, if_neg (by intro h; exact h hr)]
              have HZ3 := Lib.hid hz3
              clear hz3 hr
              obtain ⟨bs, hbs⟩ : ∃ bs, (unb3 m).take 2 = bs := ⟨_, rfl⟩
              have hc1 := unb3_cells wo m 2 hmb
              have hbl : bs.length = 2 := by rw [← hbs]; rfl
              rw [hbs] at HZ3 hc1
              have HC1 := Lib.hid hc1
              have HBL := Lib.hid hbl
              clear hbs hc1 hbl
              go_wp2_with (at_builtin; refine wpList_append_bytes _ rfl _ _ rfl w.heap.size _ acc rfl ?g0 ⟨wo.heap.size, 0, none⟩ bs 2 3 rfl ?gk HC1.out ?g2 ?g3 (w0 := w) ?g4 ?_)
              case gk => exact HBL.out.symm
              case g0 => exact hB.alloc _
              case g2 => rw [HBL.out]; omega
              case g3 => first | omega | (simp; omega)
              case g4 => exact hbw.alloc hs0 _
              intro v2 w2 hB2 hb2 hg2
              clear hB hg2
              go_wp2_with fail
              go_roundw
              case rel =>
                refine ⟨p + 4, f, acc ++ bs, by omega, by omega, by have := HPM.out; omega, by omega, by rw [List.length_append, HBL.out]; omega, by go_num, hB2, ?_, hb2⟩
                rw [HG.out, HL.out, HZ3.out, ← HL.out, List.drop_drop]
              case measure => simp [intOf]; omega
            · have f1 : ((m : Int) % 256 != 0) = true := by rw [bne_iff_ne]; omega
              have hz3 : unbF (f + 1) L p acc = .inl (p + 2) := by
                rw [HZ2.out, if_pos hr]; rfl
              have HZ3 := Lib.hid hz3
              clear hz3 hr
              go_wp2_with fail
              go_ret2
              refine ⟨_, _, rfl, ?_, hbw.alloc hs0 _⟩
              rw [HG.out, HL.out, HZ3.out]
              refine ⟨rfl, wo.heap.size, hs0, rfl, ?_⟩
              have e : (((p + 2 : Nat)) : Int) = (p : Int) + 3 - 1 := by omega
              rw [e]
              exact Blk.new _ _ _
          · have e1 : bits .and .i64 (m : Int) 0 = 0 := and_mask_i64_0 m (by omega)
            have hz3 : unbF (f + 1) L p acc = unbF f (L.drop 4) (p + 4) (acc ++ (unb3 m).take 3) := by
              rw [HZ2.out, if_neg (by simp [Nat.mod_one])]
            have HZ3 := Lib.hid hz3
            clear hz3
            obtain ⟨bs, hbs⟩ : ∃ bs, (unb3 m).take 3 = bs := ⟨_, rfl⟩
            have hc1 := unb3_cells wo m 3 hmb
            have hbl : bs.length = 3 := by rw [← hbs]; rfl
            rw [hbs] at HZ3 hc1
            have HC1 := Lib.hid hc1
            have HBL := Lib.hid hbl
            clear hbs hc1 hbl
            go_wp2_with (at_builtin; refine wpList_append_bytes _ rfl _ _ rfl w.heap.size _ acc rfl ?g0 ⟨wo.heap.size, 0, none⟩ bs 3 3 rfl ?gk HC1.out ?g2 ?g3 (w0 := w) ?g4 ?_)
            case gk => exact HBL.out.symm
            case g0 => exact hB.alloc _
            case g2 => rw [HBL.out]; omega
            case g3 => first | omega | (simp; omega)
            case g4 => exact hbw.alloc hs0 _
            intro v2 w2 hB2 hb2 hg2
            clear hB hg2
            go_wp2_with fail
            go_roundw
            case rel =>
              refine ⟨p + 4, f, acc ++ bs, by omega, by omega, by have := HPM.out; omega, by omega, by rw [List.length_append, HBL.out]; omega, by go_num, hB2, ?_, hb2⟩
              rw [HG.out, HL.out, HZ3.out, ← HL.out, List.drop_drop]
            case measure => simp [intOf]; omega
    · have hz : unbF s.size (s.data.toList.drop 2) 2 [] = .inr acc := by
        rw [HG.out, List.drop_eq_nil_of_le (by rw [len_of]; omega)]
        cases f <;> rfl
      have hcv := hB.string
      have HZ := Lib.hid hz
      clear hz
      go_wp2_with fail
      go_ret2
      refine ⟨_, _, rfl, ?_, hbw⟩
      rw [HZ.out]
      exact ⟨rfl, rfl⟩
end Go.Proofs.YtlbojhmhcaecjaaDoor
