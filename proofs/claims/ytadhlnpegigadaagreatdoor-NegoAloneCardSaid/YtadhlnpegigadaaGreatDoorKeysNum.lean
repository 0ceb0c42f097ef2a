/- strconv.ParseUint at base 10 and 16 and forty bits; keys.number, keys.Numeral. -/
import Derived.Test.YtadhlnpegigadaaGreatDoorGkeys
import Derived.Test.YtadhlnpegigadaaGreatDoorGseq
namespace Go.Proofs.YtadhlnpegigadaaGreatDoor
open Go.ChangeShapes Go.WideShapes Go.ChangeAt Go.RowKit Go.Shelf
set_option linter.unusedVariables false
set_option linter.unusedSimpArgs false
/- what strconv's two errors hold: some error -/
def Errs (w : World) : Prop := (∃ t p, w.cell? ⟨3, 0, none⟩ = some (.iface t p)) ∧ (∃ t p, w.cell? ⟨4, 0, none⟩ = some (.iface t p))
theorem Errs.on {w w' : World} (h : Errs w) (hb : Below w.heap.size w w') : Errs w' := by
  obtain ⟨⟨t, p, h1⟩, ⟨t2, p2, h2⟩⟩ := h
  exact ⟨⟨t, p, (hb.cell (World.block_lt_of_cell? _ _ h1)).trans h1⟩, ⟨t2, p2, (hb.cell (World.block_lt_of_cell? _ _ h2)).trans h2⟩⟩
theorem iface_of_reads {P : Program} {w : World} {n : String} {nm : String} {d : DataW Unit} {g : Nat} {t : TypeId} (hg : P.globalNamed n = some g) (ht : (P.globals[g]?).map (·.type) = some t) (hu : ∃ ms, P.underlying t = some (.interface ms)) (h : Lib.VarReads P w n (.iface nm d)) :
    ∃ u v, w.cell? ⟨g, 0, none⟩ = some (.iface u v) := by
  obtain ⟨g', t', cs, fuel, p, hg', ht', hvar, hx⟩ := h
  obtain rfl := Option.some.inj (hg.symm.trans hg')
  obtain rfl := Option.some.inj (ht.symm.trans ht')
  obtain ⟨ms, hu⟩ := hu
  rcases fuel with _ | fuel
  · cases hx
  unfold World.var? at hvar
  rw [hg, Option.bind_some] at hvar
  rcases hh : w.heap[g]? with _ | o
  · rw [hh] at hvar; cases hvar
  rw [hh] at hvar
  cases o <;> try (simp at hvar; done)
  rename_i cs' ct fr
  obtain rfl : cs' = cs := Option.some.inj hvar
  obtain ⟨cl⟩ := cs'
  simp only [DataW.trod, hu] at hx
  rcases cl with _ | ⟨v, _ | ⟨v2, cl⟩⟩
  · simp at hx
  · cases v <;> try (simp at hx; done)
    rename_i u v
    exact ⟨u, v, by simp [World.cell?, hh]⟩
  · cases v <;> simp at hx
theorem errs_of {L : List (String × DataW Unit)} {W : World} (h1 : ("strconv.ErrSyntax", Rows.laid_strconv_ErrSyntax) ∈ L) (h2 : ("strconv.ErrRange", Rows.laid_strconv_ErrRange) ∈ L) (h : laidMet Tryz.prog L W) : Errs W :=
  ⟨iface_of_reads (t := 33) (by kernel_rfl) (by kernel_rfl) ⟨_, Tryz.underlying33⟩ (Lib.laidMet.reads h h1), iface_of_reads (t := 33) (by kernel_rfl) (by kernel_rfl) ⟨_, Tryz.underlying33⟩ (Lib.laidMet.reads h h2)⟩
/- a digit, as the text finds it -/
theorem hex_cases : ∀ c : Fin 256, (48 ≤ c.val ∧ c.val ≤ 57 ∧ hexVal (UInt8.ofNat c.val) = some (c.val - 48)) ∨
    (∃ lo : Nat, lo < 256 ∧ bits .or .u8 (c.val : Int) 32 = (lo : Int) ∧ ((57 < c.val ∧ c.val ≠ 95 ∧ 97 ≤ lo ∧ lo ≤ 122 ∧ hexVal (UInt8.ofNat c.val) = if lo - 87 < 16 then some (lo - 87) else none) ∨ (¬ (48 ≤ c.val ∧ c.val ≤ 57) ∧ ¬ (97 ≤ lo ∧ lo ≤ 122) ∧ hexVal (UInt8.ofNat c.val) = none))) := by
  intro c
  have h : ∀ c : Fin 256, (48 ≤ c.val ∧ c.val ≤ 57 ∧ hexVal (UInt8.ofNat c.val) = some (c.val - 48)) ∨
    (bits .or .u8 (c.val : Int) 32 = ((c.val ||| 32 : Nat) : Int) ∧ (c.val ||| 32) < 256 ∧ ((57 < c.val ∧ c.val ≠ 95 ∧ 97 ≤ (c.val ||| 32) ∧ (c.val ||| 32) ≤ 122 ∧ hexVal (UInt8.ofNat c.val) = if (c.val ||| 32) - 87 < 16 then some ((c.val ||| 32) - 87) else none) ∨ (¬ (48 ≤ c.val ∧ c.val ≤ 57) ∧ ¬ (97 ≤ (c.val ||| 32) ∧ (c.val ||| 32) ≤ 122) ∧ hexVal (UInt8.ofNat c.val) = none))) := by decide +kernel
  rcases h c with h | ⟨h2, h3, h4⟩
  · exact .inl h
  · exact .inr ⟨_, h3, h2, h4⟩
def PuIs (b : Nat) (l : List UInt8) (e : Ending) : Prop := match numB b l with
  | some n => e = .returned (.tuple #[.int .u64 n, .nilIface])
  | none => ∃ v c : Int, e = .returned (.tuple #[.int .u64 v, .iface 181 (.int .i64 c)]) ∧ (c = 1 ∨ c = 2)
theorem PuIs_none {b : Nat} {l : List UInt8} {v c : Int} (h : numB b l = none) (hc : c = 1 ∨ c = 2) : PuIs b l (.returned (.tuple #[.int .u64 v, .iface 181 (.int .i64 c)])) := by
  unfold PuIs
  rw [h]
  exact ⟨v, c, rfl, hc⟩
theorem PuIs_some {b : Nat} {l : List UInt8} {n : Nat} (h : numB b l = some n) : PuIs b l (.returned (.tuple #[.int .u64 n, .nilIface])) := by
  unfold PuIs
  rw [h]
theorem numFrom_none {b acc : Nat} {c : UInt8} {l : List UInt8} (h : digV b c = none) : numFrom b acc (c :: l) = none := by rw [numFrom, h]
theorem numFrom_big {b acc d : Nat} {c : UInt8} {l : List UInt8} (h : digV b c = some d) (hb : ¬ acc * b + d < 1099511627776) : numFrom b acc (c :: l) = none := by
  rw [numFrom, h]
  simp only
  rw [if_neg hb]
theorem numFrom_next {b acc d : Nat} {c : UInt8} {l : List UInt8} (h : digV b c = some d) (hb : acc * b + d < 1099511627776) : numFrom b acc (c :: l) = numFrom b (acc * b + d) l := by
  rw [numFrom, h]
  simp only
  rw [if_pos hb]
theorem lower_to (c lo : Int) (h : bits .or .u8 c 32 = lo) (w : World) : Calls Tryz.prog 126 #[.int .u8 c] w fun e w' => e = .returned (.int .u8 lo) ∧ w = w' := by
  rw [← h]
  exact (Tryz.internal_strconv_lower c w).mono fun e w' h => ⟨h.1, h.2.symm⟩
theorem wrapU (x : Int) (h1 : 0 ≤ x) (h2 : x < 9223372036854775808) : IntKind.u64.wrap x = x := by
  rw [IntKind.wrap_u64]
  omega
set_option maxRecDepth 100000 in
set_option maxHeartbeats 4000000 in
theorem puint_any (b : Nat) (hb : b = 10 ∨ b = 16) (s : ByteArray) (hs : s.size ≤ 1000000) (w : World) : Calls Tryz.prog 110 #[.string s, .int .i64 b, .int .i64 40] w fun e w' => PuIs b s.data.toList e ∧ Below w.heap.size w w' := by
  by_cases h0 : s.size = 0
  · have hl : s.data.toList = [] := List.eq_nil_of_length_eq_zero (by rw [len_of, h0])
    have hs0 : s = ⟨#[]⟩ := by rw [str_of s, hl]
    subst hs0
    refine (Tryz.internal_strconv_ParseUint_empty b 40 w).mono ?_
    rintro e w' ⟨rfl, rfl⟩
    exact ⟨⟨_, _, rfl, .inr rfl⟩, Below.refl _ _⟩
  have hse : s.toList.isEmpty = false := by
    rw [toList_of]
    rcases hl0 : s.data.toList with _ | ⟨x, y⟩
    · have := len_of s; rw [hl0] at this; simp at this; omega
    · rfl
  have hse2 : ¬ s.toList = [] := by
    intro h
    rw [h] at hse
    cases hse
  have hnum : numB b s.data.toList = numFrom b 0 s.data.toList := by
    unfold numB
    rw [if_neg]
    intro h
    have := len_of s
    rw [h] at this
    simp at this
    omega
  obtain ⟨cap, C, fr, hcap, hC, hfr, hconv⟩ := bytes_of w s
  have HC := Lib.hid hC
  have HNUM := Lib.hid hnum
  have hb0 : Below w.heap.size w (w.drew.alloc (.cells C 5 fr)) := (Below.refl _ _).drew.alloc (Nat.le_refl _) _
  have hB0 : BlkM (w.drew.alloc (.cells C 5 fr)) w.heap.size 5 C := BlkM.new w.drew _ _ _ _ hfr
  obtain ⟨g, hg⟩ : ∃ g, w.heap.size = g := ⟨_, rfl⟩
  clear hC hnum
  obtain ⟨W0, hW0⟩ : ∃ W0 : World, w.drew.alloc (.cells C 5 fr) = W0 := ⟨_, rfl⟩
  rw [hW0] at hb0 hB0
  rw [hg] at hB0
  rw [hg, hW0] at hconv
  rcases hb with rfl | rfl
  · rw [show ((10 : Nat) : Int) = 10 from rfl]
    have HG := Lib.hid hg
    go_enter Tryz.func110, Tryz.ntmps110
    go_wp2_with fail
    try rw [hg]
    clear hg
    obtain ⟨CO, hCO⟩ : ∃ CO : Int, (1844674407370955162 : Int) = CO := ⟨_, rfl⟩
    obtain ⟨MV, hMV⟩ : ∃ MV : Int, (1099511627775 : Int) = MV := ⟨_, rfl⟩
    rw [hCO, hMV]
    have HCO := Lib.hid hCO
    have HMV := Lib.hid hMV
    clear hCO hMV
    go_loopw [12, 13, 101] (fun us nv i wr => ∃ k acc : Nat, k ≤ s.size ∧ us = .bool false ∧ i = .int .i64 k ∧ nv = .int .u64 acc ∧ (acc : Int) ≤ MV ∧ numFrom 10 0 s.data.toList = numFrom 10 acc (s.data.toList.drop k) ∧ wr = W0) (fun _ _ i _ => s.size - (intOf i).toNat)
    case atStart => exact ⟨0, 0, Nat.zero_le _, rfl, rfl, rfl, by rw [← HMV.out]; decide, by rw [List.drop_zero], rfl⟩
    case round =>
      obtain ⟨k, acc, hk, rfl, rfl, rfl, hacc, hnf, rfl⟩ := hrel
      have HNF := Lib.hid hnf
      clear hnf
      by_cases hlt : k < s.size
      · obtain ⟨c, hc⟩ : ∃ c, s.data.toList[k]? = some c := ⟨_, List.getElem?_eq_getElem (by rw [len_of]; exact hlt)⟩
        have hcell : wr.cell? ⟨g, k, none⟩ = some (.int .u8 c.toNat) := by
          rw [hB0.cell k, HC.out]
          exact rowGet hc
        have hdrop : s.data.toList.drop k = c :: s.data.toList.drop (k + 1) := by
          have h1 := (List.getElem?_eq_some_iff.1 hc)
          obtain ⟨h2, h3⟩ := h1
          rw [List.drop_eq_getElem_cons h2, h3]
        have HDROP := Lib.hid hdrop
        have hxc := hex_cases ⟨c.toNat, c.toNat_lt⟩
        simp only [UInt8.ofNat_toNat] at hxc
        obtain ⟨cn, hcn⟩ : ∃ cn, c.toNat = cn := ⟨_, rfl⟩
        have hcl : cn < 256 := by rw [← hcn]; exact c.toNat_lt
        rw [hcn] at hxc hcell
        clear hc hdrop hcn
        rcases hxc with ⟨h1, h2, hx⟩ | ⟨lo, hlo, hor, ⟨h0a, h0b, h1, h2, hx⟩ | ⟨h1, h2, hx⟩⟩
        · -- a digit
          have hdv : digV 10 c = some (cn - 48) := by
            unfold digV
            rw [hx]
            simp only [Option.bind_some]
            rw [if_pos (by omega)]
          obtain ⟨d, hd⟩ : ∃ d, cn - 48 = d := ⟨_, rfl⟩
          rw [hd] at hdv
          have hcd : cn = d + 48 := by omega
          subst hcd
          have hd9 : d ≤ 9 := by omega
          have HDV := Lib.hid hdv
          clear hdv hx hd h1 h2
          have hm1 := HMV.out
          have hc1 := HCO.out
          have u1 : IntKind.u64.wrap ((acc : Int) * 10) = (acc : Int) * 10 := wrapU _ (by omega) (by omega)
          have u2 : IntKind.u64.wrap ((acc : Int) * 10 + (d : Int)) = (acc : Int) * 10 + (d : Int) := wrapU _ (by omega) (by omega)
          have u3 : (acc : Int) < CO := by omega
          have u4 : (acc : Int) * 10 ≤ (acc : Int) * 10 + (d : Int) := by omega
          by_cases hfit : (acc : Int) * 10 + d ≤ MV
          · have hft : acc * 10 + d < 1099511627776 := by omega
            have HFT := Lib.hid hft
            clear hm1 hc1 hft
            go_wp2_with fail
            go_roundw
            case rel => exact ⟨k + 1, acc * 10 + d, by omega, rfl, by go_num, by go_num, by push_cast; exact hfit, by rw [HNF.out, HDROP.out]; exact numFrom_next HDV.out HFT.out, by trivial⟩
            case measure => simp [intOf]; omega
          · have hft : ¬ acc * 10 + d < 1099511627776 := by omega
            have HFT := Lib.hid hft
            have hfit2 : MV < (acc : Int) * 10 + d := by omega
            clear hm1 hc1 hft hfit
            go_wp2_with fail
            go_ret2
            first | exact ⟨PuIs_none (by rw [HNUM.out, HNF.out, HDROP.out]; exact numFrom_big HDV.out HFT.out) (.inl rfl), hb0⟩ | exact ⟨PuIs_none (by rw [HNUM.out, HNF.out, HDROP.out]; exact numFrom_big HDV.out HFT.out) (.inl rfl), by rw [← HG.out]; exact hb0⟩
        · -- a letter
          have h95 : ((cn : Int) == 95) = false := by simp; omega
          have h57 : (57 : Int) < (cn : Int) := by omega
          have i1 : (97 : Int) ≤ (lo : Int) := by omega
          have i2 : (lo : Int) ≤ 122 := by omega
          have i3 : (10 : Int) ≤ (lo : Int) - 97 + 10 := by omega
          have i4 : (0 : Int) ≤ (lo : Int) - 97 := by omega
          have hdv : digV 10 c = none := by
            unfold digV
            rw [hx]
            by_cases h17 : lo - 87 < 16
            · rw [if_pos h17]
              simp only [Option.bind_some]
              rw [if_neg (by omega)]
            · rw [if_neg h17]; rfl
          have HDV := Lib.hid hdv
          clear hdv hx
          go_wp2_with (go_at_call 126; refine (lower_to cn lo hor _).mono ?_; rintro e w' ⟨rfl, rfl⟩)
          go_ret2
          first | exact ⟨PuIs_none (by rw [HNUM.out, HNF.out, HDROP.out]; exact numFrom_none HDV.out) (.inr rfl), hb0⟩ | exact ⟨PuIs_none (by rw [HNUM.out, HNF.out, HDROP.out]; exact numFrom_none HDV.out) (.inr rfl), by rw [← HG.out]; exact hb0⟩
        · -- anything else
          have hdv : digV 10 c = none := by
            unfold digV
            rw [hx]
            rfl
          have HDV := Lib.hid hdv
          have k1 : cn < 48 ∨ 57 < cn := by omega
          have k2 : lo < 97 ∨ 122 < lo := by omega
          clear hdv hx h1 h2
          by_cases h95 : cn = 95
          · subst h95
            have hcell95 : wr.cell? ⟨g, k, none⟩ = some (.int .u8 95) := hcell
            have HOR := Lib.hid (show bits .or .u8 (95 : Int) 32 = 127 by decide)
            clear k1 k2 hcell hor hlo hcl
            go_wp2_with (go_at_call 126; refine (lower_to 95 127 HOR.out _).mono ?_; rintro e w' ⟨rfl, rfl⟩)
            go_ret2
            first | exact ⟨PuIs_none (by rw [HNUM.out, HNF.out, HDROP.out]; exact numFrom_none HDV.out) (.inr rfl), hb0⟩ | exact ⟨PuIs_none (by rw [HNUM.out, HNF.out, HDROP.out]; exact numFrom_none HDV.out) (.inr rfl), by rw [← HG.out]; exact hb0⟩
          · have h96 : ((cn : Int) == 95) = false := by simp; omega
            clear h95
            rcases k1 with k1 | k1
            all_goals rcases k2 with k2 | k2
            all_goals
              have i1 : (cn : Int) < 256 := by omega
              have i2 : (lo : Int) < 256 := by omega
              first | have i3 : (cn : Int) < 48 := by omega | have i3 : (57 : Int) < (cn : Int) := by omega
              first | have i4 : (lo : Int) < 97 := by omega | have i4 : (122 : Int) < (lo : Int) := by omega
              try have i5 : (48 : Int) ≤ (cn : Int) := by omega
              try have i6 : (97 : Int) ≤ (lo : Int) := by omega
              go_wp2_with (go_at_call 126; refine (lower_to cn lo hor _).mono ?_; rintro e w' ⟨rfl, rfl⟩)
              go_ret2
              first | exact ⟨PuIs_none (by rw [HNUM.out, HNF.out, HDROP.out]; exact numFrom_none HDV.out) (.inr rfl), hb0⟩ | exact ⟨PuIs_none (by rw [HNUM.out, HNF.out, HDROP.out]; exact numFrom_none HDV.out) (.inr rfl), by rw [← HG.out]; exact hb0⟩
      · have hdr : s.data.toList.drop k = [] := List.drop_eq_nil_of_le (by rw [len_of]; omega)
        have HDR := Lib.hid hdr
        clear hdr
        go_wp2_with fail
        go_ret2
        first | exact ⟨PuIs_some (by rw [HNUM.out, HNF.out, HDR.out]; rfl), hb0⟩ | exact ⟨PuIs_some (by rw [HNUM.out, HNF.out, HDR.out]; rfl), by rw [← HG.out]; exact hb0⟩
  · rw [show ((16 : Nat) : Int) = 16 from rfl]
    have HG := Lib.hid hg
    go_enter Tryz.func110, Tryz.ntmps110
    go_wp2_with fail
    try rw [hg]
    clear hg
    obtain ⟨CO, hCO⟩ : ∃ CO : Int, (1152921504606846976 : Int) = CO := ⟨_, rfl⟩
    obtain ⟨MV, hMV⟩ : ∃ MV : Int, (1099511627775 : Int) = MV := ⟨_, rfl⟩
    rw [hCO, hMV]
    have HCO := Lib.hid hCO
    have HMV := Lib.hid hMV
    clear hCO hMV
    go_loopw [12, 13, 101] (fun us nv i wr => ∃ k acc : Nat, k ≤ s.size ∧ us = .bool false ∧ i = .int .i64 k ∧ nv = .int .u64 acc ∧ (acc : Int) ≤ MV ∧ numFrom 16 0 s.data.toList = numFrom 16 acc (s.data.toList.drop k) ∧ wr = W0) (fun _ _ i _ => s.size - (intOf i).toNat)
    case atStart => exact ⟨0, 0, Nat.zero_le _, rfl, rfl, rfl, by rw [← HMV.out]; decide, by rw [List.drop_zero], rfl⟩
    case round =>
      obtain ⟨k, acc, hk, rfl, rfl, rfl, hacc, hnf, rfl⟩ := hrel
      have HNF := Lib.hid hnf
      clear hnf
      by_cases hlt : k < s.size
      · obtain ⟨c, hc⟩ : ∃ c, s.data.toList[k]? = some c := ⟨_, List.getElem?_eq_getElem (by rw [len_of]; exact hlt)⟩
        have hcell : wr.cell? ⟨g, k, none⟩ = some (.int .u8 c.toNat) := by
          rw [hB0.cell k, HC.out]
          exact rowGet hc
        have hdrop : s.data.toList.drop k = c :: s.data.toList.drop (k + 1) := by
          have h1 := (List.getElem?_eq_some_iff.1 hc)
          obtain ⟨h2, h3⟩ := h1
          rw [List.drop_eq_getElem_cons h2, h3]
        have HDROP := Lib.hid hdrop
        have hxc := hex_cases ⟨c.toNat, c.toNat_lt⟩
        simp only [UInt8.ofNat_toNat] at hxc
        obtain ⟨cn, hcn⟩ : ∃ cn, c.toNat = cn := ⟨_, rfl⟩
        have hcl : cn < 256 := by rw [← hcn]; exact c.toNat_lt
        rw [hcn] at hxc hcell
        clear hc hdrop hcn
        rcases hxc with ⟨h1, h2, hx⟩ | ⟨lo, hlo, hor, ⟨h0a, h0b, h1, h2, hx⟩ | ⟨h1, h2, hx⟩⟩
        · -- a digit
          have hdv : digV 16 c = some (cn - 48) := by
            unfold digV
            rw [hx]
            simp only [Option.bind_some]
            rw [if_pos (by omega)]
          obtain ⟨d, hd⟩ : ∃ d, cn - 48 = d := ⟨_, rfl⟩
          rw [hd] at hdv
          have hcd : cn = d + 48 := by omega
          subst hcd
          have hd9 : d ≤ 9 := by omega
          have HDV := Lib.hid hdv
          clear hdv hx hd h1 h2
          have hm1 := HMV.out
          have hc1 := HCO.out
          have u1 : IntKind.u64.wrap ((acc : Int) * 16) = (acc : Int) * 16 := wrapU _ (by omega) (by omega)
          have u2 : IntKind.u64.wrap ((acc : Int) * 16 + (d : Int)) = (acc : Int) * 16 + (d : Int) := wrapU _ (by omega) (by omega)
          have u3 : (acc : Int) < CO := by omega
          have u4 : (acc : Int) * 16 ≤ (acc : Int) * 16 + (d : Int) := by omega
          by_cases hfit : (acc : Int) * 16 + d ≤ MV
          · have hft : acc * 16 + d < 1099511627776 := by omega
            have HFT := Lib.hid hft
            clear hm1 hc1 hft
            go_wp2_with fail
            go_roundw
            case rel => exact ⟨k + 1, acc * 16 + d, by omega, rfl, by go_num, by go_num, by push_cast; exact hfit, by rw [HNF.out, HDROP.out]; exact numFrom_next HDV.out HFT.out, by trivial⟩
            case measure => simp [intOf]; omega
          · have hft : ¬ acc * 16 + d < 1099511627776 := by omega
            have HFT := Lib.hid hft
            have hfit2 : MV < (acc : Int) * 16 + d := by omega
            clear hm1 hc1 hft hfit
            go_wp2_with fail
            go_ret2
            first | exact ⟨PuIs_none (by rw [HNUM.out, HNF.out, HDROP.out]; exact numFrom_big HDV.out HFT.out) (.inl rfl), hb0⟩ | exact ⟨PuIs_none (by rw [HNUM.out, HNF.out, HDROP.out]; exact numFrom_big HDV.out HFT.out) (.inl rfl), by rw [← HG.out]; exact hb0⟩
        · -- a letter
          have h95 : ((cn : Int) == 95) = false := by simp; omega
          have h57 : (57 : Int) < (cn : Int) := by omega
          have i1 : (97 : Int) ≤ (lo : Int) := by omega
          have i2 : (lo : Int) ≤ 122 := by omega
          by_cases h16 : lo < 103
          · obtain ⟨d, hd⟩ : ∃ d, lo - 87 = d := ⟨_, rfl⟩
            have hdv : digV 16 c = some d := by
              unfold digV
              rw [hx, if_pos (by omega)]
              simp only [Option.bind_some]
              rw [if_pos (by omega), hd]
            have hlod : lo = d + 87 := by omega
            subst hlod
            have hor2 : bits .or .u8 (cn : Int) 32 = (d : Int) + 87 := by rw [hor]; push_cast; rfl
            have HOR := Lib.hid hor2
            have HDV := Lib.hid hdv
            have hd16 : d < 16 := by omega
            have hd10 : 10 ≤ d := by omega
            have i1 : (97 : Int) ≤ (d : Int) + 87 := by omega
            have i2 : (d : Int) + 87 ≤ 122 := by omega
            have j1 : (d : Int) + 87 - 97 + 10 = (d : Int) := by omega
            clear hdv hx hd h16 h1 h2 hor hor2 hlo
            have hm1 := HMV.out
            have hc1 := HCO.out
            have u1 : IntKind.u64.wrap ((acc : Int) * 16) = (acc : Int) * 16 := wrapU _ (by omega) (by omega)
            have u2 : IntKind.u64.wrap ((acc : Int) * 16 + (d : Int)) = (acc : Int) * 16 + (d : Int) := wrapU _ (by omega) (by omega)
            have u3 : (acc : Int) < CO := by omega
            have u4 : (acc : Int) * 16 ≤ (acc : Int) * 16 + (d : Int) := by omega
            by_cases hfit : (acc : Int) * 16 + d ≤ MV
            · have hft : acc * 16 + d < 1099511627776 := by omega
              have HFT := Lib.hid hft
              clear hm1 hc1 hft
              go_wp2_with (go_at_call 126; refine (lower_to cn ((d : Int) + 87) HOR.out _).mono ?_; rintro e w' ⟨rfl, rfl⟩)
              go_roundw
              case rel => exact ⟨k + 1, acc * 16 + d, by omega, rfl, by go_num, by go_num, by push_cast; exact hfit, by rw [HNF.out, HDROP.out]; exact numFrom_next HDV.out HFT.out, by trivial⟩
              case measure => simp [intOf]; omega
            · have hft : ¬ acc * 16 + d < 1099511627776 := by omega
              have HFT := Lib.hid hft
              have hfit2 : MV < (acc : Int) * 16 + d := by omega
              clear hm1 hc1 hft hfit
              go_wp2_with (go_at_call 126; refine (lower_to cn ((d : Int) + 87) HOR.out _).mono ?_; rintro e w' ⟨rfl, rfl⟩)
              go_ret2
              first | exact ⟨PuIs_none (by rw [HNUM.out, HNF.out, HDROP.out]; exact numFrom_big HDV.out HFT.out) (.inl rfl), hb0⟩ | exact ⟨PuIs_none (by rw [HNUM.out, HNF.out, HDROP.out]; exact numFrom_big HDV.out HFT.out) (.inl rfl), by rw [← HG.out]; exact hb0⟩
          · have hdv : digV 16 c = none := by
              unfold digV
              rw [hx, if_neg (by omega)]
              rfl
            have HDV := Lib.hid hdv
            have i3 : (16 : Int) ≤ (lo : Int) - 97 + 10 := by omega
            have i4 : (0 : Int) ≤ (lo : Int) - 97 := by omega
            clear hdv hx
            go_wp2_with (go_at_call 126; refine (lower_to cn lo hor _).mono ?_; rintro e w' ⟨rfl, rfl⟩)
            go_ret2
            first | exact ⟨PuIs_none (by rw [HNUM.out, HNF.out, HDROP.out]; exact numFrom_none HDV.out) (.inr rfl), hb0⟩ | exact ⟨PuIs_none (by rw [HNUM.out, HNF.out, HDROP.out]; exact numFrom_none HDV.out) (.inr rfl), by rw [← HG.out]; exact hb0⟩
        · -- anything else
          have hdv : digV 16 c = none := by
            unfold digV
            rw [hx]
            rfl
          have HDV := Lib.hid hdv
          have k1 : cn < 48 ∨ 57 < cn := by omega
          have k2 : lo < 97 ∨ 122 < lo := by omega
          clear hdv hx h1 h2
          by_cases h95 : cn = 95
          · subst h95
            have hcell95 : wr.cell? ⟨g, k, none⟩ = some (.int .u8 95) := hcell
            have HOR := Lib.hid (show bits .or .u8 (95 : Int) 32 = 127 by decide)
            clear k1 k2 hcell hor hlo hcl
            go_wp2_with (go_at_call 126; refine (lower_to 95 127 HOR.out _).mono ?_; rintro e w' ⟨rfl, rfl⟩)
            go_ret2
            first | exact ⟨PuIs_none (by rw [HNUM.out, HNF.out, HDROP.out]; exact numFrom_none HDV.out) (.inr rfl), hb0⟩ | exact ⟨PuIs_none (by rw [HNUM.out, HNF.out, HDROP.out]; exact numFrom_none HDV.out) (.inr rfl), by rw [← HG.out]; exact hb0⟩
          · have h96 : ((cn : Int) == 95) = false := by simp; omega
            clear h95
            rcases k1 with k1 | k1
            all_goals rcases k2 with k2 | k2
            all_goals
              have i1 : (cn : Int) < 256 := by omega
              have i2 : (lo : Int) < 256 := by omega
              first | have i3 : (cn : Int) < 48 := by omega | have i3 : (57 : Int) < (cn : Int) := by omega
              first | have i4 : (lo : Int) < 97 := by omega | have i4 : (122 : Int) < (lo : Int) := by omega
              try have i5 : (48 : Int) ≤ (cn : Int) := by omega
              try have i6 : (97 : Int) ≤ (lo : Int) := by omega
              go_wp2_with (go_at_call 126; refine (lower_to cn lo hor _).mono ?_; rintro e w' ⟨rfl, rfl⟩)
              go_ret2
              first | exact ⟨PuIs_none (by rw [HNUM.out, HNF.out, HDROP.out]; exact numFrom_none HDV.out) (.inr rfl), hb0⟩ | exact ⟨PuIs_none (by rw [HNUM.out, HNF.out, HDROP.out]; exact numFrom_none HDV.out) (.inr rfl), by rw [← HG.out]; exact hb0⟩
      · have hdr : s.data.toList.drop k = [] := List.drop_eq_nil_of_le (by rw [len_of]; omega)
        have HDR := Lib.hid hdr
        clear hdr
        go_wp2_with fail
        go_ret2
        first | exact ⟨PuIs_some (by rw [HNUM.out, HNF.out, HDR.out]; rfl), hb0⟩ | exact ⟨PuIs_some (by rw [HNUM.out, HNF.out, HDR.out]; rfl), by rw [← HG.out]; exact hb0⟩
end Go.Proofs.YtadhlnpegigadaaGreatDoor
