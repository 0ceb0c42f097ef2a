/- KeysNum KeysNum2 KeysFits EnvK KeysYes. -/
import Derived.Test.YtamlepacljjpiaaGreatDoorGkeys
import Derived.Test.YtamlepacljjpiaaGreatDoorGhead
import Derived.Deep.RegionHeld3
import Derived.Test.YtamlepacljjpiaaGreatDoorKeysOf
import Derived.Test.YtamlepacljjpiaaGreatDoorGbase
import Derived.Maps.StringElems
/- strconv.ParseUint at base 10 and 16 and forty bits; keys.number, keys.Numeral. -/
namespace Go.Proofs.YtamlepacljjpiaaGreatDoor
open Go.ChangeShapes Go.WideShapes Go.ChangeAt Go.RowKit Go.Shelf
set_option linter.unusedVariables false
set_option linter.unusedSimpArgs false
/- what strconv's two errors hold: some error -/
def Errs (w : World) : Prop := (∃ t p, w.cell? ⟨5, 0, none⟩ = some (.iface t p)) ∧ (∃ t p, w.cell? ⟨6, 0, none⟩ = some (.iface t p))
theorem Errs.on {w w' : World} (h : Errs w) (hb : Below w.heap.size w w') : Errs w' := by
  obtain ⟨⟨t, p, h1⟩, ⟨t2, p2, h2⟩⟩ := h
  exact ⟨⟨t, p, (hb.cell (World.block_lt_of_cell? _ _ h1)).trans h1⟩, ⟨t2, p2, (hb.cell (World.block_lt_of_cell? _ _ h2)).trans h2⟩⟩
theorem iface_of_reads {P : Program} {w : World} {n : String} {nm : String} {d : DataW Unit} {g : Nat} {t : TypeId} (hg : P.globalNamed n = some g) (ht : (P.globals[g]?).map (·.type) = some t) (hu : ∃ ms, P.underlying t = some (.interface ms)) (h : Lib.VarReads P w n (.iface nm d)) :
    ∃ u v, w.cell? ⟨g, 0, none⟩ = some (.iface u v) := by
  obtain ⟨g', t', cs, fuel, p, hg', ht', hvar, hx⟩ := h
  obtain rfl := Option.some.inj (hg.symm.trans hg')
  obtain rfl := Option.some.inj (ht.symm.trans ht')
  obtain ⟨ms, hu⟩ := hu
  rcases fuel with _ | fuel
  · cases hx
  unfold World.var? at hvar
  rw [hg, Option.bind_some] at hvar
  rcases hh : w.heap[g]? with _ | o
  · rw [hh] at hvar; cases hvar
  rw [hh] at hvar
  cases o <;> try (simp at hvar; done)
  rename_i cs' ct fr
  obtain rfl : cs' = cs := Option.some.inj hvar
  obtain ⟨cl⟩ := cs'
  simp only [DataW.trod, hu] at hx
  rcases cl with _ | ⟨v, _ | ⟨v2, cl⟩⟩
  · simp at hx
  · cases v <;> try (simp at hx; done)
    rename_i u v
    exact ⟨u, v, by simp [World.cell?, hh]⟩
  · cases v <;> simp at hx
theorem errs_of {L : List (String × DataW Unit)} {W : World} (h1 : ("strconv.ErrSyntax", Rows.laid_strconv_ErrSyntax) ∈ L) (h2 : ("strconv.ErrRange", Rows.laid_strconv_ErrRange) ∈ L) (h : laidMet Tryz.prog L W) : Errs W :=
  ⟨iface_of_reads (t := 45) (by kernel_rfl) (by kernel_rfl) ⟨_, Tryz.underlying45⟩ (Lib.laidMet.reads h h1), iface_of_reads (t := 45) (by kernel_rfl) (by kernel_rfl) ⟨_, Tryz.underlying45⟩ (Lib.laidMet.reads h h2)⟩
/- a digit, as the text finds it -/
theorem hex_cases : ∀ c : Fin 256, (48 ≤ c.val ∧ c.val ≤ 57 ∧ hexVal (UInt8.ofNat c.val) = some (c.val - 48)) ∨
    (∃ lo : Nat, lo < 256 ∧ bits .or .u8 (c.val : Int) 32 = (lo : Int) ∧ ((57 < c.val ∧ c.val ≠ 95 ∧ 97 ≤ lo ∧ lo ≤ 122 ∧ hexVal (UInt8.ofNat c.val) = if lo - 87 < 16 then some (lo - 87) else none) ∨ (¬ (48 ≤ c.val ∧ c.val ≤ 57) ∧ ¬ (97 ≤ lo ∧ lo ≤ 122) ∧ hexVal (UInt8.ofNat c.val) = none))) := by
  intro c
  have h : ∀ c : Fin 256, (48 ≤ c.val ∧ c.val ≤ 57 ∧ hexVal (UInt8.ofNat c.val) = some (c.val - 48)) ∨
    (bits .or .u8 (c.val : Int) 32 = ((c.val ||| 32 : Nat) : Int) ∧ (c.val ||| 32) < 256 ∧ ((57 < c.val ∧ c.val ≠ 95 ∧ 97 ≤ (c.val ||| 32) ∧ (c.val ||| 32) ≤ 122 ∧ hexVal (UInt8.ofNat c.val) = if (c.val ||| 32) - 87 < 16 then some ((c.val ||| 32) - 87) else none) ∨ (¬ (48 ≤ c.val ∧ c.val ≤ 57) ∧ ¬ (97 ≤ (c.val ||| 32) ∧ (c.val ||| 32) ≤ 122) ∧ hexVal (UInt8.ofNat c.val) = none))) := by decide +kernel
  rcases h c with h | ⟨h2, h3, h4⟩
  · exact .inl h
  · exact .inr ⟨_, h3, h2, h4⟩
def PuIs (b : Nat) (l : List UInt8) (e : Ending) : Prop := match numB b l with
  | some n => e = .returned (.tuple #[.int .u64 n, .nilIface])
  | none => ∃ v c : Int, e = .returned (.tuple #[.int .u64 v, .iface 228 (.int .i64 c)]) ∧ (c = 1 ∨ c = 2)
theorem PuIs_none {b : Nat} {l : List UInt8} {v c : Int} (h : numB b l = none) (hc : c = 1 ∨ c = 2) : PuIs b l (.returned (.tuple #[.int .u64 v, .iface 228 (.int .i64 c)])) := by
  unfold PuIs
  rw [h]
  exact ⟨v, c, rfl, hc⟩
theorem PuIs_some {b : Nat} {l : List UInt8} {n : Nat} (h : numB b l = some n) : PuIs b l (.returned (.tuple #[.int .u64 n, .nilIface])) := by
  unfold PuIs
  rw [h]
theorem numFrom_none {b acc : Nat} {c : UInt8} {l : List UInt8} (h : digV b c = none) : numFrom b acc (c :: l) = none := by rw [numFrom, h]
theorem numFrom_big {b acc d : Nat} {c : UInt8} {l : List UInt8} (h : digV b c = some d) (hb : ¬ acc * b + d < 1099511627776) : numFrom b acc (c :: l) = none := by
  rw [numFrom, h]
  simp only
  rw [if_neg hb]
theorem numFrom_next {b acc d : Nat} {c : UInt8} {l : List UInt8} (h : digV b c = some d) (hb : acc * b + d < 1099511627776) : numFrom b acc (c :: l) = numFrom b (acc * b + d) l := by
  rw [numFrom, h]
  simp only
  rw [if_pos hb]
theorem lower_to (c lo : Int) (h : bits .or .u8 c 32 = lo) (w : World) : Calls Tryz.prog 165 #[.int .u8 c] w fun e w' => e = .returned (.int .u8 lo) ∧ w = w' := by
  rw [← h]
  exact (Tryz.internal_strconv_lower c w).mono fun e w' h => ⟨h.1, h.2.symm⟩
theorem wrapU (x : Int) (h1 : 0 ≤ x) (h2 : x < 9223372036854775808) : IntKind.u64.wrap x = x := by
  rw [IntKind.wrap_u64]
  omega
set_option maxRecDepth 100000 in
set_option maxHeartbeats 4000000 in
theorem puint_any (b : Nat) (hb : b = 10 ∨ b = 16) (s : ByteArray) (hs : s.size ≤ 1000000) (w : World) : Calls Tryz.prog 154 #[.string s, .int .i64 b, .int .i64 40] w fun e w' => PuIs b s.data.toList e ∧ Below w.heap.size w w' := by
  by_cases h0 : s.size = 0
  · have hl : s.data.toList = [] := List.eq_nil_of_length_eq_zero (by rw [len_of, h0])
    have hs0 : s = ⟨#[]⟩ := by rw [str_of s, hl]
    subst hs0
    refine (Tryz.internal_strconv_ParseUint_empty b 40 w).mono ?_
    rintro e w' ⟨rfl, rfl⟩
    exact ⟨⟨_, _, rfl, .inr rfl⟩, Below.refl _ _⟩
  have hse : s.toList.isEmpty = false := by
    rw [toList_of]
    rcases hl0 : s.data.toList with _ | ⟨x, y⟩
    · have := len_of s; rw [hl0] at this; simp at this; omega
    · rfl
  have hse2 : ¬ s.toList = [] := by
    intro h
    rw [h] at hse
    cases hse
  have hnum : numB b s.data.toList = numFrom b 0 s.data.toList := by
    unfold numB
    rw [if_neg]
    intro h
    have := len_of s
    rw [h] at this
    simp at this
    omega
  obtain ⟨cap, C, fr, hcap, hC, hfr, hconv⟩ := bytes_of w s
  have HC := Lib.hid hC
  have HNUM := Lib.hid hnum
  have hb0 : Below w.heap.size w (w.drew.alloc (.cells C 5 fr)) := (Below.refl _ _).drew.alloc (Nat.le_refl _) _
  have hB0 : BlkM (w.drew.alloc (.cells C 5 fr)) w.heap.size 5 C := BlkM.new w.drew _ _ _ _ hfr
  obtain ⟨g, hg⟩ : ∃ g, w.heap.size = g := ⟨_, rfl⟩
  clear hC hnum
  obtain ⟨W0, hW0⟩ : ∃ W0 : World, w.drew.alloc (.cells C 5 fr) = W0 := ⟨_, rfl⟩
  rw [hW0] at hb0 hB0
  rw [hg] at hB0
  rw [hg, hW0] at hconv
  rcases hb with rfl | rfl
  · rw [show ((10 : Nat) : Int) = 10 from rfl]
    have HG := Lib.hid hg
    go_enter Tryz.func154, Tryz.ntmps154
    go_wp2_with fail
    try rw [hg]
    clear hg
    obtain ⟨CO, hCO⟩ : ∃ CO : Int, (1844674407370955162 : Int) = CO := ⟨_, rfl⟩
    obtain ⟨MV, hMV⟩ : ∃ MV : Int, (1099511627775 : Int) = MV := ⟨_, rfl⟩
    rw [hCO, hMV]
    have HCO := Lib.hid hCO
    have HMV := Lib.hid hMV
    clear hCO hMV
    go_loopw [12, 13, 101] (fun us nv i wr => ∃ k acc : Nat, k ≤ s.size ∧ us = .bool false ∧ i = .int .i64 k ∧ nv = .int .u64 acc ∧ (acc : Int) ≤ MV ∧ numFrom 10 0 s.data.toList = numFrom 10 acc (s.data.toList.drop k) ∧ wr = W0) (fun _ _ i _ => s.size - (intOf i).toNat)
    case atStart => exact ⟨0, 0, Nat.zero_le _, rfl, rfl, rfl, by rw [← HMV.out]; decide, by rw [List.drop_zero], rfl⟩
    case round =>
      obtain ⟨k, acc, hk, rfl, rfl, rfl, hacc, hnf, rfl⟩ := hrel
      have HNF := Lib.hid hnf
      clear hnf
      by_cases hlt : k < s.size
      · obtain ⟨c, hc⟩ : ∃ c, s.data.toList[k]? = some c := ⟨_, List.getElem?_eq_getElem (by rw [len_of]; exact hlt)⟩
        have hcell : wr.cell? ⟨g, k, none⟩ = some (.int .u8 c.toNat) := by
          rw [hB0.cell k, HC.out]
          exact rowGet hc
        have hdrop : s.data.toList.drop k = c :: s.data.toList.drop (k + 1) := by
          have h1 := (List.getElem?_eq_some_iff.1 hc)
          obtain ⟨h2, h3⟩ := h1
          rw [List.drop_eq_getElem_cons h2, h3]
        have HDROP := Lib.hid hdrop
        have hxc := hex_cases ⟨c.toNat, c.toNat_lt⟩
        simp only [UInt8.ofNat_toNat] at hxc
        obtain ⟨cn, hcn⟩ : ∃ cn, c.toNat = cn := ⟨_, rfl⟩
        have hcl : cn < 256 := by rw [← hcn]; exact c.toNat_lt
        rw [hcn] at hxc hcell
        clear hc hdrop hcn
        rcases hxc with ⟨h1, h2, hx⟩ | ⟨lo, hlo, hor, ⟨h0a, h0b, h1, h2, hx⟩ | ⟨h1, h2, hx⟩⟩
        · -- a digit
          have hdv : digV 10 c = some (cn - 48) := by
            unfold digV
            rw [hx]
            simp only [Option.bind_some]
            rw [if_pos (by omega)]
          obtain ⟨d, hd⟩ : ∃ d, cn - 48 = d := ⟨_, rfl⟩
          rw [hd] at hdv
          have hcd : cn = d + 48 := by omega
          subst hcd
          have hd9 : d ≤ 9 := by omega
          have HDV := Lib.hid hdv
          clear hdv hx hd h1 h2
          have hm1 := HMV.out
          have hc1 := HCO.out
          have u1 : IntKind.u64.wrap ((acc : Int) * 10) = (acc : Int) * 10 := wrapU _ (by omega) (by omega)
          have u2 : IntKind.u64.wrap ((acc : Int) * 10 + (d : Int)) = (acc : Int) * 10 + (d : Int) := wrapU _ (by omega) (by omega)
          have u3 : (acc : Int) < CO := by omega
          have u4 : (acc : Int) * 10 ≤ (acc : Int) * 10 + (d : Int) := by omega
          by_cases hfit : (acc : Int) * 10 + d ≤ MV
          · have hft : acc * 10 + d < 1099511627776 := by omega
            have HFT := Lib.hid hft
            clear hm1 hc1 hft
            go_wp2_with fail
            go_roundw
            case rel => exact ⟨k + 1, acc * 10 + d, by omega, rfl, by go_num, by go_num, by push_cast; exact hfit, by rw [HNF.out, HDROP.out]; exact numFrom_next HDV.out HFT.out, by trivial⟩
            case measure => simp [intOf]; omega
          · have hft : ¬ acc * 10 + d < 1099511627776 := by omega
            have HFT := Lib.hid hft
            have hfit2 : MV < (acc : Int) * 10 + d := by omega
            clear hm1 hc1 hft hfit
            go_wp2_with fail
            go_ret2
            first | exact ⟨PuIs_none (by rw [HNUM.out, HNF.out, HDROP.out]; exact numFrom_big HDV.out HFT.out) (.inl rfl), hb0⟩ | exact ⟨PuIs_none (by rw [HNUM.out, HNF.out, HDROP.out]; exact numFrom_big HDV.out HFT.out) (.inl rfl), by rw [← HG.out]; exact hb0⟩
        · -- a letter
          have h95 : ((cn : Int) == 95) = false := by simp; omega
          have h57 : (57 : Int) < (cn : Int) := by omega
          have i1 : (97 : Int) ≤ (lo : Int) := by omega
          have i2 : (lo : Int) ≤ 122 := by omega
          have i3 : (10 : Int) ≤ (lo : Int) - 97 + 10 := by omega
          have i4 : (0 : Int) ≤ (lo : Int) - 97 := by omega
          have hdv : digV 10 c = none := by
            unfold digV
            rw [hx]
            by_cases h17 : lo - 87 < 16
            · rw [if_pos h17]
              simp only [Option.bind_some]
              rw [if_neg (by omega)]
            · rw [if_neg h17]; rfl
          have HDV := Lib.hid hdv
          clear hdv hx
          go_wp2_with (go_at_call 165; refine (lower_to cn lo hor _).mono ?_; rintro e w' ⟨rfl, rfl⟩)
          go_ret2
          first | exact ⟨PuIs_none (by rw [HNUM.out, HNF.out, HDROP.out]; exact numFrom_none HDV.out) (.inr rfl), hb0⟩ | exact ⟨PuIs_none (by rw [HNUM.out, HNF.out, HDROP.out]; exact numFrom_none HDV.out) (.inr rfl), by rw [← HG.out]; exact hb0⟩
        · -- anything else
          have hdv : digV 10 c = none := by
            unfold digV
            rw [hx]
            rfl
          have HDV := Lib.hid hdv
          have k1 : cn < 48 ∨ 57 < cn := by omega
          have k2 : lo < 97 ∨ 122 < lo := by omega
          clear hdv hx h1 h2
          by_cases h95 : cn = 95
          · subst h95
            have hcell95 : wr.cell? ⟨g, k, none⟩ = some (.int .u8 95) := hcell
            have HOR := Lib.hid (show bits .or .u8 (95 : Int) 32 = 127 by decide)
            clear k1 k2 hcell hor hlo hcl
            go_wp2_with (go_at_call 165; refine (lower_to 95 127 HOR.out _).mono ?_; rintro e w' ⟨rfl, rfl⟩)
            go_ret2
            first | exact ⟨PuIs_none (by rw [HNUM.out, HNF.out, HDROP.out]; exact numFrom_none HDV.out) (.inr rfl), hb0⟩ | exact ⟨PuIs_none (by rw [HNUM.out, HNF.out, HDROP.out]; exact numFrom_none HDV.out) (.inr rfl), by rw [← HG.out]; exact hb0⟩
          · have h96 : ((cn : Int) == 95) = false := by simp; omega
            clear h95
            rcases k1 with k1 | k1
            all_goals rcases k2 with k2 | k2
            all_goals
              have i1 : (cn : Int) < 256 := by omega
              have i2 : (lo : Int) < 256 := by omega
              first | have i3 : (cn : Int) < 48 := by omega | have i3 : (57 : Int) < (cn : Int) := by omega
              first | have i4 : (lo : Int) < 97 := by omega | have i4 : (122 : Int) < (lo : Int) := by omega
              try have i5 : (48 : Int) ≤ (cn : Int) := by omega
              try have i6 : (97 : Int) ≤ (lo : Int) := by omega
              go_wp2_with (go_at_call 165; refine (lower_to cn lo hor _).mono ?_; rintro e w' ⟨rfl, rfl⟩)
              go_ret2
              first | exact ⟨PuIs_none (by rw [HNUM.out, HNF.out, HDROP.out]; exact numFrom_none HDV.out) (.inr rfl), hb0⟩ | exact ⟨PuIs_none (by rw [HNUM.out, HNF.out, HDROP.out]; exact numFrom_none HDV.out) (.inr rfl), by rw [← HG.out]; exact hb0⟩
      · have hdr : s.data.toList.drop k = [] := List.drop_eq_nil_of_le (by rw [len_of]; omega)
        have HDR := Lib.hid hdr
        clear hdr
        go_wp2_with fail
        go_ret2
        first | exact ⟨PuIs_some (by rw [HNUM.out, HNF.out, HDR.out]; rfl), hb0⟩ | exact ⟨PuIs_some (by rw [HNUM.out, HNF.out, HDR.out]; rfl), by rw [← HG.out]; exact hb0⟩
  · rw [show ((16 : Nat) : Int) = 16 from rfl]
    have HG := Lib.hid hg
    go_enter Tryz.func154, Tryz.ntmps154
    go_wp2_with fail
    try rw [hg]
    clear hg
    obtain ⟨CO, hCO⟩ : ∃ CO : Int, (1152921504606846976 : Int) = CO := ⟨_, rfl⟩
    obtain ⟨MV, hMV⟩ : ∃ MV : Int, (1099511627775 : Int) = MV := ⟨_, rfl⟩
    rw [hCO, hMV]
    have HCO := Lib.hid hCO
    have HMV := Lib.hid hMV
    clear hCO hMV
    go_loopw [12, 13, 101] (fun us nv i wr => ∃ k acc : Nat, k ≤ s.size ∧ us = .bool false ∧ i = .int .i64 k ∧ nv = .int .u64 acc ∧ (acc : Int) ≤ MV ∧ numFrom 16 0 s.data.toList = numFrom 16 acc (s.data.toList.drop k) ∧ wr = W0) (fun _ _ i _ => s.size - (intOf i).toNat)
    case atStart => exact ⟨0, 0, Nat.zero_le _, rfl, rfl, rfl, by rw [← HMV.out]; decide, by rw [List.drop_zero], rfl⟩
    case round =>
      obtain ⟨k, acc, hk, rfl, rfl, rfl, hacc, hnf, rfl⟩ := hrel
      have HNF := Lib.hid hnf
      clear hnf
      by_cases hlt : k < s.size
      · obtain ⟨c, hc⟩ : ∃ c, s.data.toList[k]? = some c := ⟨_, List.getElem?_eq_getElem (by rw [len_of]; exact hlt)⟩
        have hcell : wr.cell? ⟨g, k, none⟩ = some (.int .u8 c.toNat) := by
          rw [hB0.cell k, HC.out]
          exact rowGet hc
        have hdrop : s.data.toList.drop k = c :: s.data.toList.drop (k + 1) := by
          have h1 := (List.getElem?_eq_some_iff.1 hc)
          obtain ⟨h2, h3⟩ := h1
          rw [List.drop_eq_getElem_cons h2, h3]
        have HDROP := Lib.hid hdrop
        have hxc := hex_cases ⟨c.toNat, c.toNat_lt⟩
        simp only [UInt8.ofNat_toNat] at hxc
        obtain ⟨cn, hcn⟩ : ∃ cn, c.toNat = cn := ⟨_, rfl⟩
        have hcl : cn < 256 := by rw [← hcn]; exact c.toNat_lt
        rw [hcn] at hxc hcell
        clear hc hdrop hcn
        rcases hxc with ⟨h1, h2, hx⟩ | ⟨lo, hlo, hor, ⟨h0a, h0b, h1, h2, hx⟩ | ⟨h1, h2, hx⟩⟩
        · -- a digit
          have hdv : digV 16 c = some (cn - 48) := by
            unfold digV
            rw [hx]
            simp only [Option.bind_some]
            rw [if_pos (by omega)]
          obtain ⟨d, hd⟩ : ∃ d, cn - 48 = d := ⟨_, rfl⟩
          rw [hd] at hdv
          have hcd : cn = d + 48 := by omega
          subst hcd
          have hd9 : d ≤ 9 := by omega
          have HDV := Lib.hid hdv
          clear hdv hx hd h1 h2
          have hm1 := HMV.out
          have hc1 := HCO.out
          have u1 : IntKind.u64.wrap ((acc : Int) * 16) = (acc : Int) * 16 := wrapU _ (by omega) (by omega)
          have u2 : IntKind.u64.wrap ((acc : Int) * 16 + (d : Int)) = (acc : Int) * 16 + (d : Int) := wrapU _ (by omega) (by omega)
          have u3 : (acc : Int) < CO := by omega
          have u4 : (acc : Int) * 16 ≤ (acc : Int) * 16 + (d : Int) := by omega
          by_cases hfit : (acc : Int) * 16 + d ≤ MV
          · have hft : acc * 16 + d < 1099511627776 := by omega
            have HFT := Lib.hid hft
            clear hm1 hc1 hft
            go_wp2_with fail
            go_roundw
            case rel => exact ⟨k + 1, acc * 16 + d, by omega, rfl, by go_num, by go_num, by push_cast; exact hfit, by rw [HNF.out, HDROP.out]; exact numFrom_next HDV.out HFT.out, by trivial⟩
            case measure => simp [intOf]; omega
          · have hft : ¬ acc * 16 + d < 1099511627776 := by omega
            have HFT := Lib.hid hft
            have hfit2 : MV < (acc : Int) * 16 + d := by omega
            clear hm1 hc1 hft hfit
            go_wp2_with fail
            go_ret2
            first | exact ⟨PuIs_none (by rw [HNUM.out, HNF.out, HDROP.out]; exact numFrom_big HDV.out HFT.out) (.inl rfl), hb0⟩ | exact ⟨PuIs_none (by rw [HNUM.out, HNF.out, HDROP.out]; exact numFrom_big HDV.out HFT.out) (.inl rfl), by rw [← HG.out]; exact hb0⟩
        · -- a letter
          have h95 : ((cn : Int) == 95) = false := by simp; omega
          have h57 : (57 : Int) < (cn : Int) := by omega
          have i1 : (97 : Int) ≤ (lo : Int) := by omega
          have i2 : (lo : Int) ≤ 122 := by omega
          by_cases h16 : lo < 103
          · obtain ⟨d, hd⟩ : ∃ d, lo - 87 = d := ⟨_, rfl⟩
            have hdv : digV 16 c = some d := by
              unfold digV
              rw [hx, if_pos (by omega)]
              simp only [Option.bind_some]
              rw [if_pos (by omega), hd]
            have hlod : lo = d + 87 := by omega
            subst hlod
            have hor2 : bits .or .u8 (cn : Int) 32 = (d : Int) + 87 := by rw [hor]; push_cast; rfl
            have HOR := Lib.hid hor2
            have HDV := Lib.hid hdv
            have hd16 : d < 16 := by omega
            have hd10 : 10 ≤ d := by omega
            have i1 : (97 : Int) ≤ (d : Int) + 87 := by omega
            have i2 : (d : Int) + 87 ≤ 122 := by omega
            have j1 : (d : Int) + 87 - 97 + 10 = (d : Int) := by omega
            clear hdv hx hd h16 h1 h2 hor hor2 hlo
            have hm1 := HMV.out
            have hc1 := HCO.out
            have u1 : IntKind.u64.wrap ((acc : Int) * 16) = (acc : Int) * 16 := wrapU _ (by omega) (by omega)
            have u2 : IntKind.u64.wrap ((acc : Int) * 16 + (d : Int)) = (acc : Int) * 16 + (d : Int) := wrapU _ (by omega) (by omega)
            have u3 : (acc : Int) < CO := by omega
            have u4 : (acc : Int) * 16 ≤ (acc : Int) * 16 + (d : Int) := by omega
            by_cases hfit : (acc : Int) * 16 + d ≤ MV
            · have hft : acc * 16 + d < 1099511627776 := by omega
              have HFT := Lib.hid hft
              clear hm1 hc1 hft
              go_wp2_with (go_at_call 165; refine (lower_to cn ((d : Int) + 87) HOR.out _).mono ?_; rintro e w' ⟨rfl, rfl⟩)
              go_roundw
              case rel => exact ⟨k + 1, acc * 16 + d, by omega, rfl, by go_num, by go_num, by push_cast; exact hfit, by rw [HNF.out, HDROP.out]; exact numFrom_next HDV.out HFT.out, by trivial⟩
              case measure => simp [intOf]; omega
            · have hft : ¬ acc * 16 + d < 1099511627776 := by omega
              have HFT := Lib.hid hft
              have hfit2 : MV < (acc : Int) * 16 + d := by omega
              clear hm1 hc1 hft hfit
              go_wp2_with (go_at_call 165; refine (lower_to cn ((d : Int) + 87) HOR.out _).mono ?_; rintro e w' ⟨rfl, rfl⟩)
              go_ret2
              first | exact ⟨PuIs_none (by rw [HNUM.out, HNF.out, HDROP.out]; exact numFrom_big HDV.out HFT.out) (.inl rfl), hb0⟩ | exact ⟨PuIs_none (by rw [HNUM.out, HNF.out, HDROP.out]; exact numFrom_big HDV.out HFT.out) (.inl rfl), by rw [← HG.out]; exact hb0⟩
          · have hdv : digV 16 c = none := by
              unfold digV
              rw [hx, if_neg (by omega)]
              rfl
            have HDV := Lib.hid hdv
            have i3 : (16 : Int) ≤ (lo : Int) - 97 + 10 := by omega
            have i4 : (0 : Int) ≤ (lo : Int) - 97 := by omega
            clear hdv hx
            go_wp2_with (go_at_call 165; refine (lower_to cn lo hor _).mono ?_; rintro e w' ⟨rfl, rfl⟩)
            go_ret2
            first | exact ⟨PuIs_none (by rw [HNUM.out, HNF.out, HDROP.out]; exact numFrom_none HDV.out) (.inr rfl), hb0⟩ | exact ⟨PuIs_none (by rw [HNUM.out, HNF.out, HDROP.out]; exact numFrom_none HDV.out) (.inr rfl), by rw [← HG.out]; exact hb0⟩
        · -- anything else
          have hdv : digV 16 c = none := by
            unfold digV
            rw [hx]
            rfl
          have HDV := Lib.hid hdv
          have k1 : cn < 48 ∨ 57 < cn := by omega
          have k2 : lo < 97 ∨ 122 < lo := by omega
          clear hdv hx h1 h2
          by_cases h95 : cn = 95
          · subst h95
            have hcell95 : wr.cell? ⟨g, k, none⟩ = some (.int .u8 95) := hcell
            have HOR := Lib.hid (show bits .or .u8 (95 : Int) 32 = 127 by decide)
            clear k1 k2 hcell hor hlo hcl
            go_wp2_with (go_at_call 165; refine (lower_to 95 127 HOR.out _).mono ?_; rintro e w' ⟨rfl, rfl⟩)
            go_ret2
            first | exact ⟨PuIs_none (by rw [HNUM.out, HNF.out, HDROP.out]; exact numFrom_none HDV.out) (.inr rfl), hb0⟩ | exact ⟨PuIs_none (by rw [HNUM.out, HNF.out, HDROP.out]; exact numFrom_none HDV.out) (.inr rfl), by rw [← HG.out]; exact hb0⟩
          · have h96 : ((cn : Int) == 95) = false := by simp; omega
            clear h95
            rcases k1 with k1 | k1
            all_goals rcases k2 with k2 | k2
            all_goals
              have i1 : (cn : Int) < 256 := by omega
              have i2 : (lo : Int) < 256 := by omega
              first | have i3 : (cn : Int) < 48 := by omega | have i3 : (57 : Int) < (cn : Int) := by omega
              first | have i4 : (lo : Int) < 97 := by omega | have i4 : (122 : Int) < (lo : Int) := by omega
              try have i5 : (48 : Int) ≤ (cn : Int) := by omega
              try have i6 : (97 : Int) ≤ (lo : Int) := by omega
              go_wp2_with (go_at_call 165; refine (lower_to cn lo hor _).mono ?_; rintro e w' ⟨rfl, rfl⟩)
              go_ret2
              first | exact ⟨PuIs_none (by rw [HNUM.out, HNF.out, HDROP.out]; exact numFrom_none HDV.out) (.inr rfl), hb0⟩ | exact ⟨PuIs_none (by rw [HNUM.out, HNF.out, HDROP.out]; exact numFrom_none HDV.out) (.inr rfl), by rw [← HG.out]; exact hb0⟩
      · have hdr : s.data.toList.drop k = [] := List.drop_eq_nil_of_le (by rw [len_of]; omega)
        have HDR := Lib.hid hdr
        clear hdr
        go_wp2_with fail
        go_ret2
        first | exact ⟨PuIs_some (by rw [HNUM.out, HNF.out, HDR.out]; rfl), hb0⟩ | exact ⟨PuIs_some (by rw [HNUM.out, HNF.out, HDR.out]; rfl), by rw [← HG.out]; exact hb0⟩
end Go.Proofs.YtamlepacljjpiaaGreatDoor

/- strconv.ParseUint; keys.number, keys.Numeral. -/
namespace Go.Proofs.YtamlepacljjpiaaGreatDoor
open Go.ChangeShapes Go.WideShapes Go.ChangeAt Go.RowKit Go.Shelf
set_option linter.unusedVariables false
set_option linter.unusedSimpArgs false
def PubIs (b : Nat) (l : List UInt8) (e : Ending) : Prop := match numB b l with
  | some n => e = .returned (.tuple #[.int .u64 n, .nilIface])
  | none => ∃ (v : Int) (t : TypeId) (x : Value), e = .returned (.tuple #[.int .u64 v, .iface t x])
theorem PubIs_none {b : Nat} {l : List UInt8} {v : Int} {t : TypeId} {x : Value} (h : numB b l = none) : PubIs b l (.returned (.tuple #[.int .u64 v, .iface t x])) := by
  unfold PubIs
  rw [h]
  exact ⟨v, t, x, rfl⟩
theorem PubIs_some {b : Nat} {l : List UInt8} {n : Nat} (h : numB b l = some n) : PubIs b l (.returned (.tuple #[.int .u64 n, .nilIface])) := by
  unfold PubIs
  rw [h]
theorem toErr (fn s : ByteArray) (b k c : Int) (w : World) (E : Errs w) (hs : s.size ≤ 1000000) (hc : c = 1 ∨ c = 2) : Calls Tryz.prog 121 #[.string fn, .string s, .int .i64 b, .int .i64 k, .iface 228 (.int .i64 c)] w fun e w' => ∃ t x, e = .returned (.iface t x) ∧ Below w.heap.size w w' := by
  obtain ⟨⟨t1, p1, h1⟩, ⟨t2, p2, h2⟩⟩ := E
  rcases hc with rfl | rfl
  · refine (Tryz.strconv_toError_range fn s b k _ w (by omega) h2 (.inr ⟨_, _, rfl⟩)).mono ?_
    rintro e w' ⟨N, rfl, _, _, hb⟩
    exact ⟨_, _, rfl, hb⟩
  · refine (Tryz.strconv_toError_syntax fn s b k _ w (by omega) h1 (.inr ⟨_, _, rfl⟩)).mono ?_
    rintro e w' ⟨N, rfl, _, _, hb⟩
    exact ⟨_, _, rfl, hb⟩
theorem pubUint_any (b : Nat) (hb : b = 10 ∨ b = 16) (s : ByteArray) (hs : s.size ≤ 1000000) (w : World) (E : Errs w) : Calls Tryz.prog 134 #[.string s, .int .i64 b, .int .i64 40] w fun e w' => PubIs b s.data.toList e ∧ Below w.heap.size w w' := by
  rcases hn : numB b s.data.toList with _ | n
  · go_enter Tryz.func134, Tryz.ntmps134
    go_wp2_with fail
    refine (puint_any b hb s hs _).mono ?_
    rintro e w1 ⟨hp, hb1⟩
    unfold PuIs at hp
    rw [hn] at hp
    obtain ⟨v, c, rfl, hc⟩ := hp
    have HN := Lib.hid hn
    clear hn
    go_wp2_with fail
    refine (toErr _ s b 40 c _ (E.on hb1) hs hc).mono ?_
    rintro e w2 ⟨t, x, rfl, hb2⟩
    go_wp2_with fail
    go_ret2
    exact ⟨PubIs_none HN.out, below_step hb1 hb2⟩
  · go_enter Tryz.func134, Tryz.ntmps134
    go_wp2_with fail
    refine (puint_any b hb s hs _).mono ?_
    rintro e w1 ⟨hp, hb1⟩
    unfold PuIs at hp
    rw [hn] at hp
    obtain rfl : e = _ := hp
    have HN := Lib.hid hn
    clear hn
    go_wp2_with fail
    go_ret2
    exact ⟨PubIs_some HN.out, hb1⟩
theorem pubUint_some (b : Nat) (hb : b = 10 ∨ b = 16) (s : ByteArray) (n : Nat) (hn : numB b s.data.toList = some n) (hs : s.size ≤ 1000000) (w : World) (E : Errs w) : Calls Tryz.prog 134 #[.string s, .int .i64 b, .int .i64 40] w fun e w' => e = .returned (.tuple #[.int .u64 n, .nilIface]) ∧ Below w.heap.size w w' := by
  refine (pubUint_any b hb s hs w E).mono ?_
  rintro e w' ⟨hp, hb⟩
  unfold PubIs at hp
  rw [hn] at hp
  exact ⟨hp, hb⟩
theorem pubUint_none (b : Nat) (hb : b = 10 ∨ b = 16) (s : ByteArray) (hn : numB b s.data.toList = none) (hs : s.size ≤ 1000000) (w : World) (E : Errs w) : Calls Tryz.prog 134 #[.string s, .int .i64 b, .int .i64 40] w fun e w' => ∃ (v : Int) (t : TypeId) (x : Value), e = .returned (.tuple #[.int .u64 v, .iface t x]) ∧ Below w.heap.size w w' := by
  refine (pubUint_any b hb s hs w E).mono ?_
  rintro e w' ⟨hp, hb⟩
  unfold PubIs at hp
  rw [hn] at hp
  obtain ⟨v, t, x, rfl⟩ := hp
  exact ⟨v, t, x, rfl, hb⟩
theorem numFrom_lt : ∀ (b acc : Nat) (l : List UInt8) (n : Nat), acc < 1099511627776 → numFrom b acc l = some n → n < 1099511627776
  | b, acc, [], n, ha, h => by rw [numFrom, Option.some.injEq] at h; omega
  | b, acc, c :: l, n, ha, h => by
    rw [numFrom] at h
    split at h
    · cases h
    · split at h
      · exact numFrom_lt b _ l n (by assumption) h
      · cases h
theorem numFrom_hex : ∀ (b acc : Nat) (l : List UInt8) (n : Nat), numFrom b acc l = some n → ∀ c ∈ l, (hexVal c).isSome = true
  | b, acc, [], n, h => fun c hc => by cases hc
  | b, acc, c :: l, n, h => by
    rw [numFrom] at h
    split at h
    · cases h
    · rename_i d hd
      split at h
      · intro x hx
        rcases List.mem_cons.1 hx with rfl | hx
        · unfold digV at hd
          rcases hv : hexVal x with _ | v
          · rw [hv] at hd; cases hd
          · rfl
        · exact numFrom_hex b _ l n h x hx
      · cases h
theorem numB_lt {b : Nat} {l : List UInt8} {n : Nat} (h : numB b l = some n) : n < 1099511627776 := by
  unfold numB at h
  split at h
  · cases h
  · exact numFrom_lt b 0 l n (by decide) h
theorem numB_hex {b : Nat} {l : List UInt8} {n : Nat} (h : numB b l = some n) : l ≠ [] ∧ ∀ c ∈ l, (hexVal c).isSome = true := by
  unfold numB at h
  split at h
  · cases h
  · exact ⟨by assumption, numFrom_hex b 0 l n h⟩
theorem hex_ascii : ∀ c : Fin 256, (hexVal (UInt8.ofNat c.val)).isSome = true → c.val < 128 ∧ c.val ≠ 95 ∧ c.val ≠ 43 ∧ c.val ≠ 45 := by decide +kernel
theorem hex_asc {c : UInt8} (h : (hexVal c).isSome = true) : c.toNat < 128 ∧ c ≠ 95 ∧ c ≠ 43 ∧ c ≠ 45 := by
  have := hex_ascii ⟨c.toNat, c.toNat_lt⟩ (by simpa using h)
  refine ⟨this.1, ?_, ?_, ?_⟩ <;> rintro rfl <;> simp at this
theorem hex_none : ∀ (l : List UInt8), (∀ c ∈ l, (hexVal c).isSome = true) → Lib.indexAny l [95, 43, 45] = -1
  | [], _ => rfl
  | c :: l, h => by
    obtain ⟨_, h1, h2, h3⟩ := hex_asc (h c (List.mem_cons_self ..))
    have ih := hex_none l fun x hx => h x (List.mem_cons_of_mem _ hx)
    unfold Lib.indexAny
    rw [if_neg (by simp [h1, h2, h3]), ih]
    rfl
theorem contains_no (s : ByteArray) (b n : Nat) (hn : numB b s.data.toList = some n) (hs : s.size ≤ 1000000) (w : World) : Calls Tryz.prog 135 #[.string s, .string ⟨#[95, 43, 45]⟩] w fun e w' => e = .returned (.bool false) ∧ Below w.heap.size w w' := by
  obtain ⟨_, hx⟩ := numB_hex hn
  have h := Tryz.strings_ContainsAny_laid s ⟨#[95, 43, 45]⟩ w (by omega) (by decide) (fun j b hj => (hex_asc (hx b (List.mem_of_getElem? hj))).1) (fun j b hj => by
    have := List.mem_of_getElem? hj
    simp at this
    rcases this with rfl | rfl | rfl <;> decide)
  rw [show Lib.containsAny s.data.toList (⟨#[95, 43, 45]⟩ : ByteArray).data.toList = false by
    unfold Lib.containsAny
    rw [show (⟨#[95, 43, 45]⟩ : ByteArray).data.toList = [95, 43, 45] from rfl, hex_none _ hx]
    decide] at h
  exact h
theorem prefix_hex (l : List UInt8) : Lib.hasPrefix l [48, 120] = isHex l ∧ Lib.trimPrefix l [48, 120] = if isHex l then l.drop 2 else l := by
  have h : Lib.hasPrefix l [48, 120] = isHex l := by
    unfold Lib.hasPrefix isHex
    rcases l with _ | ⟨a, _ | ⟨b, l⟩⟩
    · rfl
    · simp [List.isPrefixOf]
    · have hc : ∀ x y : UInt8, (x == y) = (y == x) := fun x y => by
        rw [Bool.eq_iff_iff, beq_iff_eq, beq_iff_eq]
        exact eq_comm
      simp only [List.isPrefixOf, List.take_succ_cons, List.take_zero, Bool.and_true]
      rw [hc 48 a, hc 120 b]
      simp
  exact ⟨h, by unfold Lib.trimPrefix; rw [h]; rfl⟩
theorem cut_hex (s : ByteArray) (w : World) : Calls Tryz.prog 133 #[.string s, .string ⟨#[48, 120]⟩] w fun e w' => e = .returned (.tuple #[.string ⟨(if isHex s.data.toList then s.data.toList.drop 2 else s.data.toList).toArray⟩, .bool (isHex s.data.toList)]) ∧ w = w' := by
  have h := Tryz.strings_CutPrefix s ⟨#[48, 120]⟩ w
  rw [show (⟨#[48, 120]⟩ : ByteArray).data.toList = [48, 120] from rfl, (prefix_hex _).1, (prefix_hex _).2] at h
  exact h.mono fun e w' hh => ⟨hh.1, hh.2.symm⟩
theorem conv_u64 (n : Nat) (h : n < 1099511627776) : IntKind.i64.wrap (n : Int) = (n : Int) := by rw [IntKind.wrap_i64]; omega
set_option maxHeartbeats 6000000 in
theorem number_some (s : ByteArray) (n : Nat) (hn : numP s.data.toList = some n) (hs : s.size ≤ 1000000) (w : World) (E : Errs w) : Calls Tryz.prog 117 #[.string s] w fun e w' => e = .returned (.tuple #[.int .i64 n, .bool true]) ∧ Below w.heap.size w w' := by
  unfold numP at hn
  rcases hx : isHex s.data.toList with _ | _
  · rw [hx] at hn
    simp only [Bool.false_eq_true, if_false] at hn
    rcases hb : numB 10 s.data.toList with _ | m
    · rw [hb] at hn; cases hn
    rw [hb] at hn
    simp only at hn
    split at hn
    rotate_left
    · cases hn
    rename_i hhead
    obtain rfl : m = n := Option.some.inj hn
    have hlt := numB_lt hb
    have hne := (numB_hex hb).1
    have hz : 0 < s.size := by
      rw [← len_of]
      exact List.length_pos_iff.2 hne
    have hcut := cut_hex s w
    rw [hx] at hcut
    simp only [Bool.false_eq_true, if_false] at hcut
    rw [← str_of] at hcut
    have hm1 : (m : Int) ≤ 1099511627775 := by omega
    have hcv : IntKind.i64.wrap (m : Int) = (m : Int) := conv_u64 m hlt
    have HB := Lib.hid hb
    have HCUT := Lib.hid hcut
    have hr0 : Below w.heap.size w w.drew := (Below.refl _ _).drew
    clear hb hcut hx hn hlt hne
    by_cases h48 : s.data.toList = [48]
    · have e0 : (s.toList == [48]) = true := by rw [toList_of, h48]; rfl
      have a0 : ((s[0]'hz).toNat : Int) = 48 := by
        have h3 : s.data.toList[0]? = some (s[0]'hz) := by
          rw [List.getElem?_eq_getElem (by rw [len_of]; exact hz)]
          rfl
        rw [h48] at h3
        rw [← Option.some.inj h3]
        rfl
      have hz0 : (0 : Int) < s.size := by omega
      clear h48 hhead
      go_enter Tryz.func117, Tryz.ntmps117
      go_wp2_with fail
      refine HCUT.out.mono ?_
      rintro e w' ⟨rfl, rfl⟩
      go_wp2_with fail
      refine (pubUint_some 10 (.inl rfl) s m HB.out hs _ E).mono ?_
      rintro e w1 ⟨rfl, hb1⟩
      have hr1 : Below w1.heap.size w1 w1.drew := (Below.refl _ _).drew
      go_wp2_with fail
      refine wp_region_held_drew (S := fun _ => True) (by kernel_rfl) trivial (fun hHeld => ?_)
      refine wpAnyH_take (i := 0) (v := ?_) rfl (by kernel_rfl) (by kernel_rfl) (by kernel_rfl) (fun _ _ _ h => h) (Or.inl ⟨by kernel_rfl, ?_⟩) (by assumption) ?_
      rotate_left
      · intro wq hSq
        (try dsimp only at hSq)
        go_simp
        all_goals with_reducible rfl
      try simp only [Act.put, List.setIfInBounds_toArray, List.set_cons_zero, List.set_cons_succ]
      refine wpAnyH_take (i := 1) (v := ?_) rfl (by kernel_rfl) (by kernel_rfl) (by kernel_rfl) (fun _ _ _ h => h) (Or.inl ⟨by kernel_rfl, ?_⟩) (by assumption) ?_
      rotate_left
      · intro wq hSq
        (try dsimp only at hSq)
        go_simp
        all_goals with_reducible rfl
      try simp only [Act.put, List.setIfInBounds_toArray, List.set_cons_zero, List.set_cons_succ]
      refine wpAnyH_take (i := 2) (v := ?_) rfl (by kernel_rfl) (by kernel_rfl) (by kernel_rfl) (fun _ _ _ h => h) (Or.inl ⟨by kernel_rfl, ?_⟩) (by assumption) ?_
      rotate_left
      · intro wq hSq
        (try dsimp only at hSq)
        go_simp
        all_goals with_reducible rfl
      try simp only [Act.put, List.setIfInBounds_toArray, List.set_cons_zero, List.set_cons_succ]
      refine wpAnyH_take (i := 3) (v := ?_) rfl (by kernel_rfl) (by kernel_rfl) (by kernel_rfl) (fun _ _ _ h => h) (Or.inl ⟨by kernel_rfl, ?_⟩) (by assumption) ?_
      rotate_left
      · intro wq hSq
        (try dsimp only at hSq)
        go_simp
        all_goals with_reducible rfl
      try simp only [Act.put, List.setIfInBounds_toArray, List.set_cons_zero, List.set_cons_succ]
      refine wpAnyH_take (i := 4) (v := ?_) rfl (by kernel_rfl) (by kernel_rfl) (by kernel_rfl) (fun _ _ _ h => h) (Or.inl ⟨by kernel_rfl, ?_⟩) (by assumption) ?_
      rotate_left
      · intro wq hSq
        (try dsimp only at hSq)
        go_simp
        all_goals with_reducible rfl
      try simp only [Act.put, List.setIfInBounds_toArray, List.set_cons_zero, List.set_cons_succ]
      refine wpAnyH_take (i := 5) (v := ?_) rfl (by kernel_rfl) (by kernel_rfl) (by kernel_rfl) (fun _ _ _ h => h) (Or.inl ⟨by kernel_rfl, ?_⟩) (by assumption) ?_
      rotate_left
      · intro wq hSq
        (try dsimp only at hSq)
        go_simp
        all_goals with_reducible rfl
      try simp only [Act.put, List.setIfInBounds_toArray, List.set_cons_zero, List.set_cons_succ]
      refine wpAnyH_ready (rs := [6]) (by kernel_rfl) (by simp) ?_
      refine AllReadyH.cons rfl (fun K hK => ?_) AllReadyH.nil
      go_simp
      go_at_call 135
      refine (contains_no s 10 m HB.out hs _).mono ?_
      rintro e w2 ⟨rfl, hb2⟩
      go_wp2_with fail
      refine hK.out _ _ trivial (fun hHeld => ?_)
      try simp only [Act.put, List.setIfInBounds_toArray, List.set_cons_zero, List.set_cons_succ]
      refine wpAnyH_take (i := 7) (v := ?_) rfl (by kernel_rfl) (by kernel_rfl) (by kernel_rfl) (fun _ _ _ h => h) (Or.inl ⟨by kernel_rfl, ?_⟩) (by assumption) ?_
      rotate_left
      · intro wq hSq
        (try dsimp only at hSq)
        go_simp
        all_goals with_reducible rfl
      try simp only [Act.put, List.setIfInBounds_toArray, List.set_cons_zero, List.set_cons_succ]
      refine wpAnyH_take (i := 8) (v := ?_) rfl (by kernel_rfl) (by kernel_rfl) (by kernel_rfl) (fun _ _ _ h => h) (Or.inl ⟨by kernel_rfl, ?_⟩) (by assumption) ?_
      rotate_left
      · intro wq hSq
        (try dsimp only at hSq)
        go_simp
        all_goals with_reducible rfl
      try simp only [Act.put, List.setIfInBounds_toArray, List.set_cons_zero, List.set_cons_succ]
      refine wpAnyH_take (i := 9) (v := ?_) rfl (by kernel_rfl) (by kernel_rfl) (by kernel_rfl) (fun _ _ _ h => h) (Or.inl ⟨by kernel_rfl, ?_⟩) (by assumption) ?_
      rotate_left
      · intro wq hSq
        (try dsimp only at hSq)
        go_simp
        all_goals with_reducible rfl
      try simp only [Act.put, List.setIfInBounds_toArray, List.set_cons_zero, List.set_cons_succ]
      refine wpAnyH_take (i := 10) (v := ?_) rfl (by kernel_rfl) (by kernel_rfl) (by kernel_rfl) (fun _ _ _ h => h) (Or.inl ⟨by kernel_rfl, ?_⟩) (by assumption) ?_
      rotate_left
      · intro wq hSq
        (try dsimp only at hSq)
        go_simp
        all_goals with_reducible rfl
      try simp only [Act.put, List.setIfInBounds_toArray, List.set_cons_zero, List.set_cons_succ]
      refine wpAnyH_take (i := 11) (v := ?_) rfl (by kernel_rfl) (by kernel_rfl) (by kernel_rfl) (fun _ _ _ h => h) (Or.inl ⟨by kernel_rfl, ?_⟩) (by assumption) ?_
      rotate_left
      · intro wq hSq
        (try dsimp only at hSq)
        go_simp
        all_goals with_reducible rfl
      try simp only [Act.put, List.setIfInBounds_toArray, List.set_cons_zero, List.set_cons_succ]
      refine wpAnyH_take (i := 12) (v := ?_) rfl (by kernel_rfl) (by kernel_rfl) (by kernel_rfl) (fun _ _ _ h => h) (Or.inl ⟨by kernel_rfl, ?_⟩) (by assumption) ?_
      rotate_left
      · intro wq hSq
        (try dsimp only at hSq)
        go_simp
        all_goals with_reducible rfl
      try simp only [Act.put, List.setIfInBounds_toArray, List.set_cons_zero, List.set_cons_succ]
      refine wpAnyH_take (i := 13) (v := undef) rfl (by kernel_rfl) (by kernel_rfl) (by kernel_rfl) (fun _ _ _ h => h) (Or.inr ⟨by kernel_rfl, rfl⟩) (by assumption) ?_
      try simp only [Act.put, List.setIfInBounds_toArray, List.set_cons_zero, List.set_cons_succ]
      refine wpAnyH_take (i := 14) (v := undef) rfl (by kernel_rfl) (by kernel_rfl) (by kernel_rfl) (fun _ _ _ h => h) (Or.inr ⟨by kernel_rfl, rfl⟩) (by assumption) ?_
      try simp only [Act.put, List.setIfInBounds_toArray, List.set_cons_zero, List.set_cons_succ]
      refine wpAnyH_take (i := 15) (v := undef) rfl (by kernel_rfl) (by kernel_rfl) (by kernel_rfl) (fun _ _ _ h => h) (Or.inr ⟨by kernel_rfl, rfl⟩) (by assumption) ?_
      try simp only [Act.put, List.setIfInBounds_toArray, List.set_cons_zero, List.set_cons_succ]
      refine wpAnyH_take (i := 16) (v := ?_) rfl (by kernel_rfl) (by kernel_rfl) (by kernel_rfl) (fun _ _ _ h => h) (Or.inl ⟨by kernel_rfl, ?_⟩) (by assumption) ?_
      rotate_left
      · intro wq hSq
        (try dsimp only at hSq)
        go_simp
        all_goals with_reducible rfl
      try simp only [Act.put, List.setIfInBounds_toArray, List.set_cons_zero, List.set_cons_succ]
      refine wpAnyH_take (i := 17) (v := ?_) rfl (by kernel_rfl) (by kernel_rfl) (by kernel_rfl) (fun _ _ _ h => h) (Or.inl ⟨by kernel_rfl, ?_⟩) (by assumption) ?_
      rotate_left
      · intro wq hSq
        (try dsimp only at hSq)
        go_simp
        all_goals with_reducible rfl
      try simp only [Act.put, List.setIfInBounds_toArray, List.set_cons_zero, List.set_cons_succ]
      refine wpAnyH_take (i := 18) (v := ?_) rfl (by kernel_rfl) (by kernel_rfl) (by kernel_rfl) (fun _ _ _ h => h) (Or.inl ⟨by kernel_rfl, ?_⟩) (by assumption) ?_
      rotate_left
      · intro wq hSq
        (try dsimp only at hSq)
        go_simp
        all_goals with_reducible rfl
      try simp only [Act.put, List.setIfInBounds_toArray, List.set_cons_zero, List.set_cons_succ]
      refine wpAnyH_take (i := 19) (v := ?_) rfl (by kernel_rfl) (by kernel_rfl) (by kernel_rfl) (fun _ _ _ h => h) (Or.inl ⟨by kernel_rfl, ?_⟩) (by assumption) ?_
      rotate_left
      · intro wq hSq
        (try dsimp only at hSq)
        go_simp
        all_goals with_reducible rfl
      try simp only [Act.put, List.setIfInBounds_toArray, List.set_cons_zero, List.set_cons_succ]
      refine wpAnyH_done (by kernel_rfl) ?_ _
      try simp only [Act.put, List.getElem_toArray, List.getElem_cons_succ, List.getElem_cons_zero, List.setIfInBounds_toArray, List.set_cons_zero, List.set_cons_succ]
      go_wp2_with fail
      go_ret2
      exact ⟨by simp, below_step hb1 (hr1.trans hb2)⟩
    · have e0 : (s.toList == [48]) = false := by rw [toList_of]; simpa using h48
      have e1 : ((s[0]'hz).toNat : Int) ≠ 48 := by
        rcases hhead with h | h
        · exact absurd h h48
        · intro h2
          apply h
          have h3 : s.data.toList[0]? = some (s[0]'hz) := by
            rw [List.getElem?_eq_getElem (by rw [len_of]; exact hz)]
            rfl
          rw [List.head?_eq_getElem?, h3]
          congr 1
          apply UInt8.toNat_inj.1
          have : (s[0]'hz).toNat = 48 := by omega
          exact this
      obtain ⟨B0, hB0⟩ : ∃ B0 : Nat, (s[0]'hz).toNat = B0 := ⟨_, rfl⟩
      have a0 : ((s[0]'hz).toNat : Int) = (B0 : Int) := by rw [hB0]
      rw [a0] at e1
      have e2 : ((B0 : Int) != 48) = true := by simpa using e1
      have hBl : B0 < 256 := by rw [← hB0]; exact UInt8.toNat_lt _
      clear e1 hB0
      have hz0 : (0 : Int) < s.size := by omega
      clear h48 hhead
      go_enter Tryz.func117, Tryz.ntmps117
      go_wp2_with fail
      refine HCUT.out.mono ?_
      rintro e w' ⟨rfl, rfl⟩
      go_wp2_with fail
      refine (pubUint_some 10 (.inl rfl) s m HB.out hs _ E).mono ?_
      rintro e w1 ⟨rfl, hb1⟩
      have hr1 : Below w1.heap.size w1 w1.drew := (Below.refl _ _).drew
      go_wp2_with fail
      go_region_held3 (fun _ => True) (trivial) ((go_at_call 135; refine (contains_no s 10 m HB.out hs _).mono ?_; rintro e w2 ⟨rfl, hb2⟩))
      go_wp2_with fail
      go_ret2
      exact ⟨by simp, below_step hb1 (hr1.trans hb2)⟩
  · rw [hx] at hn
    simp only [if_true] at hn
    have hlt := numB_lt hn
    have hcut := cut_hex s w
    rw [hx] at hcut
    simp only [if_true] at hcut
    obtain ⟨R, hR⟩ : ∃ R : ByteArray, (⟨(s.data.toList.drop 2).toArray⟩ : ByteArray) = R := ⟨_, rfl⟩
    have hRl : R.data.toList = s.data.toList.drop 2 := by rw [← hR]
    rw [hR] at hcut
    rw [← hRl] at hn
    have hRz : R.size ≤ 1000000 := by rw [← len_of, hRl, List.length_drop, len_of]; omega
    have hcv : IntKind.i64.wrap (n : Int) = (n : Int) := conv_u64 n hlt
    have hm1 : (n : Int) ≤ 1099511627775 := by omega
    have HB := Lib.hid hn
    have HCUT := Lib.hid hcut
    clear hn hcut hx hlt hR hRl
    go_enter Tryz.func117, Tryz.ntmps117
    go_wp2_with fail
    refine HCUT.out.mono ?_
    rintro e w' ⟨rfl, rfl⟩
    go_wp2_with fail
    refine (pubUint_some 16 (.inr rfl) R n HB.out hRz _ E).mono ?_
    rintro e w1 ⟨rfl, hb1⟩
    go_wp2_with fail
    refine (contains_no R 16 n HB.out hRz _).mono ?_
    rintro e w2 ⟨rfl, hb2⟩
    go_wp2_with fail
    go_ret2
    exact ⟨by simp, below_step hb1 hb2⟩
set_option maxHeartbeats 6000000 in
theorem number_none (s : ByteArray) (hn : numP s.data.toList = none) (hs : s.size ≤ 1000000) (w : World) (E : Errs w) : Calls Tryz.prog 117 #[.string s] w fun e w' => ∃ x : Int, e = .returned (.tuple #[.int .i64 x, .bool false]) ∧ Below w.heap.size w w' := by
  unfold numP at hn
  rcases hx : isHex s.data.toList with _ | _
  · rw [hx] at hn
    simp only [Bool.false_eq_true, if_false] at hn
    have hcut := cut_hex s w
    rw [hx] at hcut
    simp only [Bool.false_eq_true, if_false] at hcut
    rw [← str_of] at hcut
    have HCUT := Lib.hid hcut
    clear hcut hx
    rcases hb : numB 10 s.data.toList with _ | m
    · have HB := Lib.hid hb
      clear hb hn
      go_enter Tryz.func117, Tryz.ntmps117
      go_wp2_with fail
      refine HCUT.out.mono ?_
      rintro e w' ⟨rfl, rfl⟩
      go_wp2_with fail
      refine (pubUint_none 10 (.inl rfl) s HB.out hs _ E).mono ?_
      rintro e w1 ⟨v, t, x, rfl, hb1⟩
      have hr1 : Below w1.heap.size w1 w1.drew := (Below.refl _ _).drew
      go_wp2_with fail
      go_region
      go_wp2_with fail
      all_goals
        go_ret2
        exact ⟨_, rfl, below_step hb1 hr1⟩
    · rw [hb] at hn
      simp only at hn
      split at hn
      · cases hn
      rename_i hhead
      have hlt := numB_lt hb
      have hne := (numB_hex hb).1
      have hz : 0 < s.size := by
        rw [← len_of]
        exact List.length_pos_iff.2 hne
      have h48 : ¬ s.data.toList = [48] := fun h => hhead (.inl h)
      have e0 : (s.toList == [48]) = false := by rw [toList_of]; simpa using h48
      have e1 : (s[0]'hz).toNat = 48 := by
        have h3 : s.data.toList[0]? = some (s[0]'hz) := by
          rw [List.getElem?_eq_getElem (by rw [len_of]; exact hz)]
          rfl
        have h4 : s.data.toList.head? = some 48 := by
          rcases hh : s.data.toList.head? with _ | y
          · rw [List.head?_eq_none_iff] at hh; exact absurd hh hne
          · by_cases hy : y = 48
            · rw [hy]
            · exact absurd (.inr (by rw [hh]; simpa using hy)) hhead
        rw [List.head?_eq_getElem?, h3] at h4
        rw [Option.some.inj h4]
        rfl
      have a0 : ((s[0]'hz).toNat : Int) = 48 := by rw [e1]; rfl
      have hz0 : (0 : Int) < s.size := by omega
      have hm1 : (m : Int) ≤ 1099511627775 := by omega
      have hcv : IntKind.i64.wrap (m : Int) = (m : Int) := conv_u64 m hlt
      have HB := Lib.hid hb
      clear hb hn hhead h48 hne e1 hlt
      go_enter Tryz.func117, Tryz.ntmps117
      go_wp2_with fail
      refine HCUT.out.mono ?_
      rintro e w' ⟨rfl, rfl⟩
      go_wp2_with fail
      refine (pubUint_some 10 (.inl rfl) s m HB.out hs _ E).mono ?_
      rintro e w1 ⟨rfl, hb1⟩
      have hr1 : Below w1.heap.size w1 w1.drew := (Below.refl _ _).drew
      go_wp2_with fail
      go_region_held3 (fun _ => True) (trivial) ((go_at_call 135; refine (contains_no s 10 m HB.out hs _).mono ?_; rintro e w2 ⟨rfl, hb2⟩))
      go_wp2_with fail
      go_ret2
      exact ⟨_, rfl, below_step hb1 (hr1.trans hb2)⟩
  · rw [hx] at hn
    simp only [if_true] at hn
    have hcut := cut_hex s w
    rw [hx] at hcut
    simp only [if_true] at hcut
    obtain ⟨R, hR⟩ : ∃ R : ByteArray, (⟨(s.data.toList.drop 2).toArray⟩ : ByteArray) = R := ⟨_, rfl⟩
    have hRl : R.data.toList = s.data.toList.drop 2 := by rw [← hR]
    rw [hR] at hcut
    rw [← hRl] at hn
    have hRz : R.size ≤ 1000000 := by rw [← len_of, hRl, List.length_drop, len_of]; omega
    have HB := Lib.hid hn
    have HCUT := Lib.hid hcut
    clear hn hcut hx hR hRl
    go_enter Tryz.func117, Tryz.ntmps117
    go_wp2_with fail
    refine HCUT.out.mono ?_
    rintro e w' ⟨rfl, rfl⟩
    go_wp2_with fail
    refine (pubUint_none 16 (.inr rfl) R HB.out hRz _ E).mono ?_
    rintro e w1 ⟨v, t, x, rfl, hb1⟩
    go_wp2_with fail
    go_ret2
    exact ⟨_, rfl, hb1⟩
/- the number that a value is, and what is wrong with it -/
def numeralV (v : List UInt8) (low high : Int) : Value := match numP v with
  | none => .tuple #[.int .i64 0, errv 3]
  | some n => if (n : Int) < low ∨ high < n then .tuple #[.int .i64 0, errv 2] else .tuple #[.int .i64 n, .nilIface]
theorem numeral_any (s : ByteArray) (low high : Int) (hs : s.size ≤ 1000000) (w : World) (E : Errs w) : Calls Tryz.prog 100 #[.string s, .int .i64 low, .int .i64 high] w fun e w' => e = .returned (numeralV s.data.toList low high) ∧ Below w.heap.size w w' := by
  unfold numeralV
  rcases hn : numP s.data.toList with _ | n
  · have HN := Lib.hid hn
    clear hn
    go_enter Tryz.func100, Tryz.ntmps100
    go_wp2_with fail
    refine (number_none s HN.out hs _ E).mono ?_
    rintro e w1 ⟨x, rfl, hb1⟩
    go_wp2_with fail
    go_ret2
    exact ⟨rfl, hb1⟩
  · have HN := Lib.hid hn
    clear hn
    simp only
    by_cases h1 : (n : Int) < low
    · rw [if_pos (.inl h1)]
      go_enter Tryz.func100, Tryz.ntmps100
      go_wp2_with fail
      refine (number_some s n HN.out hs _ E).mono ?_
      rintro e w1 ⟨rfl, hb1⟩
      go_wp2_with fail
      go_ret2
      exact ⟨rfl, hb1⟩
    · by_cases h2 : high < (n : Int)
      · rw [if_pos (.inr h2)]
        go_enter Tryz.func100, Tryz.ntmps100
        go_wp2_with fail
        refine (number_some s n HN.out hs _ E).mono ?_
        rintro e w1 ⟨rfl, hb1⟩
        go_wp2_with fail
        go_ret2
        exact ⟨rfl, hb1⟩
      · rw [if_neg (by omega)]
        go_enter Tryz.func100, Tryz.ntmps100
        go_wp2_with fail
        refine (number_some s n HN.out hs _ E).mono ?_
        rintro e w1 ⟨rfl, hb1⟩
        go_wp2_with fail
        go_ret2
        exact ⟨rfl, hb1⟩
end Go.Proofs.YtamlepacljjpiaaGreatDoor

/- keys.Fits. -/
namespace Go.Proofs.YtamlepacljjpiaaGreatDoor
open Go.ChangeShapes Go.WideShapes Go.ChangeAt Go.RowKit Go.Shelf
set_option linter.unusedVariables false
set_option linter.unusedSimpArgs false
theorem shapedK {w w' : World} (h : w.ShapedOpen Tryz.prog) (hb : Below w.heap.size w w') : w'.ShapedOpen Tryz.prog :=
  h.keptBut (hb.frame (fun _ => False)) (fun _ h => h.elim)
theorem of_none (n : ByteArray) (w : World) (h : keyRow n.data.toList = none) (T : Tabs w) : Calls Tryz.prog 98 #[.string n] w fun e w' => e = .returned (.tuple #[zeroK, .iface 56 (.int .i64 5)]) ∧ Below w.heap.size w w' := by
  refine (keysOf_any n w T).mono ?_
  rintro e w' ⟨rfl, hb⟩
  unfold ofV
  rw [h]
  exact ⟨rfl, hb⟩
theorem of_kind (n : ByteArray) (r : KeyR) (K : Int) (w : World) (h : keyRow n.data.toList = some r) (hK : (r.kind : Int) = K) (T : Tabs w) : Calls Tryz.prog 98 #[.string n] w fun e w' =>
    e = .returned (.tuple #[.agg #[.string ⟨r.name.toArray⟩, .int .i64 K, .int .i64 r.low, .int .i64 r.high, .string ⟨(dfl r).toArray⟩, .bool r.noth, .bool r.lonly], .nilIface]) ∧ Below w.heap.size w w' := by
  refine (keysOf_any n w T).mono ?_
  rintro e w' ⟨rfl, hb⟩
  unfold ofV
  rw [h]
  subst hK
  exact ⟨rfl, hb⟩
theorem numeral_to (s : ByteArray) (low high : Int) (hs : s.size ≤ 1000000) (w : World) (E : Errs w) : Calls Tryz.prog 100 #[.string s, .int .i64 low, .int .i64 high] w fun e w' =>
    ∃ x : Int, e = .returned (.tuple #[.int .i64 x, errv (numeralE s.data.toList low high)]) ∧ Below w.heap.size w w' := by
  refine (numeral_any s low high hs w E).mono ?_
  rintro e w' ⟨rfl, hb⟩
  unfold numeralV numeralE
  rcases numP s.data.toList with _ | n
  · exact ⟨_, rfl, hb⟩
  · simp only
    split
    · exact ⟨_, rfl, hb⟩
    · exact ⟨_, rfl, hb⟩
theorem list_to (s : ByteArray) (w : World) (hs : s.size ≤ 1000000) (hS : w.ShapedOpen Tryz.prog) : Calls Tryz.prog 101 #[.string s] w fun e w' =>
    ∃ v, e = .returned (.tuple #[v, errv (if (listP s.data.toList).isSome then 0 else 3)]) ∧ Below w.heap.size w w' := by
  refine (list_any s w hs hS).mono ?_
  rintro e w' ⟨hl, hb⟩
  unfold ListIs at hl
  rcases hp : listP s.data.toList with _ | ws
  · rw [hp] at hl
    exact ⟨_, hl, hb⟩
  · rw [hp] at hl
    exact ⟨_, hl.1, hb⟩
theorem kinds_of (r : KeyR) (h : r.kind ≤ 7) : (r.kind : Int) = 0 ∨ (r.kind : Int) = 1 ∨ (r.kind : Int) = 2 ∨ (r.kind : Int) = 3 ∨ (r.kind : Int) = 4 ∨ (r.kind : Int) = 5 ∨ (r.kind : Int) = 6 ∨ (r.kind : Int) = 7 := by omega
theorem eq_facts (v : ByteArray) (l : List UInt8) (h : v.data.toList = l) : (v.toList == l) = true ∧ (v.toList != l) = false := by
  rw [toList_of, h]
  simp
theorem ne_facts (v : ByteArray) (l : List UInt8) (h : ¬ v.data.toList = l) : (v.toList == l) = false ∧ (v.toList != l) = true := by
  rw [toList_of]
  simp [h]
theorem isYN_yes {l : List UInt8} (h : l = [89, 101, 115] ∨ l = [78, 111]) : isYN l = true := by rcases h with rfl | rfl <;> rfl
theorem isYN_no {l : List UInt8} (h1 : ¬ l = [89, 101, 115]) (h2 : ¬ l = [78, 111]) : isYN l = false := by unfold isYN; simp [h1, h2]
set_option maxRecDepth 20000 in
set_option maxHeartbeats 4000000 in
theorem fits_any (n v : ByteArray) (w : World) (hv : v.size ≤ 1000000) (T : Tabs w) (E : Errs w) (hS : w.ShapedOpen Tryz.prog) : Calls Tryz.prog 76 #[.string n, .string v] w fun e w' => e = .returned (errv (fitsE n.data.toList v.data.toList)) ∧ Below w.heap.size w w' := by
  unfold fitsE
  rcases hr : keyRow n.data.toList with _ | r
  · have HR := Lib.hid hr
    clear hr
    go_enter Tryz.func76, Tryz.ntmps76
    go_wp2_with fail
    refine (of_none n _ HR.out T).mono ?_
    rintro e w1 ⟨rfl, hb1⟩
    unfold zeroK
    go_wp2_with fail
    go_ret
    exact ⟨rfl, below_step hb1 ((Below.refl _ _).alloc (Nat.le_refl _) _)⟩
  · have HR := Lib.hid hr
    have hm := keyRow_mem hr
    have hk7 := keyT_len r hm
    have hlo : (r.low : Int) ≤ 16777215 := by omega
    have hhi : (r.high : Int) ≤ 16777215 := by omega
    clear hr hm
    simp only
    unfold fitsR
    rcases kinds_of r hk7.2.2.2.1 with hK | hK | hK | hK | hK | hK | hK | hK
    · have HK := Lib.hid hK
      rw [if_neg (by omega), if_neg (by omega), if_neg (by omega)]
      clear hK hk7
      by_cases h0 : v.data.toList = []
      · have f1 : v.toList = [] := (toList_of v).trans h0
        have f2 : v.toList.isEmpty = true := by rw [f1]; rfl
        rw [if_pos h0]
        clear h0
        go_enter Tryz.func76, Tryz.ntmps76
        go_wp2_with fail
        refine (of_kind n r _ _ HR.out HK.out T).mono ?_
        rintro e w1 ⟨rfl, hb1⟩
        go_wp2_with fail
        go_ret
        exact ⟨rfl, below_step hb1 ((Below.refl _ _).alloc (Nat.le_refl _) _)⟩
      · have f1 : ¬ v.toList = [] := by rw [toList_of]; exact h0
        have f2 : v.toList.isEmpty = false := by
          rcases hl : v.toList with _ | ⟨y, l⟩
          · exact absurd hl f1
          · rfl
        rw [if_neg h0]
        clear h0
        go_enter Tryz.func76, Tryz.ntmps76
        go_wp2_with fail
        refine (of_kind n r _ _ HR.out HK.out T).mono ?_
        rintro e w1 ⟨rfl, hb1⟩
        go_wp2_with fail
        go_ret
        exact ⟨rfl, below_step hb1 ((Below.refl _ _).alloc (Nat.le_refl _) _)⟩
    · have HK := Lib.hid hK
      rw [if_pos (by omega)]
      clear hK hk7
      by_cases h1 : v.data.toList = [89, 101, 115]
      · obtain ⟨f1, f2⟩ := eq_facts v _ h1
        rw [isYN_yes (.inl h1), if_pos rfl]
        clear h1
        go_enter Tryz.func76, Tryz.ntmps76
        go_wp2_with fail
        refine (of_kind n r _ _ HR.out HK.out T).mono ?_
        rintro e w1 ⟨rfl, hb1⟩
        go_wp2_with fail
        go_ret
        exact ⟨rfl, below_step hb1 ((Below.refl _ _).alloc (Nat.le_refl _) _)⟩
      · obtain ⟨f1, f2⟩ := ne_facts v _ h1
        by_cases h2 : v.data.toList = [78, 111]
        · obtain ⟨f3, f4⟩ := eq_facts v _ h2
          rw [isYN_yes (.inr h2), if_pos rfl]
          clear h1 h2
          go_enter Tryz.func76, Tryz.ntmps76
          go_wp2_with fail
          refine (of_kind n r _ _ HR.out HK.out T).mono ?_
          rintro e w1 ⟨rfl, hb1⟩
          go_wp2_with fail
          go_ret
          exact ⟨rfl, below_step hb1 ((Below.refl _ _).alloc (Nat.le_refl _) _)⟩
        · obtain ⟨f3, f4⟩ := ne_facts v _ h2
          rw [isYN_no h1 h2, if_neg (by simp)]
          clear h1 h2
          go_enter Tryz.func76, Tryz.ntmps76
          go_wp2_with fail
          refine (of_kind n r _ _ HR.out HK.out T).mono ?_
          rintro e w1 ⟨rfl, hb1⟩
          go_wp2_with fail
          go_ret
          exact ⟨rfl, below_step hb1 ((Below.refl _ _).alloc (Nat.le_refl _) _)⟩
    · have HK := Lib.hid hK
      rw [if_pos (by omega)]
      clear hK hk7
      by_cases h1 : v.data.toList = [89, 101, 115]
      · obtain ⟨f1, f2⟩ := eq_facts v _ h1
        rw [isYN_yes (.inl h1), if_pos rfl]
        clear h1
        go_enter Tryz.func76, Tryz.ntmps76
        go_wp2_with fail
        refine (of_kind n r _ _ HR.out HK.out T).mono ?_
        rintro e w1 ⟨rfl, hb1⟩
        go_wp2_with fail
        go_ret
        exact ⟨rfl, below_step hb1 ((Below.refl _ _).alloc (Nat.le_refl _) _)⟩
      · obtain ⟨f1, f2⟩ := ne_facts v _ h1
        by_cases h2 : v.data.toList = [78, 111]
        · obtain ⟨f3, f4⟩ := eq_facts v _ h2
          rw [isYN_yes (.inr h2), if_pos rfl]
          clear h1 h2
          go_enter Tryz.func76, Tryz.ntmps76
          go_wp2_with fail
          refine (of_kind n r _ _ HR.out HK.out T).mono ?_
          rintro e w1 ⟨rfl, hb1⟩
          go_wp2_with fail
          go_ret
          exact ⟨rfl, below_step hb1 ((Below.refl _ _).alloc (Nat.le_refl _) _)⟩
        · obtain ⟨f3, f4⟩ := ne_facts v _ h2
          rw [isYN_no h1 h2, if_neg (by simp)]
          clear h1 h2
          go_enter Tryz.func76, Tryz.ntmps76
          go_wp2_with fail
          refine (of_kind n r _ _ HR.out HK.out T).mono ?_
          rintro e w1 ⟨rfl, hb1⟩
          go_wp2_with fail
          go_ret
          exact ⟨rfl, below_step hb1 ((Below.refl _ _).alloc (Nat.le_refl _) _)⟩
    · have HK := Lib.hid hK
      rw [if_neg (by omega), if_pos (by omega)]
      clear hK hk7
      go_enter Tryz.func76, Tryz.ntmps76
      go_wp2_with fail
      refine (of_kind n r _ _ HR.out HK.out T).mono ?_
      rintro e w1 ⟨rfl, hb1⟩
      go_wp2_with fail
      have hb2 : Below w.heap.size w (w1.alloc (.cells #[.string ⟨r.name.toArray⟩, .int .i64 3, .int .i64 r.low, .int .i64 r.high, .string ⟨(dfl r).toArray⟩, .bool r.noth, .bool r.lonly] 177)) := below_step hb1 ((Below.refl _ _).alloc (Nat.le_refl _) _)
      refine (numeral_to v _ _ hv _ (E.on hb2)).mono ?_
      rintro e w3 ⟨x, rfl, hb3⟩
      go_wp2_with fail
      go_ret
      exact ⟨rfl, below_step hb2 hb3⟩
    · have HK := Lib.hid hK
      rw [if_neg (by omega), if_pos (by omega)]
      clear hK hk7
      go_enter Tryz.func76, Tryz.ntmps76
      go_wp2_with fail
      refine (of_kind n r _ _ HR.out HK.out T).mono ?_
      rintro e w1 ⟨rfl, hb1⟩
      go_wp2_with fail
      have hb2 : Below w.heap.size w (w1.alloc (.cells #[.string ⟨r.name.toArray⟩, .int .i64 4, .int .i64 r.low, .int .i64 r.high, .string ⟨(dfl r).toArray⟩, .bool r.noth, .bool r.lonly] 177)) := below_step hb1 ((Below.refl _ _).alloc (Nat.le_refl _) _)
      refine (numeral_to v _ _ hv _ (E.on hb2)).mono ?_
      rintro e w3 ⟨x, rfl, hb3⟩
      go_wp2_with fail
      go_ret
      exact ⟨rfl, below_step hb2 hb3⟩
    · have HK := Lib.hid hK
      rw [if_neg (by omega), if_neg (by omega), if_pos (by omega)]
      clear hK hk7
      go_enter Tryz.func76, Tryz.ntmps76
      go_wp2_with fail
      refine (of_kind n r _ _ HR.out HK.out T).mono ?_
      rintro e w1 ⟨rfl, hb1⟩
      go_wp2_with fail
      have hb2 : Below w.heap.size w (w1.alloc (.cells #[.string ⟨r.name.toArray⟩, .int .i64 5, .int .i64 r.low, .int .i64 r.high, .string ⟨(dfl r).toArray⟩, .bool r.noth, .bool r.lonly] 177)) := below_step hb1 ((Below.refl _ _).alloc (Nat.le_refl _) _)
      refine (list_to v _ hv (shapedK hS hb2)).mono ?_
      rintro e w3 ⟨x, rfl, hb3⟩
      go_wp2_with fail
      all_goals
        go_ret
        exact ⟨rfl, below_step hb2 hb3⟩
    · have HK := Lib.hid hK
      rw [if_neg (by omega), if_neg (by omega), if_neg (by omega)]
      clear hK hk7
      by_cases h0 : v.data.toList = []
      · have f1 : v.toList = [] := (toList_of v).trans h0
        have f2 : v.toList.isEmpty = true := by rw [f1]; rfl
        rw [if_pos h0]
        clear h0
        go_enter Tryz.func76, Tryz.ntmps76
        go_wp2_with fail
        refine (of_kind n r _ _ HR.out HK.out T).mono ?_
        rintro e w1 ⟨rfl, hb1⟩
        go_wp2_with fail
        go_ret
        exact ⟨rfl, below_step hb1 ((Below.refl _ _).alloc (Nat.le_refl _) _)⟩
      · have f1 : ¬ v.toList = [] := by rw [toList_of]; exact h0
        have f2 : v.toList.isEmpty = false := by
          rcases hl : v.toList with _ | ⟨y, l⟩
          · exact absurd hl f1
          · rfl
        rw [if_neg h0]
        clear h0
        go_enter Tryz.func76, Tryz.ntmps76
        go_wp2_with fail
        refine (of_kind n r _ _ HR.out HK.out T).mono ?_
        rintro e w1 ⟨rfl, hb1⟩
        go_wp2_with fail
        go_ret
        exact ⟨rfl, below_step hb1 ((Below.refl _ _).alloc (Nat.le_refl _) _)⟩
    · have HK := Lib.hid hK
      rw [if_neg (by omega), if_pos (by omega)]
      clear hK hk7
      go_enter Tryz.func76, Tryz.ntmps76
      go_wp2_with fail
      refine (of_kind n r _ _ HR.out HK.out T).mono ?_
      rintro e w1 ⟨rfl, hb1⟩
      go_wp2_with fail
      have hb2 : Below w.heap.size w (w1.alloc (.cells #[.string ⟨r.name.toArray⟩, .int .i64 7, .int .i64 r.low, .int .i64 r.high, .string ⟨(dfl r).toArray⟩, .bool r.noth, .bool r.lonly] 177)) := below_step hb1 ((Below.refl _ _).alloc (Nat.le_refl _) _)
      refine (numeral_to v _ _ hv _ (E.on hb2)).mono ?_
      rintro e w3 ⟨x, rfl, hb3⟩
      go_wp2_with fail
      go_ret
      exact ⟨rfl, below_step hb2 hb3⟩
end Go.Proofs.YtamlepacljjpiaaGreatDoor

/- What the laid variables give, bundled. -/
namespace Go.Proofs.YtamlepacljjpiaaGreatDoor
open Go.ChangeShapes Go.WideShapes Go.ChangeAt Go.RowKit Go.Shelf
set_option linter.unusedVariables false
/- what the laid variables give -/
structure Env (w : World) : Prop where
  L : LaidE w
  T : Tabs w
  E : Errs w
  S : w.ShapedOpen Tryz.prog
theorem below_dK {B : Nat} {a w : World} (h : Below B a w) (k : Nat) : Below B a (w.drewN k) := h.trans ⟨rfl, rfl, rfl, Nat.le_refl _, fun _ _ => rfl⟩
theorem Env.on {w w' : World} (h : Env w) (hb : Below w.heap.size w w') : Env w' := ⟨h.L.on hb, h.T.on hb, h.E.on hb, shapedK h.S hb⟩
end Go.Proofs.YtamlepacljjpiaaGreatDoor

/- keys.yes. -/
namespace Go.Proofs.YtamlepacljjpiaaGreatDoor
open Go.ChangeShapes Go.WideShapes Go.ChangeAt Go.RowKit Go.Shelf
set_option linter.unusedVariables false
set_option linter.unusedSimpArgs false
set_option maxHeartbeats 2000000 in
set_option maxRecDepth 20000 in
theorem yes_any (b : Bool) (w : World) : Calls Tryz.prog 118 #[.bool b] w fun e w' => e = .returned (.string ⟨(yesB b).toArray⟩) ∧ Below w.heap.size w w' := by
  have hmm := @run_makeMap Tryz.prog
  have u4 : (Tryz.prog).underlying 4 = some .bool := by kernel_rfl
  have u9 : (Tryz.prog).underlying 9 = some .string := by kernel_rfl
  have u136 : (Tryz.prog).underlying 226 = some (.map 4 9) := by kernel_rfl
  have o0 := World.ownsMap_made (H := Unit) w Tryz.prog 4 (plainElem Tryz.prog 9)
  obtain ⟨w1, r1, o1, g1⟩ := o0.update (Maps.bool_keyed u4) u136 (by unfold maxLen; omega) (key := .bool true) (kl := .bool true) (Maps.keyOf_bool_mk u4 true) (plainElem_string u9 (s := ⟨#[89, 101, 115]⟩) (by decide))
  obtain ⟨w2, r2, o2, g2⟩ := o1.update (Maps.bool_keyed u4) u136 (by unfold maxLen; omega) (key := .bool false) (kl := .bool false) (Maps.keyOf_bool_mk u4 false) (plainElem_string u9 (s := ⟨#[78, 111]⟩) (by decide))
  obtain ⟨v, ps, r3, hv⟩ := o2.lookup (t := 226) (e := 9) (Maps.bool_keyed u4) u136 (z := .string ⟨#[]⟩) (by go_simp) (plainElem_string u9 (s := ⟨#[]⟩) (by decide)) (Maps.keyOf_bool_mk u4 b)
  have hbw : Below w.heap.size w w2 := (((Below.refl _ _).alloc (Nat.le_refl _) _).grown g1 (Nat.le_of_lt o0.lt) (by rintro k ⟨⟩; exact Nat.le_refl _)).grown g2 (Nat.le_of_lt o1.lt) (by rintro k ⟨⟩; exact Nat.le_refl _)
  obtain ⟨s, rfl, hs⟩ := plainElem_string_inv u9 hv
  have hse : s = ⟨(yesB b).toArray⟩ := by
    have h2 := congrArg Prod.fst hs.1
    apply ByteArray.ext
    apply Array.ext'
    cases b <;> (simp [DataW.put, DataW.atKey, DataW.insert, Lit.sameKey, Lit.before, yesB] at h2 ⊢; exact h2.symm)
  subst hse
  go_enter Tryz.func118, Tryz.ntmps118
  go_wp2_with fail
  go_ret
  exact ⟨rfl, hbw⟩
end Go.Proofs.YtamlepacljjpiaaGreatDoor
