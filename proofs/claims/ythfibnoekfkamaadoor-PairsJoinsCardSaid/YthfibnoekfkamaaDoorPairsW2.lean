/- The walks of the laws PairsLong and GatherTwice. -/
import Derived.Test.YthfibnoekfkamaaDoorPairsW1
namespace Go.Proofs.YthfibnoekfkamaaDoor
open Go.ChangeShapes Go.WideShapes Go.ChangeAt Go.RowKit
set_option linter.unusedVariables false
def plst : (Nat × Option Nat) ⊕ PairL → PairL
  | .inl _ => []
  | .inr l => l
def perr : (Nat × Option Nat) ⊕ PairL → Option (Nat × Option Nat)
  | .inl e => some e
  | .inr _ => none
def ecode : Option (Nat × Option Nat) → Nat
  | none => 0
  | some (c, _) => c
theorem PRes.srd {w : World} {base : Nat} {r er : Value} {x : (Nat × Option Nat) ⊕ PairL} (h : PRes w base r er x) : SRd w r 2 (plst x).length (pairCells (plst x)) := by
  match x, h with
  | .inl e, ⟨h1, _⟩ =>
    subst h1
    exact ⟨rfl, none, 0, rfl, Nat.le_refl _, by unfold maxLen; omega, fun h => absurd h (Nat.lt_irrefl _)⟩
  | .inr l, ⟨_, h2⟩ => exact SRd.of_m h2
theorem PRes.err {w : World} {base : Nat} {r er : Value} {x : (Nat × Option Nat) ⊕ PairL} (h : PRes w base r er x) : PErr w base er (perr x) := by
  match x, h with
  | .inl e, ⟨_, h2⟩ => exact h2
  | .inr l, ⟨h1, _⟩ => exact h1
theorem tell_perr (w : World) (base : Nat) (er : Value) (x : Option (Nat × Option Nat)) (hL : LaidE w) (h : PErr w base er x) : Calls Tryd.prog 33 #[er] w fun e w' => e = .returned (.int .i64 (ecode x)) ∧ Below w.heap.size w w' := by
  match x, h with
  | none, h =>
    obtain rfl : er = .nilIface := h
    exact (tell_nil w).mono fun e w' ⟨h1, h2⟩ => ⟨h1, by rw [← h2]; exact Below.refl _ _⟩
  | some (c, none), h =>
    obtain rfl : er = errv c := h
    exact tell_errv c w hL
  | some (c, some p), ⟨g, _, h1, hB⟩ =>
    subst h1
    exact tell_at g c p w hL hB
theorem nil_app (s : ByteArray) : (⟨#[]⟩ : ByteArray) ++ s = s := by rw [cat_of]; exact (str_of s).symm
set_option maxRecDepth 20000 in
set_option maxHeartbeats 4000000 in
theorem twiceGather (a b : ByteArray) (w : World) (ha : a.size ≤ 140737488351232) (hb : b.size ≤ 140737488351232) (hL : LaidE w) (hS : w.ShapedOpen Tryd.prog) :
    Calls Tryd.prog 9 #[.string a, .string b] w fun e w' => e = .returned (.bool true) ∧ Below w.heap.size w w' := by
  go_enter Tryd.func9, Tryd.ntmps9
  go_wp2_with fail
  refine (gathered_fact _ hL hS).mono ?_
  rintro e w1 ⟨rfl, hb1⟩
  go_wp2_with fail
  refine (paired_fact _ (hL.on hb1) (shaped_on hS hb1)).mono ?_
  rintro e w2 ⟨rfl, hb2'⟩
  have hb2 := below_step hb1 hb2'
  have hL2 := hL.on hb2
  have hS2 := shaped_on hS hb2
  by_cases h3 : 2000 < a.size + b.size
  · go_wp2_with fail
    go_ret
    exact ⟨rfl, hb2⟩
  go_wp2_with fail
  refine (gnew_ok 20000 _ (by omega) (by omega)).mono ?_
  rintro e w3 ⟨rfl, rfl⟩
  have hB3 : GBlk (w2.alloc (.cells #[.string ⟨#[]⟩, .int .i64 20000] 87)) w2.heap.size ⟨#[]⟩ 20000 := Blk.new w2 _ _
  have hb3 : Below w2.heap.size w2 (w2.alloc (.cells #[.string ⟨#[]⟩, .int .i64 20000] 87)) := (Below.refl _ _).alloc (Nat.le_refl _) _
  have hez : ((⟨#[]⟩ : ByteArray).size : Int) = 0 := rfl
  have HEZ := Lib.hid hez
  clear hez
  go_wp2_with fail
  refine (gadd_end w2.heap.size ⟨#[]⟩ a 20000 _ w2 hB3 (by omega) (by decide) (by rw [HEZ.out]; omega) hb3 (Nat.le_refl _) hL2 hS2).mono ?_
  rintro e w4 ⟨r1, er1, rfl, _, hB4, hb4, _⟩
  clear hB3 hb3
  go_wp2_with fail
  refine (gadd_end w2.heap.size ⟨#[]⟩ b 20000 _ w2 hB4 (by omega) (by decide) (by rw [HEZ.out]; omega) hb4 (Nat.le_refl _) hL2 hS2).mono ?_
  rintro e w5 ⟨r2, er2, rfl, hr2, hB5, hb5, _⟩
  rw [nil_app] at hr2
  have hbw5 := below_step hb2 hb5
  clear hB4 hb4 hB5
  go_wp2_with fail
  refine (parse_any b _ (hL.on hbw5) (shaped_on hS hbw5) (by omega)).mono ?_
  rintro e w6 ⟨r3, er3, rfl, hr3, hb6⟩
  have hr2' := hr2.below hb6 (Nat.le_refl _)
  have hbw6 := below_step hbw5 hb6
  obtain ⟨x, hx⟩ : ∃ x, parseGo (b.size + 1) b.data.toList 0 = x := ⟨_, rfl⟩
  rw [hx] at hr2' hr3
  clear hx hr2
  go_wp2_with fail
  refine (tell_perr _ _ _ _ (hL.on hbw6) hr2'.err).mono ?_
  rintro e w7 ⟨rfl, hb7⟩
  have hr2'' := hr2'.below hb7 (Nat.le_refl _)
  have hr3' := hr3.below hb7 (Nat.le_refl _)
  have hbw7 := below_step hbw6 hb7
  go_wp2_with fail
  refine (tell_perr _ _ _ _ (hL.on hbw7) hr3'.err).mono ?_
  rintro e w8 ⟨rfl, hb8⟩
  have hr2a := (hr2''.below hb8 (Nat.le_refl _)).srd
  have hr3a := (hr3'.below hb8 (Nat.le_refl _)).srd
  have hbw8 := below_step hbw7 hb8
  clear hr2' hr2'' hr3 hr3'
  go_wp2_with fail
  refine (pequal_same _ _ _ _ hr2a hr3a).mono ?_
  rintro e w9 ⟨rfl, kq, rfl⟩
  go_wp2_with fail
  go_ret
  exact ⟨by simp, below_drewN hbw8 kq⟩
set_option maxRecDepth 20000 in
set_option maxHeartbeats 4000000 in
theorem longPairs (l : PairL) (v : Value) (w : World) (hv : SRd w v 2 l.length (pairCells l)) (hd : ∀ p ∈ l, psmall p) (hL : LaidE w) (hS : w.ShapedOpen Tryd.prog) :
    Calls Tryd.prog 5 #[v] w fun e w' => e = .returned (.bool true) ∧ Below w.heap.size w w' := by
  go_enter Tryd.func5, Tryd.ntmps5
  go_wp2_with fail
  refine (paired_fact _ hL hS).mono ?_
  rintro e w1 ⟨rfl, hb1⟩
  have hv1 := hv.on hb1
  go_wp2_with fail
  refine (thick_any l v _ hv1 hd).mono ?_
  rintro e w2 ⟨b, rfl, hb2⟩
  have hv2 := hv1.on hb2
  have hbw2 := below_step hb1 hb2
  cases b
  case true =>
    go_wp2_with fail
    go_ret
    exact ⟨rfl, hbw2⟩
  case false =>
    clear hv hv1
    rcases hr : pRightR l with _ | ⟨c, o⟩
    · obtain ⟨h60, hall⟩ := pRight_none hr
      have hlen := pairsB_len_le l hall
      have HN := Lib.hid hr
      have HALL := Lib.hid hall
      clear hr hall
      go_wp2_with fail
      refine (print_ok l v _ hv2 hd HN.out).mono ?_
      rintro e w3 ⟨rfl, hb3⟩
      have hv3 := hv2.on hb3
      have hbw3 := below_step hbw2 hb3
      obtain ⟨S, hS0⟩ : ∃ S : ByteArray, S = ⟨(pairsB l).toArray⟩ := ⟨_, rfl⟩
      rw [← hS0]
      have hSe : S.size = (pairsB l).length := by rw [hS0]; rfl
      have hSz : S.size ≤ 20000 := by omega
      have HSE := Lib.hid hSe
      clear hS0 hSe hv2
      obtain ⟨_, A, cap, rfl, hcap, hmax, hcell⟩ := hv3
      have HC := Lib.hid hcell
      unfold maxLen at hmax
      clear hcell
      go_wp2_with fail
      go_loopw [5, 23] (fun n i wr => ∃ (k m : Nat), k ≤ l.length ∧ i = .int .i64 k ∧ n = .int .i64 m ∧ m = (pairsB (l.take k)).length ∧ Below w3.heap.size w3 wr) (fun _ i _ => l.length - (intOf i).toNat)
      case atStart => exact ⟨0, 0, Nat.zero_le _, rfl, rfl, rfl, Below.refl _ _⟩
      case round =>
        obtain ⟨k, m, hk, rfl, rfl, hm, hbw⟩ := hrel
        have hs0 := hbw.size
        have hmb : m ≤ 20000 := by
          have h1 := pairsB_len_le (l.take k) fun q hq => HALL.out q (List.mem_of_mem_take hq)
          have h2 := List.length_take_le k l
          omega
        have HM := Lib.hid hm
        clear hm
        by_cases hlt : k < l.length
        · obtain ⟨p, hp⟩ : ∃ p, l[k]? = some p := ⟨_, List.getElem?_eq_getElem hlt⟩
          obtain ⟨b, o, rfl, hbl, hcc⟩ := HC.out (by omega)
          have hc := pairCells_at l k p hp
          have c0 := (hbw.cell (p := ⟨b, o + 2 * k, none⟩) hbl).trans (hcc _ _ hc.1)
          have c1 := (hbw.cell (p := ⟨b, o + (2 * k + 1), none⟩) hbl).trans (hcc _ _ hc.2)
          rw [Nat.mul_comm] at c0 c1
          rw [← Nat.add_assoc] at c1
          obtain ⟨hpa, hpb⟩ := HALL.out p (List.mem_of_getElem? hp)
          have hpa := keyB_len hpa
          have hpb := valB_len hpb
          rw [len_of] at hpa hpb
          have htk : (pairsB (l.take (k + 1))).length = (pairsB (l.take k)).length + (p.1.size + p.2.size + 2) := by
            rw [List.take_succ_eq_append_getElem hlt, pairsB_snoc, List.length_append, pairB_len]
            rw [List.getElem?_eq_getElem hlt] at hp
            rw [Option.some.inj hp]
          have HT := Lib.hid htk
          clear hc hcc htk hp
          obtain ⟨p1, p2⟩ := p
          simp only at c0 c1 hpa hpb
          go_wp2_with fail
          go_roundw
          case rel =>
            refine ⟨k + 1, m + (p1.size + p2.size + 2), by omega, by go_num, ?_, by rw [HT.out, HM.out], hbw.alloc hs0 _⟩
            congr 1
          case measure => simp [intOf]; omega
        · have hfin : l.take k = l := List.take_of_length_le (by omega)
          have f1 : ((S.size : Int) == (m : Int)) = true := by
            have := HM.out
            rw [hfin, ← HSE.out] at this
            exact beq_iff_eq.2 (by omega)
          clear hfin
          go_wp2_with fail
          go_ret
          exact ⟨by simp, below_step hbw3 hbw⟩
    · have HN := Lib.hid hr
      clear hr
      go_wp2_with fail
      refine (print_bad l v _ hv2 hd _ HN.out).mono ?_
      rintro e w3 ⟨er, rfl, her, hb3⟩
      obtain ⟨t, x, rfl⟩ := her.iface (fun h => by subst h; exact right_c HN.out)
      have hbw3 := below_step hbw2 hb3
      clear her
      go_wp2_with fail
      go_ret
      exact ⟨rfl, hbw3⟩
end Go.Proofs.YthfibnoekfkamaaDoor
