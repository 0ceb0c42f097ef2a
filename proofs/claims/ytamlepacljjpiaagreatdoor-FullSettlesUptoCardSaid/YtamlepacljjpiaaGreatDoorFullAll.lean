/- The contract of keep.all: a whole answer, piece by piece. -/
import Derived.Test.YtamlepacljjpiaaGreatDoorFullAllP
import Derived.Test.YtamlepacljjpiaaGreatDoorGff
import Derived.Test.YtamlepacljjpiaaGreatDoorGfd
namespace Go.Proofs.YtamlepacljjpiaaGreatDoor
open Go.ChangeShapes Go.WideShapes Go.ChangeAt Go.RowKit Go.Shelf
set_option linter.unusedVariables false
set_option linter.unusedSimpArgs false
def AllAt (w0 w : World) (S : List Nat) (f : Nat) (Z : FP) (w' : World) : Prop := ∃ S', FullI w0 w' S' f (atP Z Z.pcs.length) ∧ NF S w w' ∧ ∀ k ∈ S', k ∈ S ∨ w.heap.size ≤ k
theorem FullI.poke {w0 w w' : World} {S : List Nat} {f g : Nat} {X : FP} (h : FullI w0 w S f X) (hf : NF [g] w w') (hb : Below w0.heap.size w0 w') (hg : g ∉ S) (ht : ∃ cs fz, w.heap[g]? = some (.cells cs 41 fz)) : FullI w0 w' S f X := by
  obtain ⟨gn, gt, Sn, tv, pv, uv, ov, pc, hX, rfl⟩ := h
  refine (hX.other hf hb (fun k hk hm => ?_) (fun hn k hk hm => ?_)).i
  · obtain rfl := List.mem_singleton.1 hm
    exact hg hk
  · obtain rfl := List.mem_singleton.1 hm
    obtain ⟨cs, fz, h1⟩ := hX.pt hn k hk
    obtain ⟨cs', fz', h2⟩ := ht
    rw [h1] at h2
    injection h2 with h2
    injection h2 with _ h3 _
    exact absurd h3.symm (by decide)
theorem six_blk2 {W : World} {R : Nat} {x0 x1 x2 x3 x4 x5 : Value} (h : Blk W R 41 #[x0, x1, x2, x3, x4, x5]) (a b c d e s : Value) : Blk (six W R a b c d e s) R 41 #[a, b, c, d, e, s] := (((((h.put 0 a).put 1 b).put 2 c).put 3 d).put 4 e).put 5 s
theorem six_below {w0 W : World} {R : Nat} (h : Below w0.heap.size w0 W) (hR : w0.heap.size ≤ R) (a b c d e s : Value) : Below w0.heap.size w0 (six W R a b c d e s) := (((((h.setCell hR a).setCell hR b).setCell hR c).setCell hR d).setCell hR e).setCell hR s
theorem code_none : codeV none = .nilIface := rfl
theorem piece_lastA (Z : FP) (k i : Nat) (s : ByteArray) (hs : Z.pcs[k]? = some s) (h : k + 1 = Z.pcs.length) : (pieceP (atP Z k) i).1 = ⟨36, 128, [0, i, noneN, aft Z.stat k, Z.cmd, aft Z.cmd 31], s⟩ := by
  rw [piece_nth Z k i s hs, if_pos h, if_pos h]
  rfl
theorem piece_moreA (Z : FP) (k i : Nat) (s : ByteArray) (hs : Z.pcs[k]? = some s) (h : ¬ k + 1 = Z.pcs.length) : (pieceP (atP Z k) i).1 = ⟨36, 64, [0, i, 1, aft Z.stat k, Z.cmd, aft Z.cmd 31], s⟩ := by
  rw [piece_nth Z k i s hs, if_neg h, if_neg h]
  rfl
theorem cat_len (m : Nat) : ∀ L : List ByteArray, (∀ x ∈ L, x.size ≤ m) → (L.map (·.data.toList)).flatten.length ≤ L.length * m
  | [], _ => by simp
  | x :: L, h => by
    have ih := cat_len m L fun y hy => h y (List.mem_cons_of_mem _ hy)
    have hx := h x (by simp)
    have hl := len_of x
    rw [List.map_cons, List.flatten_cons, List.length_append, List.length_cons, Nat.succ_mul]
    omega
theorem catB_size {L : List ByteArray} {m : Nat} (h : ∀ x ∈ L, x.size ≤ m) : (catB L).size ≤ L.length * m := by
  have e : (catB L).size = (L.map (·.data.toList)).flatten.length := size_mkl _
  rw [e]
  exact cat_len m L h
theorem txt_vs {x y z u : Nat} (hx : x < 4294967296) (hy : y < 4294967296) (hz : z < 4294967296) (hu : u < 4294967296) : ∀ v ∈ [0, 1, x, y, z, u], v < 18446744073709551616 := by
  intro v hv
  simp only [List.mem_cons, List.not_mem_nil, or_false] at hv
  omega
set_option maxRecDepth 20000 in
set_option maxHeartbeats 16000000 in
theorem all_any {w0 w : World} {S : List Nat} {f : Nat} {X Z : FP} (hI : FullI w0 w S f X) (V : Env w0) (s0 : ByteArray) (u0 : Value) (hp : PdOk w (textP 128 noneN s0, reqPart u0)) (hfar : PdFar S (textP 128 noneN s0, reqPart u0)) (M : Nat) (hM : M ≤ 20000)
    (hw : wrongP X (textP 128 noneN s0) = none) (ht : takeP X (textP 128 noneN s0) = ([(pieceP Z 1).1], (pieceP Z 1).2)) (hZ : Z.closed = false) (hs : Z.stat < 4294967296) (hcm : Z.cmd < 4294967296) (hg : PcGood Z.pcs M) :
    Calls Tryz.prog 29 #[.pointer (some ⟨f, 0, none⟩), pdV (textP 128 noneN s0, reqPart u0), .int .i64 M] w fun e w' => e = .returned (.tuple #[.string (catB Z.pcs), .int .i64 Z.pcs.length, .bool true]) ∧ AllAt w0 w S f Z w' := by
  obtain ⟨A0, cap0, hu⟩ : ∃ A cap, u0 = .slice A 5 cap := pd_form hp
  subst hu
  obtain ⟨N, hN⟩ : ∃ N, Z.pcs.length = N := ⟨_, rfl⟩
  have hN0 := hg.ne
  have hN1 := hg.few
  rw [hN] at hN0 hN1
  obtain ⟨g, hgw⟩ : ∃ g, w.heap.size = g := ⟨_, rfl⟩
  have hb0 : Below w.heap.size w (w.alloc (.cells #[.int .i64 4, .bool true, .int .i64 128, .slice A0 5 cap0, .slice none 0 0, .string s0] 41)) := (Below.refl _ _).alloc (Nat.le_refl _) _
  have hB0 := Blk.new w 41 #[.int .i64 4, .bool true, .int .i64 128, .slice A0 5 cap0, .slice none 0 0, .string s0]
  obtain ⟨W0, hW0⟩ : ∃ W : World, w.alloc (.cells #[.int .i64 4, .bool true, .int .i64 128, .slice A0 5 cap0, .slice none 0 0, .string s0] 41) = W := ⟨_, rfl⟩
  rw [hW0] at hb0 hB0
  rw [hgw] at hB0
  have hgS : g ∉ S := fun hm => by have := (hI.lt g hm).1; omega
  have hg0 : w0.heap.size ≤ g := by have := hI.b.size; omega
  have hAg0 : ∀ j, Value.ownBlock (.slice A0 5 cap0) = some j → j ≠ g := fun j hj => by have := srd_lt hp.2.2.1 (show 0 < 5 by decide) j hj; omega
  have HSTART := Lib.hid (And.intro hw (And.intro ht (And.intro (hI.on hb0) (And.intro (NF.of_below (S := g :: S) hb0) (And.intro hgS (And.intro hB0 (And.intro (hp.on hb0) (And.intro hfar hAg0))))))))
  have HG := Lib.hid hg
  have HW0 := Lib.hid hW0
  have HGW := Lib.hid hgw
  have HNN := Lib.hid hN
  clear hb0 hB0 hI hp hw ht hg hfar hW0 hAg0 hgS
  have hpd : pdV (textP 128 noneN s0, reqPart (.slice A0 5 cap0)) = .agg #[.int .i64 4, .bool true, .int .i64 128, .slice A0 5 cap0, .slice none 0 0, .string s0] := rfl
  rw [hpd]
  go_enter Tryz.func29, Tryz.ntmps29
  go_upto_region 1 with (fail)
  try refine wp_worldN HW0.out ?_
  try rw [HGW.out]
  go_wp2_with fail
  go_loopw [9, 10] (fun tx i wr => ∃ (k : Nat) (Y : FP) (S' : List Nat) (tag : Nat) (s : ByteArray) (A : Option Addr) (cap : Nat), k < N ∧ i = .int .i64 (k + 1 : Nat) ∧ tx = .string (catB (Z.pcs.take k)) ∧ (∀ j ∈ S', j ∈ S ∨ w.heap.size ≤ j) ∧ wrongP Y (textP 128 tag s) = none ∧ takeP Y (textP 128 tag s) = ([(pieceP (atP Z k) 1).1], (pieceP (atP Z k) 1).2) ∧ FullI w0 wr S' f Y ∧ NF (g :: S) w wr ∧ g ∉ S' ∧
    Blk wr g 41 #[.int .i64 4, .bool true, .int .i64 128, .slice A 5 cap, .slice none 0 0, .string s] ∧ PdOk wr (textP 128 tag s, reqPart (.slice A 5 cap)) ∧ PdFar S' (textP 128 tag s, reqPart (.slice A 5 cap)) ∧ (∀ j, Value.ownBlock (.slice A 5 cap) = some j → j ≠ g)) (fun _ i _ => 200 - (intOf i).toNat)
  case atStart =>
    refine ⟨0, X, S, noneN, s0, A0, cap0, hN0, rfl, rfl, fun j hj => .inl hj, ?_⟩
    rw [atP_zero hs]
    exact HSTART.out
  case round =>
    clear HSTART
    obtain ⟨k, Y, S', tag, s, A, cap, hk, rfl, rfl, hS', hw, ht, hI, hnf, hgS, hB, hp, hfar, hAg⟩ := hrel
    have hk2 : ((k + 1 : Nat) : Int) < 200 := by omega
    obtain ⟨sk, hsk⟩ : ∃ x, Z.pcs[k]? = some x := ⟨_, List.getElem?_eq_getElem (by rw [HNN.out]; exact hk)⟩
    have hskM : sk.size ≤ M := HG.out.le sk (List.mem_of_getElem? hsk)
    have hcz : (catB (Z.pcs.take k)).size ≤ 4000000 := by
      have h1 := catB_size (L := Z.pcs.take k) (m := M) fun x hx => HG.out.le x (List.mem_of_mem_take hx)
      have h2 : (Z.pcs.take k).length * M ≤ 199 * 20000 := Nat.mul_le_mul (by rw [List.length_take]; omega) hM
      omega
    have hsz : sk.size ≤ 20000 := by omega
    have htk : catB (Z.pcs.take k) ++ sk = catB (Z.pcs.take (k + 1)) := by
      rw [List.take_add_one, hsk]
      exact (catB_snoc _ _).symm
    have hfull := Lib.hid <| show k + 1 < N → sk.size = M from fun h => HG.out.full k sk hsk (by rw [HNN.out]; exact h)
    have hst := aft_small Z.stat k
    have hmx := aft_small Z.cmd 31
    have htake := ftake_any hI V (textP 128 tag s, reqPart (.slice A 5 cap)) hp hfar
    rw [hw, ht, atP_next, code_none] at htake
    have HT := Lib.hid htake
    have HSK := Lib.hid hsk
    have HTK := Lib.hid htk
    have HB := Lib.hid hB
    have HP := Lib.hid hp
    have HF := Lib.hid hfar
    have HNF := Lib.hid hnf
    have HAG := Lib.hid hAg
    have HS := Lib.hid hS'
    have d0 : wr.cell? ⟨g, 0, none⟩ = some (.int .i64 4) := hB.cell 0
    have d1 : wr.cell? ⟨g, 1, none⟩ = some (.bool true) := hB.cell 1
    have d2 : wr.cell? ⟨g, 2, none⟩ = some (.int .i64 128) := hB.cell 2
    have d3 : wr.cell? ⟨g, 3, none⟩ = some (.slice A 5 cap) := hB.cell 3
    have d4 : wr.cell? ⟨g, 4, none⟩ = some (.slice none 0 0) := hB.cell 4
    have d5 : wr.cell? ⟨g, 5, none⟩ = some (.string s) := hB.cell 5
    have HST := Lib.hid hst
    have HMX := Lib.hid hmx
    have HSKM := Lib.hid hskM
    clear htake htk hB hp hfar hnf hAg hS' hw ht hI hsk hst hmx hskM
    by_cases hlast : k + 1 = N
    · have h := HT.out
      rw [piece_lastA Z k 1 sk HSK.out (by rw [HNN.out]; exact hlast)] at h
      have HT2 := Lib.hid (show Calls Tryz.prog 15 #[.pointer (some ⟨f, 0, none⟩), .agg #[.int .i64 4, .bool true, .int .i64 128, .slice A 5 cap, .slice none 0 0, .string s]] wr fun e w' => ∃ v, e = .returned (.tuple #[v, .nilIface]) ∧ TookX w0 wr S' f (atP Z (k + 1)) [⟨36, 128, [0, 1, noneN, aft Z.stat k, Z.cmd, aft Z.cmd 31], sk⟩] v w' from h)
      clear h
      clear HT
      go_wp2_with fail
      refine HT2.out.mono ?_
      rintro e w5 ⟨v, rfl, S5, hI5, hN5, hS5, b, hv, rfl, hB5, hbb, hbS, hA5⟩
      obtain ⟨A5, cap5, rfl⟩ := ap_form6 hA5 rfl
      have hB5g : Blk w5 g 41 #[.int .i64 4, .bool true, .int .i64 128, .slice A 5 cap, .slice none 0 0, .string s] := (hN5.block g HB.out.lt hgS).trans HB.out
      have hp5 := HP.out.nf hN5 HF.out
      have hg5 : g ∉ S5 := fun hm => by
        rcases hS5 g hm with h | h
        · exact hgS h
        · have := HB.out.lt; omega
      have hbg : b ≠ g := fun e => by have := HB.out.lt; omega
      have hN5w : NF (g :: S) w w5 := HNF.out.trans hN5 fun x hx => by
        rcases HS.out x hx with h | h
        · exact .inl (List.mem_cons_of_mem _ h)
        · exact .inr h
      have hS5w : ∀ j ∈ S5, j ∈ S ∨ w.heap.size ≤ j := fun j hj => by
        rcases hS5 j hj with h | h
        · exact HS.out j h
        · have := HNF.out.size; exact .inr (by omega)
      have hpa := ap_ok hA5 (txt_vs (by decide) HST.out hcm HMX.out) (by show (36 : Nat) ≤ 63; decide) (by show (128 : Nat) ≤ 255; decide) (by have := HSKM.out; show sk.size ≤ _; omega)
      have V5 := V.on hI5.b
      have hwt := fwhat_any _ r36 nTTT noneN row36 rfl w5 hpa V5.T V5.S
      have HWT := Lib.hid (show Calls Tryz.prog 17 #[.agg #[.int .i64 36, .bool false, .int .i64 128, .slice A5 6 cap5, .slice none 0 0, .string sk], .string ⟨#[84, 84, 84]⟩] w5 fun e w' => e = .returned (.int .u64 4294967295) ∧ Below w5.heap.size w5 w' from hwt)
      have HI5 := Lib.hid hI5
      have HN5 := Lib.hid hN5w
      have HS5 := Lib.hid hS5w
      have HB5 := Lib.hid hB5
      have HB5g := Lib.hid hB5g
      have HP5 := Lib.hid hp5
      have hsi : ¬ ((M : Int) < (sk.size : Int)) := by have := HSKM.out; omega
      have q0 : w5.cell? ⟨b, 0, none⟩ = some (.int .i64 36) := hB5.cell 0
      have q1 : w5.cell? ⟨b, 1, none⟩ = some (.bool false) := hB5.cell 1
      have q2 : w5.cell? ⟨b, 2, none⟩ = some (.int .i64 128) := hB5.cell 2
      have q3 : w5.cell? ⟨b, 3, none⟩ = some (.slice A5 6 cap5) := hB5.cell 3
      have q4 : w5.cell? ⟨b, 4, none⟩ = some (.slice none 0 0) := hB5.cell 4
      have q5 : w5.cell? ⟨b, 5, none⟩ = some (.string sk) := hB5.cell 5
      clear hwt hI5 hN5w hS5w hB5g hp5 hpa hA5 hB5 d0 d1 d2 d3 d4 d5 hN5
      go_wp2_with fail
      refine HWT.out.mono ?_
      rintro e w6 ⟨rfl, hb6⟩
      have hB6 := HB5.out.below hb6 HB5.out.lt
      have r0 : w6.cell? ⟨b, 0, none⟩ = some (.int .i64 36) := hB6.cell 0
      have r1 : w6.cell? ⟨b, 1, none⟩ = some (.bool false) := hB6.cell 1
      have r2 : w6.cell? ⟨b, 2, none⟩ = some (.int .i64 128) := hB6.cell 2
      have r3 : w6.cell? ⟨b, 3, none⟩ = some (.slice A5 6 cap5) := hB6.cell 3
      have r4 : w6.cell? ⟨b, 4, none⟩ = some (.slice none 0 0) := hB6.cell 4
      have r5 : w6.cell? ⟨b, 5, none⟩ = some (.string sk) := hB6.cell 5
      clear q0 q1 q2 q3 q4 q5 hB6
      go_wp2_with fail
      try go_region
      try go_wp2_with fail
      go_ret3
      have hcat : catB (Z.pcs.take k) ++ sk = catB Z.pcs := by
        rw [HTK.out, List.take_of_length_le (by rw [HNN.out]; omega)]
      have hNF6 : NF S w w6 := (NF.refl S w).trans (HN5.out.then_below hb6) fun x hx => by
        rcases List.mem_cons.1 hx with h | h
        · exact .inr (by have := HGW.out; omega)
        · exact .inl h
      refine ⟨?_, S5, ?_, ?_, HS5.out⟩
      · rw [hcat, HNN.out]
        all_goals first | rfl | (rw [← hlast]; rfl) | simp
      · rw [HNN.out, ← hlast]
        first | exact HI5.out.on hb6 | exact (HI5.out.on hb6).on (below_dK (Below.refl _ _) _)
      · first | exact hNF6 | exact hNF6.then_below (below_dK (Below.refl _ _) _)
    · have h := HT.out
      rw [piece_moreA Z k 1 sk HSK.out (by rw [HNN.out]; exact hlast)] at h
      have HT2 := Lib.hid (show Calls Tryz.prog 15 #[.pointer (some ⟨f, 0, none⟩), .agg #[.int .i64 4, .bool true, .int .i64 128, .slice A 5 cap, .slice none 0 0, .string s]] wr fun e w' => ∃ v, e = .returned (.tuple #[v, .nilIface]) ∧ TookX w0 wr S' f (atP Z (k + 1)) [⟨36, 64, [0, 1, 1, aft Z.stat k, Z.cmd, aft Z.cmd 31], sk⟩] v w' from h)
      clear h
      clear HT
      go_wp2_with fail
      refine HT2.out.mono ?_
      rintro e w5 ⟨v, rfl, S5, hI5, hN5, hS5, b, hv, rfl, hB5, hbb, hbS, hA5⟩
      obtain ⟨A5, cap5, rfl⟩ := ap_form6 hA5 rfl
      have hB5g : Blk w5 g 41 #[.int .i64 4, .bool true, .int .i64 128, .slice A 5 cap, .slice none 0 0, .string s] := (hN5.block g HB.out.lt hgS).trans HB.out
      have hp5 := HP.out.nf hN5 HF.out
      have hg5 : g ∉ S5 := fun hm => by
        rcases hS5 g hm with h | h
        · exact hgS h
        · have := HB.out.lt; omega
      have hbg : b ≠ g := fun e => by have := HB.out.lt; omega
      have hN5w : NF (g :: S) w w5 := HNF.out.trans hN5 fun x hx => by
        rcases HS.out x hx with h | h
        · exact .inl (List.mem_cons_of_mem _ h)
        · exact .inr h
      have hS5w : ∀ j ∈ S5, j ∈ S ∨ w.heap.size ≤ j := fun j hj => by
        rcases hS5 j hj with h | h
        · exact HS.out j h
        · have := HNF.out.size; exact .inr (by omega)
      have hpa := ap_ok hA5 (txt_vs (by decide) HST.out hcm HMX.out) (by show (36 : Nat) ≤ 63; decide) (by show (64 : Nat) ≤ 255; decide) (by have := HSKM.out; show sk.size ≤ _; omega)
      have V5 := V.on hI5.b
      have hwt := fwhat_any _ r36 nTTT 1 row36 rfl w5 hpa V5.T V5.S
      have HWT := Lib.hid (show Calls Tryz.prog 17 #[.agg #[.int .i64 36, .bool false, .int .i64 64, .slice A5 6 cap5, .slice none 0 0, .string sk], .string ⟨#[84, 84, 84]⟩] w5 fun e w' => e = .returned (.int .u64 1) ∧ Below w5.heap.size w5 w' from hwt)
      have HI5 := Lib.hid hI5
      have HN5 := Lib.hid hN5w
      have HS5 := Lib.hid hS5w
      have HB5 := Lib.hid hB5
      have HB5g := Lib.hid hB5g
      have HP5 := Lib.hid hp5
      have hsi : ¬ ((M : Int) < (sk.size : Int)) := by have := HSKM.out; omega
      have q0 : w5.cell? ⟨b, 0, none⟩ = some (.int .i64 36) := hB5.cell 0
      have q1 : w5.cell? ⟨b, 1, none⟩ = some (.bool false) := hB5.cell 1
      have q2 : w5.cell? ⟨b, 2, none⟩ = some (.int .i64 64) := hB5.cell 2
      have q3 : w5.cell? ⟨b, 3, none⟩ = some (.slice A5 6 cap5) := hB5.cell 3
      have q4 : w5.cell? ⟨b, 4, none⟩ = some (.slice none 0 0) := hB5.cell 4
      have q5 : w5.cell? ⟨b, 5, none⟩ = some (.string sk) := hB5.cell 5
      clear hwt hI5 hN5w hS5w hB5g hp5 hpa hA5 hB5 d0 d1 d2 d3 d4 d5 hN5
      go_wp2_with fail
      refine HWT.out.mono ?_
      rintro e w6 ⟨rfl, hb6⟩
      have hkN : k + 1 < N := by omega
      have hskE : sk.size = M := hfull.out hkN
      have hb6a : Below w6.heap.size w6 (w6.alloc (.cells #[.string ⟨#[73, 84, 84]⟩, .string ⟨#[84, 84, 84]⟩] 9)) := (Below.refl _ _).alloc (Nat.le_refl _) _
      have hnv : SRd (w6.alloc (.cells #[.string ⟨#[73, 84, 84]⟩, .string ⟨#[84, 84, 84]⟩] 9)) (.slice (some ⟨w6.heap.size, 0, none⟩) 2 2) 1 2 ([nITT, nTTT].map .string) := SRd.lit5 (n := 2) (Blk.new _ _ _)
      have hb6b := below_step hb6 hb6a
      have V6 := V5.on hb6b
      have hwi := fwhat_any (textP 128 tag s, reqPart (.slice A 5 cap)) r4 nITT 1 row4 rfl _ (HP5.out.on hb6b) V6.T V6.S
      have HWI := Lib.hid (show Calls Tryz.prog 17 #[.agg #[.int .i64 4, .bool true, .int .i64 128, .slice A 5 cap, .slice none 0 0, .string s], .string ⟨#[73, 84, 84]⟩] (w6.alloc (.cells #[.string ⟨#[73, 84, 84]⟩, .string ⟨#[84, 84, 84]⟩] 9)) fun e w' => e = .returned (.int .u64 1) ∧ Below (w6.alloc (.cells #[.string ⟨#[73, 84, 84]⟩, .string ⟨#[84, 84, 84]⟩] 9)).heap.size (w6.alloc (.cells #[.string ⟨#[73, 84, 84]⟩, .string ⟨#[84, 84, 84]⟩] 9)) w' from hwi)
      have hB6g := HB5g.out.below hb6b HB5g.out.lt
      have d0 : (w6.alloc (.cells #[.string ⟨#[73, 84, 84]⟩, .string ⟨#[84, 84, 84]⟩] 9)).cell? ⟨g, 0, none⟩ = some (.int .i64 4) := hB6g.cell 0
      have d1 : (w6.alloc (.cells #[.string ⟨#[73, 84, 84]⟩, .string ⟨#[84, 84, 84]⟩] 9)).cell? ⟨g, 1, none⟩ = some (.bool true) := hB6g.cell 1
      have d2 : (w6.alloc (.cells #[.string ⟨#[73, 84, 84]⟩, .string ⟨#[84, 84, 84]⟩] 9)).cell? ⟨g, 2, none⟩ = some (.int .i64 128) := hB6g.cell 2
      have d3 : (w6.alloc (.cells #[.string ⟨#[73, 84, 84]⟩, .string ⟨#[84, 84, 84]⟩] 9)).cell? ⟨g, 3, none⟩ = some (.slice A 5 cap) := hB6g.cell 3
      have d4 : (w6.alloc (.cells #[.string ⟨#[73, 84, 84]⟩, .string ⟨#[84, 84, 84]⟩] 9)).cell? ⟨g, 4, none⟩ = some (.slice none 0 0) := hB6g.cell 4
      have d5 : (w6.alloc (.cells #[.string ⟨#[73, 84, 84]⟩, .string ⟨#[84, 84, 84]⟩] 9)).cell? ⟨g, 5, none⟩ = some (.string s) := hB6g.cell 5
      clear q0 q1 q2 q3 q4 q5 hB6g hwi
      go_wp2_with fail
      refine HWI.out.mono ?_
      rintro e w7 ⟨rfl, hb7⟩
      have hb57 := below_step hb6b hb7
      have hb7a : Below w7.heap.size w7 (w7.alloc (.cells #[.int .u64 1, .int .u64 1] 49)) := (Below.refl _ _).alloc (Nat.le_refl _) _
      have hvv : SRd (w7.alloc (.cells #[.int .u64 1, .int .u64 1] 49)) (.slice (some ⟨w7.heap.size, 0, none⟩) 2 2) 1 2 ([1, 1].map u64V) := SRd.lit5 (n := 2) (Blk.new _ _ _)
      have hb57a := below_step hb57 hb7a
      have V7 := V5.on hb57a
      have hreq := req_any 4 128 true [nITT, nTTT] [1, 1] _ _ ⟨#[]⟩ [0, 1, 1, 0, 0] _ (make4 (fl := 128) (b := 1) (c := 1) (by simp) (by decide) (by decide)) (by decide) (by decide) ((hnv.on hb7).on hb7a) hvv (by decide) (by decide) (by decide) V7
      have HREQ := Lib.hid hreq
      clear hreq hnv hvv d0 d1 d2 d3 d4 d5
      go_wp2_with fail
      refine HREQ.out.mono ?_
      rintro e w8 ⟨⟨u8, he, hp8, hu8⟩, hb8⟩
      obtain ⟨A8, cap8, hu⟩ : ∃ A cap, u8 = .slice A 5 cap := pd_form hp8
      subst hu
      have he' : e = .returned (.tuple #[.agg #[.int .i64 4, .bool true, .int .i64 128, .slice A8 5 cap8, .slice none 0 0, .string ⟨#[]⟩], .bool true]) := he
      subst he'
      have hb58 := below_step hb57a hb8
      have hb8a : Below w8.heap.size w8 (w8.alloc (.cells #[.int .i64 4, .bool true, .int .i64 128, .slice A8 5 cap8, .slice none 0 0, .string ⟨#[]⟩] 41)) := (Below.refl _ _).alloc (Nat.le_refl _) _
      have hBq := Blk.new w8 41 #[.int .i64 4, .bool true, .int .i64 128, .slice A8 5 cap8, .slice none 0 0, .string ⟨#[]⟩]
      obtain ⟨q, hq⟩ : ∃ q, w8.heap.size = q := ⟨_, rfl⟩
      obtain ⟨W9, hW9⟩ : ∃ W : World, w8.alloc (.cells #[.int .i64 4, .bool true, .int .i64 128, .slice A8 5 cap8, .slice none 0 0, .string ⟨#[]⟩] 41) = W := ⟨_, rfl⟩
      rw [hW9] at hb8a hBq
      rw [hq] at hBq
      have hb59 := below_step hb58 hb8a
      have hB9g := HB5g.out.below hb59 HB5g.out.lt
      have hB9b := HB5.out.below hb59 HB5.out.lt
      have hp9 := hp8.on hb8a
      have hI9 := HI5.out.on hb59
      have hN9 := HN5.out.then_below hb59
      have r0 : W9.cell? ⟨b, 0, none⟩ = some (.int .i64 36) := hB9b.cell 0
      have r1 : W9.cell? ⟨b, 1, none⟩ = some (.bool false) := hB9b.cell 1
      have r2 : W9.cell? ⟨b, 2, none⟩ = some (.int .i64 64) := hB9b.cell 2
      have r3 : W9.cell? ⟨b, 3, none⟩ = some (.slice A5 6 cap5) := hB9b.cell 3
      have r4 : W9.cell? ⟨b, 4, none⟩ = some (.slice none 0 0) := hB9b.cell 4
      have r5 : W9.cell? ⟨b, 5, none⟩ = some (.string sk) := hB9b.cell 5
      have x0 : W9.cell? ⟨q, 0, none⟩ = some (.int .i64 4) := hBq.cell 0
      have x1 : W9.cell? ⟨q, 1, none⟩ = some (.bool true) := hBq.cell 1
      have x2 : W9.cell? ⟨q, 2, none⟩ = some (.int .i64 128) := hBq.cell 2
      have x3 : W9.cell? ⟨q, 3, none⟩ = some (.slice A8 5 cap8) := hBq.cell 3
      have x4 : W9.cell? ⟨q, 4, none⟩ = some (.slice none 0 0) := hBq.cell 4
      have x5 : W9.cell? ⟨q, 5, none⟩ = some (.string ⟨#[]⟩) := hBq.cell 5
      have d0 : W9.cell? ⟨g, 0, none⟩ = some (.int .i64 4) := hB9g.cell 0
      have d1 : W9.cell? ⟨g, 1, none⟩ = some (.bool true) := hB9g.cell 1
      have d2 : W9.cell? ⟨g, 2, none⟩ = some (.int .i64 128) := hB9g.cell 2
      have d3 : W9.cell? ⟨g, 3, none⟩ = some (.slice A 5 cap) := hB9g.cell 3
      have d4 : W9.cell? ⟨g, 4, none⟩ = some (.slice none 0 0) := hB9g.cell 4
      have d5 : W9.cell? ⟨g, 5, none⟩ = some (.string s) := hB9g.cell 5
      have z0 := hB9g.frozen 0
      have z1 := hB9g.frozen 1
      have z2 := hB9g.frozen 2
      have z3 := hB9g.frozen 3
      have z4 := hB9g.frozen 4
      have z5 := hB9g.frozen 5
      have HB9g := Lib.hid hB9g
      have HP9 := Lib.hid hp9
      have HI9 := Lib.hid hI9
      have HN9 := Lib.hid hN9
      have HU8 := Lib.hid hu8
      have HW9 := Lib.hid hW9
      have HQ := Lib.hid hq
      have hne : ¬ ((sk.size : Int) = (M : Int)) → False := fun h => h (by omega)
      have hsM : (sk.size : Int) = (M : Int) := by omega
      clear he hp8 hp9 hI9 hN9 hB9g hB9b hBq hu8 hW9 hq
      go_upto_region 13 with (fail)
      try refine wp_worldN HW9.out ?_
      try rw [HQ.out]
      try rw [hsM]
      go_wp2_with fail
      have hnf6 : NF [g] W9 (six W9 g (.int .i64 4) (.bool true) (.int .i64 128) (.slice A8 5 cap8) (.slice none 0 0) (.string ⟨#[]⟩)) := six_nf (NF.refl _ _) (.inl (by simp)) _ _ _ _ _ _
      have hbb6 : Below w0.heap.size w0 (six W9 g (.int .i64 4) (.bool true) (.int .i64 128) (.slice A8 5 cap8) (.slice none 0 0) (.string ⟨#[]⟩)) := six_below HI9.out.b hg0 _ _ _ _ _ _
      have hu9 : ∀ j, Value.ownBlock (.slice A8 5 cap8) = some j → w5.heap.size < j := fun j hj => by
        have h1 := HU8.out j hj
        have h2 := hb57.size
        simp at h1
        omega
      have hpf : PdFar [g] (textP 128 1 ⟨#[]⟩, reqPart (.slice A8 5 cap8)) := ⟨fun _ j hj hm => by have h1 := hu9 j hj; have h2 := HB5g.out.lt; have h3 := List.mem_singleton.1 hm; omega, fun hn => absurd (show 0 < 0 from hn) (by decide)⟩
      have hpt := piece_take (X := atP Z (k + 1)) hZ (show Z.pcs.drop (k + 1) ≠ [] from fun h => by have h1 := List.drop_eq_nil_iff.1 h; have h2 := HNN.out; omega)
      go_roundw
      case rel =>
        refine ⟨k + 1, atP Z (k + 1), S5, 1, ⟨#[]⟩, A8, cap8, hkN, by go_num, ?_, HS5.out, hpt.1, hpt.2, ?_, ?_, hg5, ?_, ?_, ?_, ?_⟩
        · rw [HTK.out]
        · exact HI9.out.poke hnf6 hbb6 hg5 ⟨_, _, HB9g.out⟩
        · exact HN9.out.trans hnf6 fun x hx => .inl (by rw [List.mem_singleton.1 hx]; simp)
        · exact six_blk2 HB9g.out _ _ _ _ _ _
        · exact HP9.out.nf hnf6 hpf
        · exact ⟨fun _ j hj hm => by have h1 := hu9 j hj; have h2 := (HI5.out.lt j hm).1; omega, fun hn => absurd (show 0 < 0 from hn) (by decide)⟩
        · intro j hj
          have h1 := hu9 j hj
          have h2 := HB5g.out.lt
          omega
      case measure => simp [intOf]; omega
end Go.Proofs.YtamlepacljjpiaaGreatDoor
