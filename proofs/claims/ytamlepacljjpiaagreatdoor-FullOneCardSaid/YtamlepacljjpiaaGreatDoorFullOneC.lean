/- The walk of the law FullOne. -/
import Derived.Test.YtamlepacljjpiaaGreatDoorFullListP
namespace Go.Proofs.YtamlepacljjpiaaGreatDoor
open Go.ChangeShapes Go.WideShapes Go.ChangeAt Go.RowKit Go.Shelf
set_option linter.unusedVariables false
set_option linter.unusedSimpArgs false
def rejL : PairL := [(stB, ba rejB)]
theorem send_rej {Y : FP} (hd : Y.disc = false) : sendL Y allB = rejL := by
  unfold sendL
  split
  · rfl
  · rw [if_pos ⟨rfl, hd⟩]
    rfl
def oneL (c : Cfg) (o : ByteArray) : PairL := match tlistP c o.data.toList false with
  | none => rejL
  | some l => l
theorem send_one {Y : FP} {v o : ByteArray} (hv : v ≠ allB) (ho : (if v.data.toList = [] then Y.name else v) = o) : sendL Y v = oneL Y.conf o := by
  unfold sendL oneL
  rw [ho, decide_eq_false hv]
  rcases tlistP Y.conf o.data.toList false with _ | l
  · rfl
  · exact if_neg (fun h => hv h.1)
theorem send_like {X Y : FP} {v : ByteArray} (h1 : Y.conf = X.conf) (h2 : Y.name = X.name) (h3 : Y.disc = X.disc) : sendL Y v = sendL X v := by
  unfold sendL
  rw [h1, h2, h3]
/- what asking leaves -/
structure OneAt (w W : World) (S : List Nat) (f F : Nat) (Y : FP) (r : Value) (l : PairL) (w' : World) (Y' : FP) (S' : List Nat) : Prop where
  rd : SRd w' r 2 l.length (pairCells l)
  far : ∀ k, r.ownBlock = some k → k ∉ S' ∧ k < w'.heap.size
  i : FullI w w' S' f Y'
  cf : Y'.conf = Y.conf
  nm : Y'.name = Y.name
  ds : Y'.disc = Y.disc
  cl : Y'.closed = false
  tx : Y'.txt = ⟨#[]⟩
  ms : mostN Y'.rc = 8192
  nf : NF S W w'
  ss : ∀ k ∈ S', k ∈ S ∨ W.heap.size ≤ k
set_option maxRecDepth 20000 in
set_option maxHeartbeats 16000000 in
theorem one_any {w W : World} {S : List Nat} {f : Nat} {Y : FP} (hI : FullI w W S f Y) (V : Env w) (F : Nat) (hF : Blk W F 33 #[.pointer (some ⟨f, 0, none⟩)]) (v : ByteArray) (hv : valB v.data.toList = true) (hc : Y.closed = false) (ht : Y.txt = ⟨#[]⟩) (hcr : cRight Y.conf = none) (hm : mostN Y.rc = 8192) :
    Calls Tryz.prog 34 #[.string v, .pointer (some ⟨F, 0, none⟩)] W fun e w' => ∃ r Y' S', e = .returned (.tuple #[r, .bool true]) ∧ OneAt w W S f F Y r (sendL Y v) w' Y' S' := by
  have hvz : v.size ≤ 255 := by
    have := valB_len hv
    rw [len_of] at this
    exact this
  have hLz : ((⟨#[83, 101, 110, 100, 84, 97, 114, 103, 101, 116, 115, 61]⟩ : ByteArray) ++ v).size ≤ 300 := by
    rw [ByteArray.size_append]
    have : (⟨#[83, 101, 110, 100, 84, 97, 114, 103, 101, 116, 115, 61]⟩ : ByteArray).size = 12 := rfl
    omega
  obtain ⟨D, hD⟩ : ∃ D, (⟨#[83, 101, 110, 100, 84, 97, 114, 103, 101, 116, 115, 61]⟩ : ByteArray) ++ v ++ ⟨#[0]⟩ = D := ⟨_, rfl⟩
  have hDp : D = ba (pairsB [(stB, v)]) := by
    rw [ba_pair, ← hD]
    rfl
  have hDz : D.size ≤ 140737488351232 := by
    rw [← hD, ByteArray.size_append]
    have : (⟨#[0]⟩ : ByteArray).size = 1 := rfl
    omega
  obtain ⟨hw, hta⟩ := ask_send Y v D hDp hv hc ht hcr 8192 hm
  obtain ⟨hgood, hcat, hlenZ, hTz⟩ := sent_good (X := Y) (v := v) (M := 8192) hcr (by decide)
  have hpar := sent_parse (X := Y) (v := v) hcr
  have HD := Lib.hid hD
  have HWT := Lib.hid (And.intro hw hta)
  have HGD := Lib.hid (And.intro hgood (And.intro hcat hlenZ))
  have HPAR := Lib.hid hpar
  have HTZ := Lib.hid hTz
  have HF := Lib.hid hF
  have HI := Lib.hid hI
  have HCL := Lib.hid hc
  have HMM := Lib.hid hm
  have V2 := V.on hI.b
  clear hD hDp hw hta hgood hcat hlenZ hpar hTz hF hI hc hm
  go_enter Tryz.func34, Tryz.ntmps34
  have hbl3 : Below W.heap.size W ((W.alloc (.cells #[.string ⟨#[73, 84, 84]⟩, .string ⟨#[84, 84, 84]⟩] 9)).alloc (.cells #[.int .u64 1, .int .u64 4294967295] 49)) := ((Below.refl _ _).alloc (Nat.le_refl _) _).alloc (by simp) _
  have hnv3 : SRd ((W.alloc (.cells #[.string ⟨#[73, 84, 84]⟩, .string ⟨#[84, 84, 84]⟩] 9)).alloc (.cells #[.int .u64 1, .int .u64 4294967295] 49)) (.slice (some ⟨W.heap.size, 0, none⟩) 2 2) 1 2 ([nITT, nTTT].map .string) := SRd.lit5 (n := 2) (Blk.alloc (Blk.new W _ _) _)
  have hvv3 : SRd ((W.alloc (.cells #[.string ⟨#[73, 84, 84]⟩, .string ⟨#[84, 84, 84]⟩] 9)).alloc (.cells #[.int .u64 1, .int .u64 4294967295] 49)) (.slice (some ⟨W.heap.size + 1, 0, none⟩) 2 2) 1 2 ([1, noneN].map u64V) := by
    rw [← szA W (.cells #[.string ⟨#[73, 84, 84]⟩, .string ⟨#[84, 84, 84]⟩] 9)]
    exact SRd.lit5 (n := 2) (Blk.new _ _ _)
  have hreq3 := req_any 4 128 true [nITT, nTTT] [1, noneN] _ _ D [0, 1, noneN, 0, 0] _ (make4 (fl := 128) (b := 1) (c := noneN) (by simp) (by decide) (by decide)) (by decide) (by decide) hnv3 hvv3 (by decide) (by decide) hDz (V2.on hbl3)
  have HREQ3 := Lib.hid hreq3
  have HBL3 := Lib.hid hbl3
  clear hreq3 hnv3 hvv3 hbl3
  go_wp2_with fail
  try rw [HD.out]
  refine HREQ3.out.mono ?_
  rintro e w3 ⟨⟨u3, he, hp3, hu3⟩, hb3⟩
  obtain ⟨A3, cap3, hu⟩ : ∃ A cap, u3 = .slice A 5 cap := pd_form hp3
  subst hu
  have he' : e = .returned (.tuple #[.agg #[.int .i64 4, .bool true, .int .i64 128, .slice A3 5 cap3, .slice none 0 0, .string D], .bool true]) := he
  subst he'
  have hb3r := below_step HBL3.out hb3
  have hb3a : Below w3.heap.size w3 (w3.alloc (.cells #[.int .i64 4, .bool true, .int .i64 128, .slice A3 5 cap3, .slice none 0 0, .string D] 41)) := (Below.refl _ _).alloc (Nat.le_refl _) _
  have hB3 := Blk.new w3 41 #[.int .i64 4, .bool true, .int .i64 128, .slice A3 5 cap3, .slice none 0 0, .string D]
  obtain ⟨W4, hW4⟩ : ∃ W : World, w3.alloc (.cells #[.int .i64 4, .bool true, .int .i64 128, .slice A3 5 cap3, .slice none 0 0, .string D] 41) = W := ⟨_, rfl⟩
  rw [hW4] at hb3a hB3
  have hb3w := below_step hb3r hb3a
  have hfar3 : PdFar S ((⟨4, true, 128, [0, 1, noneN, 0, 0], [], D⟩ : PD), reqPart (.slice A3 5 cap3)) := ⟨fun _ k hk hm => by have h1 := hu3 k hk; have h2 := (HI.out.lt k hm).1; have h3 := HBL3.out.size; omega, fun hn => absurd (show 0 < 0 from hn) (by decide)⟩
  have hp3 := hp3.on hb3a
  obtain ⟨g3, hg3⟩ : ∃ g, w3.heap.size = g := ⟨_, rfl⟩
  rw [hg3] at hB3
  have hI4 := HI.out.on hb3w
  have hF4 := HF.out.below hb3w HF.out.lt
  have hall := all_any hI4 V D (.slice A3 5 cap3) hp3 hfar3 8192 (by decide) HWT.out.1 HWT.out.2 HCL.out HI.out.ok.st HI.out.ok.cm HGD.out.1
  rw [HGD.out.2.1, HGD.out.2.2] at hall
  have HALL := Lib.hid (show Calls Tryz.prog 29 #[.pointer (some ⟨f, 0, none⟩), .agg #[.int .i64 4, .bool true, .int .i64 128, .slice A3 5 cap3, .slice none 0 0, .string D], .int .i64 8192] W4 fun e w' => e = .returned (.tuple #[.string (sentT Y v), .int .i64 (cntN (sentT Y v) 8192 : Nat), .bool true]) ∧ AllAt w W4 S f (sentZ Y v 8192) w' from hall)
  have HW4 := Lib.hid hW4
  have HG3 := Lib.hid hg3
  have d0 : W4.cell? ⟨g3, 0, none⟩ = some (.int .i64 4) := hB3.cell 0
  have d1 : W4.cell? ⟨g3, 1, none⟩ = some (.bool true) := hB3.cell 1
  have d2 : W4.cell? ⟨g3, 2, none⟩ = some (.int .i64 128) := hB3.cell 2
  have d3 : W4.cell? ⟨g3, 3, none⟩ = some (.slice A3 5 cap3) := hB3.cell 3
  have d4 : W4.cell? ⟨g3, 4, none⟩ = some (.slice none 0 0) := hB3.cell 4
  have d5 : W4.cell? ⟨g3, 5, none⟩ = some (.string D) := hB3.cell 5
  have k0 : W4.cell? ⟨F, 0, none⟩ = some (.pointer (some ⟨f, 0, none⟩)) := hF4.cell 0
  clear he hp3 hfar3 hB3 hu3 hall hI4 hF4 hW4 hg3
  go_upto_region 2 with (fail)
  try refine wp_worldN HW4.out ?_
  try rw [HG3.out]
  go_wp2_with fail
  refine HALL.out.mono ?_
  rintro e w7 ⟨rfl, S7, hI7, hN7, hS7⟩
  have V7 := V.on hI7.b
  have hTz := HTZ.out
  clear d0 d1 d2 d3 d4 d5 k0
  go_wp2_with fail
  refine (parse_any (sentT Y v) w7 V7.L V7.S (by omega)).mono ?_
  rintro e w8 ⟨r, er, rfl, hr, hb8⟩
  rw [HPAR.out] at hr
  obtain ⟨rfl, hrow⟩ := hr
  have hfin : ∀ W', Below w8.heap.size w8 W' → OneAt w W S f F Y r (sendL Y v) W' (atP (sentZ Y v 8192) (sentZ Y v 8192).pcs.length) S7 := fun W' hW' => by
    have h8 := below_step hb8 hW'
    exact ⟨(SRd.of_m hrow).on hW', fun k hk => by
        have h1 := MRow.lt hrow k hk
        exact ⟨fun hm => by have h2 := (hI7.lt k hm).1; omega, by have h3 := hW'.size; omega⟩, hI7.on h8, rfl, rfl, rfl, HCL.out, rfl, HMM.out,
      ((NF.of_below hb3w).trans hN7 (fun x hx => .inl hx)).then_below h8, fun k hk => by
        rcases hS7 k hk with h | h
        · exact .inl h
        · have := hb3w.size; exact .inr (by omega)⟩
  have HFIN := Lib.hid hfin
  clear hfin hrow hI7 hN7
  go_wp2_with fail
  try go_region
  try go_wp2_with fail
  go_ret2
  exact ⟨r, _, S7, by first | rfl | simp, by first | exact HFIN.out _ (Below.refl _ _) | exact HFIN.out _ (below_dK (Below.refl _ _) _)⟩
end Go.Proofs.YtamlepacljjpiaaGreatDoor
