/- The walk of the law FullOne. -/
import Derived.Test.YtamlepacljjpiaaGreatDoorFullOneC
namespace Go.Proofs.YtamlepacljjpiaaGreatDoor
open Go.ChangeShapes Go.WideShapes Go.ChangeAt Go.RowKit Go.Shelf
set_option linter.unusedVariables false
set_option linter.unusedSimpArgs false
def iqnB : ByteArray := ⟨#[105, 113, 110, 46, 97]⟩
/- a row of one's own on a world further on -/
def RowAt (w' : World) (S' : List Nat) (r : Value) (l : PairL) : Prop := SRd w' r 2 l.length (pairCells l) ∧ ∀ k, r.ownBlock = some k → k ∉ S' ∧ k < w'.heap.size
theorem RowAt.nf {w W' : World} {S S' : List Nat} {r : Value} {l : PairL} (h : RowAt w S r l) (hf : NF S w W') (hs : ∀ k ∈ S', k ∈ S ∨ w.heap.size ≤ k) : RowAt W' S' r l :=
  ⟨srd_nf h.1 hf (fun _ k hk => (h.2 k hk).1), fun k hk => ⟨fun hm => by
    have h1 := h.2 k hk
    rcases hs k hm with h2 | h2
    · exact h1.1 h2
    · omega, by have h1 := (h.2 k hk).2; have := hf.size; omega⟩⟩
theorem RowAt.on {w W' : World} {S : List Nat} {r : Value} {l : PairL} (h : RowAt w S r l) (hb : Below w.heap.size w W') : RowAt W' S r l := ⟨h.1.on hb, fun k hk => ⟨(h.2 k hk).1, by have := (h.2 k hk).2; have := hb.size; omega⟩⟩
/- what target.List tells, or the one that was refused -/
theorem list_either {w w' : World} {e : Ending} {c : Cfg} {o : ByteArray} (h : tlistIs w' w.heap.size e (tlistP c o.data.toList false)) : (∃ v, e = .returned (.tuple #[v, .nilIface]) ∧ SRd w' v 2 (oneL c o).length (pairCells (oneL c o))) ∨ (e = .returned (.tuple #[.slice none 0 0, .iface 56 (.int .i64 8)]) ∧ oneL c o = rejL) := by
  unfold oneL
  rcases ht : tlistP c o.data.toList false with _ | l
  · rw [ht] at h
    exact .inr ⟨h, rfl⟩
  · rw [ht] at h
    obtain ⟨v, rfl, hr⟩ := h
    exact .inl ⟨v, rfl, SRd.of_m hr⟩
set_option maxRecDepth 20000 in
set_option maxHeartbeats 16000000 in
theorem oneFull (c : Cfg) (tv pv uv ov : Value) (name : ByteArray) (w : World) (hc : CfgAt w tv pv uv ov c) (hsm : c.Small) (hlen : c.tg.length * 16 ≤ 140737488351232 ∧ c.po.length * 24 ≤ 140737488351232 ∧ c.us.length * 32 ≤ 140737488351232 ∧ c.own.length * 32 ≤ 140737488351232)
    (hnz : name.size ≤ 140737488351232) (V : Env w) :
    Calls Tryz.prog 7 #[cfgV tv pv uv ov c, .string name] w fun e w' => e = .returned (.bool true) ∧ Below w.heap.size w w' := by
  obtain ⟨tg, po, us, sn, ss, lim, own⟩ := c
  have hsess := fun (W : World) (h : Below w.heap.size w W) => session_any ⟨tg, po, us, sn, ss, lim, own⟩ tv pv uv ov [] (.slice none 0 0) false 0 0 hc hsm h (rd_nil _ _) (fun p hp => by cases hp) V (by decide) (by decide) (fun _ => True) (fun _ => True)
    (fun W hW => (crowded_any ⟨tg, po, us, sn, ss, lim, own⟩ tv pv uv ov W (hc.on hW) hsm).mono fun e w' h => by
      obtain ⟨⟨b, hb⟩, h2⟩ := h
      exact ⟨⟨b, trivial, hb⟩, h2⟩)
    (fun W hv => (thick_any [] _ W hv (fun p hp => by cases hp)).mono fun e w' h => by
      obtain ⟨b, hb, h2⟩ := h
      exact ⟨⟨b, trivial, hb⟩, h2⟩)
  have HSESS := Lib.hid hsess
  have HCC := Lib.hid hc
  obtain ⟨G0, hG0⟩ : ∃ G0, w.heap.size = G0 := ⟨_, rfl⟩
  have hb0 : Below w.heap.size w (w.alloc (.cells #[tv, pv, uv, .string sn, .string ss, .int .i64 lim, ov] 29)) := (Below.refl _ _).alloc (Nat.le_refl _) _
  have hB0 := Blk.new w 29 #[tv, pv, uv, .string sn, .string ss, .int .i64 lim, ov]
  obtain ⟨W0, hW0⟩ : ∃ W : World, w.alloc (.cells #[tv, pv, uv, .string sn, .string ss, .int .i64 lim, ov] 29) = W := ⟨_, rfl⟩
  rw [hW0] at hb0 hB0
  rw [hG0] at hB0
  have V0 := V.on hb0
  have VV := Lib.hid V
  have HB0 := Lib.hid hB0
  have HW0 := Lib.hid hW0
  have HG0 := Lib.hid hG0
  clear hsess hc hB0 hW0 hG0
  unfold cfgV at HSESS ⊢
  simp only at HSESS ⊢
  go_enter Tryz.func7, Tryz.ntmps7
  go_upto_region 1 with (fail)
  try refine wp_worldN HW0.out ?_
  try rw [HG0.out]
  go_wp2_with fail
  refine (opened_any _ V0).mono ?_
  rintro e f0 ⟨rfl, hf0⟩
  have hw0 := below_step hb0 hf0
  have V1 := VV.out.on hw0
  go_wp2_with fail
  refine (listed_any _ V1).mono ?_
  rintro e f1 ⟨rfl, hf1⟩
  have hw1 := below_step hw0 hf1
  have V2 := VV.out.on hw1
  go_wp2_with fail
  refine (paired_fact _ V2.L V2.S).mono ?_
  rintro e f2 ⟨rfl, hf2⟩
  have hw2 := below_step hw1 hf2
  go_wp2_with fail
  refine (value_any name _ hnz).mono ?_
  rintro e f3 ⟨rfl, rfl⟩
  by_cases hvn : valB name.data.toList = true
  rotate_left
  · have hvf : valB name.data.toList = false := by simpa using hvn
    rw [hvf]
    go_wp2_with fail
    go_ret
    exact ⟨rfl, hw2⟩
  rw [hvn]
  by_cases hA : name = allB
  · obtain rfl : name = ⟨#[65, 108, 108]⟩ := hA
    go_wp2_with fail
    go_ret
    exact ⟨rfl, hw2⟩
  have hA2 : (name.toList == [65, 108, 108]) = false := by
    rw [beq_eq_false_iff_ne]
    intro h
    exact hA (by rw [← ba_of name, ← toList_of name, h]; rfl)
  have hC2 := HB0.out.below (below_step (below_step hf0 hf1) hf2) HB0.out.lt
  have HC2 := Lib.hid hC2
  have c0 : f2.cell? ⟨G0, 0, none⟩ = some (tv) := hC2.cell 0
  have c1 : f2.cell? ⟨G0, 1, none⟩ = some (pv) := hC2.cell 1
  have c2 : f2.cell? ⟨G0, 2, none⟩ = some (uv) := hC2.cell 2
  have c3 : f2.cell? ⟨G0, 3, none⟩ = some (.string sn) := hC2.cell 3
  have c4 : f2.cell? ⟨G0, 4, none⟩ = some (.string ss) := hC2.cell 4
  have c5 : f2.cell? ⟨G0, 5, none⟩ = some (.int .i64 lim) := hC2.cell 5
  have c6 : f2.cell? ⟨G0, 6, none⟩ = some (ov) := hC2.cell 6
  clear hC2
  go_wp2_with fail
  refine (HSESS.out f2 hw2).mono ?_
  rintro e w3 ⟨hE, hb3⟩
  obtain ⟨o, rfl, ho⟩ := sess_form hE
  have hw3 := below_step hw2 hb3
  have hF3 := Blk.new w3 33 #[.pointer o]
  have hb3a : Below w3.heap.size w3 (w3.alloc (.cells #[.pointer o] 33)) := (Below.refl _ _).alloc (Nat.le_refl _) _
  obtain ⟨F, hFe⟩ : ∃ F, w3.heap.size = F := ⟨_, rfl⟩
  obtain ⟨W4, hW4⟩ : ∃ W : World, w3.alloc (.cells #[.pointer o] 33) = W := ⟨_, rfl⟩
  rw [hW4] at hb3a hF3
  rw [hFe] at hF3
  have hw4 := below_step hw3 hb3a
  have k0 : W4.cell? ⟨F, 0, none⟩ = some (.pointer o) := hF3.cell 0
  have HW4 := Lib.hid hW4
  have HFE := Lib.hid hFe
  clear hE c0 c1 c2 c3 c4 c5 c6 hW4 hFe
  go_upto_region 6 with (fail)
  try refine wp_worldN HW4.out ?_
  try rw [HFE.out]
  rcases ho with rfl | ⟨f, S, rfl, hI3, hS3⟩
  · go_wp2_with fail
    go_ret
    exact ⟨rfl, hw4⟩
  have hcr : cRight ⟨tg, po, us, sn, ss, lim, own⟩ = none := hI3.ok.cr
  obtain ⟨X, hX⟩ : ∃ X, sessP ⟨tg, po, us, sn, ss, lim, own⟩ [] false 0 0 = X := ⟨_, rfl⟩
  have hcl : X.closed = false := by rw [← hX]; rfl
  have htx : X.txt = ⟨#[]⟩ := by rw [← hX]; rfl
  have hXc : X.conf = ⟨tg, po, us, sn, ss, lim, own⟩ := by rw [← hX]; rfl
  have hXd : X.disc = false := by rw [← hX]; rfl
  have hXn : X.name = iqnB := by rw [← hX]; rfl
  have hXm : mostN X.rc = 8192 := by
    rw [← hX]
    have e : (sessP ⟨tg, po, us, sn, ss, lim, own⟩ [] false 0 0).rc = [] := rfl
    rw [e]
    decide +kernel
  rw [hX] at hI3
  have hI4 := hI3.on hb3a
  have hGS : G0 ∉ S := fun hm => by have h1 := hS3 G0 hm; have h2 := HC2.out.lt; omega
  have hFS : F ∉ S := fun hm => by have h1 := (hI3.lt F hm).1; have h2 := HFE.out; omega
  have HC4 := Lib.hid (HC2.out.below (below_step hb3 hb3a) HC2.out.lt)
  have HF4 := Lib.hid hF3
  have HI4 := Lib.hid hI4
  have hcrX : cRight X.conf = none := by rw [hXc]; exact hcr
  have HLT := Lib.hid (cright_lens hcr)
  clear hI3 hI4 hF3 hS3 hX
  go_wp2_with fail
  refine (pair_mk _ _ _).mono ?_
  rintro e w5 ⟨rfl, hb5⟩
  have hr5 : SRd (w5.alloc (.cells #[.string ⟨#[83, 101, 110, 100, 84, 97, 114, 103, 101, 116, 115]⟩, .string ⟨#[82, 101, 106, 101, 99, 116]⟩] 62)) (.slice (some ⟨w5.heap.size, 0, none⟩) 1 1) 2 1 (pairCells rejL) := SRd.litp (Blk.new _ _ _) rfl rfl (by decide)
  have hb5a : Below w5.heap.size w5 (w5.alloc (.cells #[.string ⟨#[83, 101, 110, 100, 84, 97, 114, 103, 101, 116, 115]⟩, .string ⟨#[82, 101, 106, 101, 99, 116]⟩] 62)) := (Below.refl _ _).alloc (Nat.le_refl _) _
  have hlt5 : w5.heap.size < (w5.alloc (.cells #[.string ⟨#[83, 101, 110, 100, 84, 97, 114, 103, 101, 116, 115]⟩, .string ⟨#[82, 101, 106, 101, 99, 116]⟩] 62)).heap.size := by rw [szA]; omega
  obtain ⟨Q, hQ⟩ : ∃ Q, w5.heap.size = Q := ⟨_, rfl⟩
  obtain ⟨W6, hW6⟩ : ∃ W : World, w5.alloc (.cells #[.string ⟨#[83, 101, 110, 100, 84, 97, 114, 103, 101, 116, 115]⟩, .string ⟨#[82, 101, 106, 101, 99, 116]⟩] 62) = W := ⟨_, rfl⟩
  rw [hW6] at hr5 hb5a hlt5
  rw [hQ] at hr5 hlt5
  have hb46 := below_step hb5 hb5a
  have hI6 := HI4.out.on hb46
  have hrow6 : RowAt W6 S (.slice (some ⟨Q, 0, none⟩) 1 1) rejL := ⟨hr5, fun k hk => by
    have : Q = k := by injection hk
    subst this
    exact ⟨fun hm => by have h1 := (HI4.out.lt Q hm).1; have h2 := hb5.size; omega, hlt5⟩⟩
  have HW6 := Lib.hid hW6
  have HQ := Lib.hid hQ
  have HR6 := Lib.hid hrow6
  have hF6 := HF4.out.below hb46 HF4.out.lt
  have hC6 := HC4.out.below hb46 HC4.out.lt
  have h1 := one_any hI6 VV.out F hF6 allB (by decide) hcl htx hcrX hXm
  rw [send_rej hXd] at h1
  have H1 := Lib.hid (show Calls Tryz.prog 34 #[.string ⟨#[65, 108, 108]⟩, .pointer (some ⟨F, 0, none⟩)] W6 fun e w' => ∃ r Y' S', e = .returned (.tuple #[r, .bool true]) ∧ OneAt w W6 S f F X r rejL w' Y' S' from h1)
  have HF6 := Lib.hid hF6
  have HC6 := Lib.hid hC6
  clear hr5 hb5a hlt5 hW6 hQ hrow6 hI6 hF6 hC6 h1 k0
  go_upto_region 10 with (fail)
  try refine wp_worldN HW6.out ?_
  try rw [HQ.out]
  go_wp2_with fail
  refine H1.out.mono ?_
  rintro e w7 ⟨ra, Y1, S1, rfl, h7⟩
  have hF7 : Blk w7 F 33 _ := (h7.nf.block F HF6.out.lt hFS).trans HF6.out
  have hC7 : Blk w7 G0 29 _ := (h7.nf.block G0 HC6.out.lt hGS).trans HC6.out
  have hFS1 : F ∉ S1 := fun hm => by
    rcases h7.ss F hm with h | h
    · exact hFS h
    · have := HF6.out.lt; omega
  have hGS1 : G0 ∉ S1 := fun hm => by
    rcases h7.ss G0 hm with h | h
    · exact hGS h
    · have := HC6.out.lt; omega
  have hRa7 : RowAt w7 S1 ra rejL := ⟨h7.rd, h7.far⟩
  have hRj7 := HR6.out.nf h7.nf h7.ss
  have hcr1 : cRight Y1.conf = none := by rw [h7.cf]; exact hcrX
  have h2 := one_any h7.i VV.out F hF7 ⟨#[]⟩ (by decide) h7.cl h7.tx hcr1 h7.ms
  have hs2 : sendL Y1 ⟨#[]⟩ = oneL ⟨tg, po, us, sn, ss, lim, own⟩ iqnB := by
    rw [send_like h7.cf h7.nm h7.ds, send_one (o := iqnB) (by decide) (by show (if ([] : List UInt8) = [] then X.name else ⟨#[]⟩) = iqnB; rw [if_pos rfl, hXn]), hXc]
  rw [hs2] at h2
  have H2 := Lib.hid h2
  have HF7 := Lib.hid hF7
  have HC7 := Lib.hid hC7
  have HRA := Lib.hid hRa7
  have HRJ := Lib.hid hRj7
  have hY1c := h7.cf
  have hY1n := h7.nm
  have hY1d := h7.ds
  clear h2 hs2 hF7 hC7 hRa7 hRj7 h7
  go_wp2_with fail
  refine H2.out.mono ?_
  rintro e w8 ⟨rb, Y2, S2, rfl, h8⟩
  have hF8 : Blk w8 F 33 _ := (h8.nf.block F HF7.out.lt hFS1).trans HF7.out
  have hC8 : Blk w8 G0 29 _ := (h8.nf.block G0 HC7.out.lt hGS1).trans HC7.out
  have hFS2 : F ∉ S2 := fun hm => by
    rcases h8.ss F hm with h | h
    · exact hFS1 h
    · have := HF7.out.lt; omega
  have hGS2 : G0 ∉ S2 := fun hm => by
    rcases h8.ss G0 hm with h | h
    · exact hGS1 h
    · have := HC7.out.lt; omega
  have hRb8 : RowAt w8 S2 rb (oneL ⟨tg, po, us, sn, ss, lim, own⟩ iqnB) := ⟨h8.rd, h8.far⟩
  have hRa8 := HRA.out.nf h8.nf h8.ss
  have hRj8 := HRJ.out.nf h8.nf h8.ss
  have hcr2 : cRight Y2.conf = none := by rw [h8.cf]; exact hcr1
  have h3 := one_any h8.i VV.out F hF8 name hvn h8.cl h8.tx hcr2 h8.ms
  obtain ⟨OW, hOW⟩ : ∃ o, (if name.data.toList = [] then iqnB else name) = o := ⟨_, rfl⟩
  have hs3 : sendL Y2 name = oneL ⟨tg, po, us, sn, ss, lim, own⟩ OW := by
    rw [send_like (h8.cf.trans hY1c) (h8.nm.trans hY1n) (h8.ds.trans hY1d), send_one (o := OW) hA (by rw [hXn]; exact hOW), hXc]
  rw [hs3] at h3
  have H3 := Lib.hid h3
  have HF8 := Lib.hid hF8
  have HC8 := Lib.hid hC8
  have HRA8 := Lib.hid hRa8
  have HRB8 := Lib.hid hRb8
  have HRJ8 := Lib.hid hRj8
  clear h3 hs3 hF8 hC8 hRa8 hRb8 hRj8 h8
  go_wp2_with fail
  refine H3.out.mono ?_
  rintro e w9 ⟨rd, Y3, S3, rfl, h9⟩
  have hC9 : Blk w9 G0 29 #[tv, pv, uv, .string sn, .string ss, .int .i64 lim, ov] := (h9.nf.block G0 HC8.out.lt hGS2).trans HC8.out
  have hRd9 : RowAt w9 S3 rd (oneL ⟨tg, po, us, sn, ss, lim, own⟩ OW) := ⟨h9.rd, h9.far⟩
  have HRA9 := Lib.hid (HRA8.out.nf h9.nf h9.ss)
  have HRB9 := Lib.hid (HRB8.out.nf h9.nf h9.ss)
  have HRJ9 := Lib.hid (HRJ8.out.nf h9.nf h9.ss)
  have HRD9 := Lib.hid hRd9
  have hb9 := h9.i.b
  have V9 := VV.out.on hb9
  have hlim : (tg.length * (po.length + 1) + 1) * 32 ≤ 140737488355328 := by
    have h1 := HLT.out.1
    have h2 := HLT.out.2
    try simp only at h1 h2
    have h3 : tg.length * (po.length + 1) ≤ 8 * 5 := Nat.mul_le_mul h1 (by omega)
    omega
  have hti := fun (i : BW w9) (x : ByteArray) => tlist_any ⟨tg, po, us, sn, ss, lim, own⟩ tv pv uv ov x false i.v (HCC.out.on (below_step hb9 i.h)) hsm (V9.on i.h).T hlim
  unfold cfgV at hti
  have HTI := Lib.hid hti
  have HC9 := Lib.hid hC9
  have c0 : w9.cell? ⟨G0, 0, none⟩ = some (tv) := hC9.cell 0
  have c1 : w9.cell? ⟨G0, 1, none⟩ = some (pv) := hC9.cell 1
  have c2 : w9.cell? ⟨G0, 2, none⟩ = some (uv) := hC9.cell 2
  have c3 : w9.cell? ⟨G0, 3, none⟩ = some (.string sn) := hC9.cell 3
  have c4 : w9.cell? ⟨G0, 4, none⟩ = some (.string ss) := hC9.cell 4
  have c5 : w9.cell? ⟨G0, 5, none⟩ = some (.int .i64 lim) := hC9.cell 5
  have c6 : w9.cell? ⟨G0, 6, none⟩ = some (ov) := hC9.cell 6
  clear hti hC9 hRd9 h9
  have hnm : (name.data.toList = [] ∧ name = ⟨#[]⟩ ∧ OW = iqnB) ∨ (¬ name = ⟨#[]⟩ ∧ name = OW) := by
    by_cases h : name.data.toList = []
    · rw [if_pos h] at hOW
      exact .inl ⟨h, by rw [← ba_of name, h]; rfl, hOW.symm⟩
    · rw [if_neg h] at hOW
      exact .inr ⟨fun h2 => h (by rw [h2]), hOW⟩
  clear hOW
  rcases hnm with ⟨_, rfl, rfl⟩ | ⟨hne, rfl⟩
  · skip
    go_wp2_with fail
    refine (HTI.out ⟨w9, Below.refl _ _⟩ iqnB).mono ?_
    rintro e w10 ⟨hli, hb10⟩
    have hli := list_either hli
    have hC10 := HC9.out.below hb10 HC9.out.lt
    have d0 : w10.cell? ⟨G0, 0, none⟩ = some (tv) := hC10.cell 0
    have d1 : w10.cell? ⟨G0, 1, none⟩ = some (pv) := hC10.cell 1
    have d2 : w10.cell? ⟨G0, 2, none⟩ = some (uv) := hC10.cell 2
    have d3 : w10.cell? ⟨G0, 3, none⟩ = some (.string sn) := hC10.cell 3
    have d4 : w10.cell? ⟨G0, 4, none⟩ = some (.string ss) := hC10.cell 4
    have d5 : w10.cell? ⟨G0, 5, none⟩ = some (.int .i64 lim) := hC10.cell 5
    have d6 : w10.cell? ⟨G0, 6, none⟩ = some (ov) := hC10.cell 6
    clear c0 c1 c2 c3 c4 c5 c6 hC10
    rcases hli with ⟨va, rfl, hva⟩ | ⟨rfl, hna⟩
    · go_wp2_with fail
      refine (HTI.out ⟨w10, hb10⟩ iqnB).mono ?_
      rintro e w11 ⟨hlj, hb11⟩
      have hlj := list_either hlj
      have hb911 := below_step hb10 hb11
      rcases hlj with ⟨vb, rfl, hvb⟩ | ⟨rfl, hnb⟩
      · have HE1 := Lib.hid (fun (i : BW w11) => pequal_same rejL ra _ i.v ((HRA9.out.on (below_step hb911 i.h)).1) ((HRJ9.out.on (below_step hb911 i.h)).1))
        have hB1 := (HRB9.out.on hb911).1
        have hD1 := (HRD9.out.on hb911).1
        have HE2 := Lib.hid (fun (i : BW w11) => pequal_same _ rb _ i.v (hB1.on i.h) (SRd.on (hva.on hb11) i.h))
        have HE3 := Lib.hid (fun (i : BW w11) => pequal_same _ rd _ i.v (hD1.on i.h) (SRd.on hvb i.h))
        clear hB1 hD1 d0 d1 d2 d3 d4 d5 d6
        go_wp2_with fail
        refine (HE1.out ⟨w11, Below.refl _ _⟩).mono ?_
        rintro e w12 ⟨rfl, n1, rfl⟩
        go_wp2_with fail
        refine (HE2.out ⟨_, below_dK (Below.refl _ _) _⟩).mono ?_
        rintro e w13 ⟨rfl, n2, rfl⟩
        go_wp2_with fail
        refine (HE3.out ⟨_, below_dK (Below.refl _ _) _⟩).mono ?_
        rintro e w14 ⟨rfl, n3, rfl⟩
        go_wp2_with fail
        go_ret
        exact ⟨by simp, below_step hb9 (below_dK hb911 _)⟩
      · have HE1 := Lib.hid (fun (i : BW w11) => pequal_same rejL ra _ i.v ((HRA9.out.on (below_step hb911 i.h)).1) ((HRJ9.out.on (below_step hb911 i.h)).1))
        have hB1 := (HRB9.out.on hb911).1
        have hD1 := (HRD9.out.on hb911).1
        rw [hnb] at hD1
        have HE2 := Lib.hid (fun (i : BW w11) => pequal_same _ rb _ i.v (hB1.on i.h) (SRd.on (hva.on hb11) i.h))
        have HE3 := Lib.hid (fun (i : BW w11) => pequal_same _ rd _ i.v (hD1.on i.h) (SRd.on ((HRJ9.out.on hb911).1) i.h))
        clear hB1 hD1 d0 d1 d2 d3 d4 d5 d6
        go_wp2_with fail
        refine (HE1.out ⟨w11, Below.refl _ _⟩).mono ?_
        rintro e w12 ⟨rfl, n1, rfl⟩
        go_wp2_with fail
        refine (HE2.out ⟨_, below_dK (Below.refl _ _) _⟩).mono ?_
        rintro e w13 ⟨rfl, n2, rfl⟩
        go_wp2_with fail
        refine (HE3.out ⟨_, below_dK (Below.refl _ _) _⟩).mono ?_
        rintro e w14 ⟨rfl, n3, rfl⟩
        go_wp2_with fail
        go_ret
        exact ⟨by simp, below_step hb9 (below_dK hb911 _)⟩
    · go_wp2_with fail
      refine (HTI.out ⟨w10, hb10⟩ iqnB).mono ?_
      rintro e w11 ⟨hlj, hb11⟩
      have hlj := list_either hlj
      have hb911 := below_step hb10 hb11
      rcases hlj with ⟨vb, rfl, hvb⟩ | ⟨rfl, hnb⟩
      · have HE1 := Lib.hid (fun (i : BW w11) => pequal_same rejL ra _ i.v ((HRA9.out.on (below_step hb911 i.h)).1) ((HRJ9.out.on (below_step hb911 i.h)).1))
        have hB1 := (HRB9.out.on hb911).1
        have hD1 := (HRD9.out.on hb911).1
        rw [hna] at hB1
        have HE2 := Lib.hid (fun (i : BW w11) => pequal_same _ rb _ i.v (hB1.on i.h) (SRd.on ((HRJ9.out.on hb911).1) i.h))
        have HE3 := Lib.hid (fun (i : BW w11) => pequal_same _ rd _ i.v (hD1.on i.h) (SRd.on hvb i.h))
        clear hB1 hD1 d0 d1 d2 d3 d4 d5 d6
        go_wp2_with fail
        refine (HE1.out ⟨w11, Below.refl _ _⟩).mono ?_
        rintro e w12 ⟨rfl, n1, rfl⟩
        go_wp2_with fail
        refine (HE2.out ⟨_, below_dK (Below.refl _ _) _⟩).mono ?_
        rintro e w13 ⟨rfl, n2, rfl⟩
        go_wp2_with fail
        refine (HE3.out ⟨_, below_dK (Below.refl _ _) _⟩).mono ?_
        rintro e w14 ⟨rfl, n3, rfl⟩
        go_wp2_with fail
        go_ret
        exact ⟨by simp, below_step hb9 (below_dK hb911 _)⟩
      · have HE1 := Lib.hid (fun (i : BW w11) => pequal_same rejL ra _ i.v ((HRA9.out.on (below_step hb911 i.h)).1) ((HRJ9.out.on (below_step hb911 i.h)).1))
        have hB1 := (HRB9.out.on hb911).1
        have hD1 := (HRD9.out.on hb911).1
        rw [hna] at hB1
        rw [hnb] at hD1
        have HE2 := Lib.hid (fun (i : BW w11) => pequal_same _ rb _ i.v (hB1.on i.h) (SRd.on ((HRJ9.out.on hb911).1) i.h))
        have HE3 := Lib.hid (fun (i : BW w11) => pequal_same _ rd _ i.v (hD1.on i.h) (SRd.on ((HRJ9.out.on hb911).1) i.h))
        clear hB1 hD1 d0 d1 d2 d3 d4 d5 d6
        go_wp2_with fail
        refine (HE1.out ⟨w11, Below.refl _ _⟩).mono ?_
        rintro e w12 ⟨rfl, n1, rfl⟩
        go_wp2_with fail
        refine (HE2.out ⟨_, below_dK (Below.refl _ _) _⟩).mono ?_
        rintro e w13 ⟨rfl, n2, rfl⟩
        go_wp2_with fail
        refine (HE3.out ⟨_, below_dK (Below.refl _ _) _⟩).mono ?_
        rintro e w14 ⟨rfl, n3, rfl⟩
        go_wp2_with fail
        go_ret
        exact ⟨by simp, below_step hb9 (below_dK hb911 _)⟩
  · have hne2 : name.toList.isEmpty = false := by
      rw [toList_of]
      rcases h : name.data.toList with _ | ⟨x, l⟩
      · exact absurd (by rw [← ba_of name, h]; rfl) hne
      · rfl
    have hne3 : (name.toList == []) = false := by
      rw [beq_eq_false_iff_ne]
      intro h
      rw [h] at hne2
      cases hne2
    go_wp2_with fail
    refine (HTI.out ⟨w9, Below.refl _ _⟩ iqnB).mono ?_
    rintro e w10 ⟨hli, hb10⟩
    have hli := list_either hli
    have hC10 := HC9.out.below hb10 HC9.out.lt
    have d0 : w10.cell? ⟨G0, 0, none⟩ = some (tv) := hC10.cell 0
    have d1 : w10.cell? ⟨G0, 1, none⟩ = some (pv) := hC10.cell 1
    have d2 : w10.cell? ⟨G0, 2, none⟩ = some (uv) := hC10.cell 2
    have d3 : w10.cell? ⟨G0, 3, none⟩ = some (.string sn) := hC10.cell 3
    have d4 : w10.cell? ⟨G0, 4, none⟩ = some (.string ss) := hC10.cell 4
    have d5 : w10.cell? ⟨G0, 5, none⟩ = some (.int .i64 lim) := hC10.cell 5
    have d6 : w10.cell? ⟨G0, 6, none⟩ = some (ov) := hC10.cell 6
    clear c0 c1 c2 c3 c4 c5 c6 hC10
    rcases hli with ⟨va, rfl, hva⟩ | ⟨rfl, hna⟩
    · go_wp2_with fail
      refine (HTI.out ⟨w10, hb10⟩ name).mono ?_
      rintro e w11 ⟨hlj, hb11⟩
      have hlj := list_either hlj
      have hb911 := below_step hb10 hb11
      rcases hlj with ⟨vb, rfl, hvb⟩ | ⟨rfl, hnb⟩
      · have HE1 := Lib.hid (fun (i : BW w11) => pequal_same rejL ra _ i.v ((HRA9.out.on (below_step hb911 i.h)).1) ((HRJ9.out.on (below_step hb911 i.h)).1))
        have hB1 := (HRB9.out.on hb911).1
        have hD1 := (HRD9.out.on hb911).1
        have HE2 := Lib.hid (fun (i : BW w11) => pequal_same _ rb _ i.v (hB1.on i.h) (SRd.on (hva.on hb11) i.h))
        have HE3 := Lib.hid (fun (i : BW w11) => pequal_same _ rd _ i.v (hD1.on i.h) (SRd.on hvb i.h))
        clear hB1 hD1 d0 d1 d2 d3 d4 d5 d6
        go_wp2_with fail
        refine (HE1.out ⟨w11, Below.refl _ _⟩).mono ?_
        rintro e w12 ⟨rfl, n1, rfl⟩
        go_wp2_with fail
        refine (HE2.out ⟨_, below_dK (Below.refl _ _) _⟩).mono ?_
        rintro e w13 ⟨rfl, n2, rfl⟩
        go_wp2_with fail
        refine (HE3.out ⟨_, below_dK (Below.refl _ _) _⟩).mono ?_
        rintro e w14 ⟨rfl, n3, rfl⟩
        go_wp2_with fail
        go_ret
        exact ⟨by simp, below_step hb9 (below_dK hb911 _)⟩
      · have HE1 := Lib.hid (fun (i : BW w11) => pequal_same rejL ra _ i.v ((HRA9.out.on (below_step hb911 i.h)).1) ((HRJ9.out.on (below_step hb911 i.h)).1))
        have hB1 := (HRB9.out.on hb911).1
        have hD1 := (HRD9.out.on hb911).1
        rw [hnb] at hD1
        have HE2 := Lib.hid (fun (i : BW w11) => pequal_same _ rb _ i.v (hB1.on i.h) (SRd.on (hva.on hb11) i.h))
        have HE3 := Lib.hid (fun (i : BW w11) => pequal_same _ rd _ i.v (hD1.on i.h) (SRd.on ((HRJ9.out.on hb911).1) i.h))
        clear hB1 hD1 d0 d1 d2 d3 d4 d5 d6
        go_wp2_with fail
        refine (HE1.out ⟨w11, Below.refl _ _⟩).mono ?_
        rintro e w12 ⟨rfl, n1, rfl⟩
        go_wp2_with fail
        refine (HE2.out ⟨_, below_dK (Below.refl _ _) _⟩).mono ?_
        rintro e w13 ⟨rfl, n2, rfl⟩
        go_wp2_with fail
        refine (HE3.out ⟨_, below_dK (Below.refl _ _) _⟩).mono ?_
        rintro e w14 ⟨rfl, n3, rfl⟩
        go_wp2_with fail
        go_ret
        exact ⟨by simp, below_step hb9 (below_dK hb911 _)⟩
    · go_wp2_with fail
      refine (HTI.out ⟨w10, hb10⟩ name).mono ?_
      rintro e w11 ⟨hlj, hb11⟩
      have hlj := list_either hlj
      have hb911 := below_step hb10 hb11
      rcases hlj with ⟨vb, rfl, hvb⟩ | ⟨rfl, hnb⟩
      · have HE1 := Lib.hid (fun (i : BW w11) => pequal_same rejL ra _ i.v ((HRA9.out.on (below_step hb911 i.h)).1) ((HRJ9.out.on (below_step hb911 i.h)).1))
        have hB1 := (HRB9.out.on hb911).1
        have hD1 := (HRD9.out.on hb911).1
        rw [hna] at hB1
        have HE2 := Lib.hid (fun (i : BW w11) => pequal_same _ rb _ i.v (hB1.on i.h) (SRd.on ((HRJ9.out.on hb911).1) i.h))
        have HE3 := Lib.hid (fun (i : BW w11) => pequal_same _ rd _ i.v (hD1.on i.h) (SRd.on hvb i.h))
        clear hB1 hD1 d0 d1 d2 d3 d4 d5 d6
        go_wp2_with fail
        refine (HE1.out ⟨w11, Below.refl _ _⟩).mono ?_
        rintro e w12 ⟨rfl, n1, rfl⟩
        go_wp2_with fail
        refine (HE2.out ⟨_, below_dK (Below.refl _ _) _⟩).mono ?_
        rintro e w13 ⟨rfl, n2, rfl⟩
        go_wp2_with fail
        refine (HE3.out ⟨_, below_dK (Below.refl _ _) _⟩).mono ?_
        rintro e w14 ⟨rfl, n3, rfl⟩
        go_wp2_with fail
        go_ret
        exact ⟨by simp, below_step hb9 (below_dK hb911 _)⟩
      · have HE1 := Lib.hid (fun (i : BW w11) => pequal_same rejL ra _ i.v ((HRA9.out.on (below_step hb911 i.h)).1) ((HRJ9.out.on (below_step hb911 i.h)).1))
        have hB1 := (HRB9.out.on hb911).1
        have hD1 := (HRD9.out.on hb911).1
        rw [hna] at hB1
        rw [hnb] at hD1
        have HE2 := Lib.hid (fun (i : BW w11) => pequal_same _ rb _ i.v (hB1.on i.h) (SRd.on ((HRJ9.out.on hb911).1) i.h))
        have HE3 := Lib.hid (fun (i : BW w11) => pequal_same _ rd _ i.v (hD1.on i.h) (SRd.on ((HRJ9.out.on hb911).1) i.h))
        clear hB1 hD1 d0 d1 d2 d3 d4 d5 d6
        go_wp2_with fail
        refine (HE1.out ⟨w11, Below.refl _ _⟩).mono ?_
        rintro e w12 ⟨rfl, n1, rfl⟩
        go_wp2_with fail
        refine (HE2.out ⟨_, below_dK (Below.refl _ _) _⟩).mono ?_
        rintro e w13 ⟨rfl, n2, rfl⟩
        go_wp2_with fail
        refine (HE3.out ⟨_, below_dK (Below.refl _ _) _⟩).mono ?_
        rintro e w14 ⟨rfl, n3, rfl⟩
        go_wp2_with fail
        go_ret
        exact ⟨by simp, below_step hb9 (below_dK hb911 _)⟩
end Go.Proofs.YtamlepacljjpiaaGreatDoor
