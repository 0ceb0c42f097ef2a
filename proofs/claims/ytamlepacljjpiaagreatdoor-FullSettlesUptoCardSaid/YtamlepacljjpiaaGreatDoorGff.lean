/- FullAsk2 FullPairs FullNg FullSm FullSays FullAny. -/
import Derived.Test.YtamlepacljjpiaaGreatDoorGfe
import Derived.Test.YtamlepacljjpiaaGreatDoorNegoW8
import Derived.Lib.ItoaLen
import Derived.Test.YtamlepacljjpiaaGreatDoorGfc
/- full's ask, where no tag is there: what is gathered. -/
namespace Go.Proofs.YtamlepacljjpiaaGreatDoor
open Go.ChangeShapes Go.WideShapes Go.ChangeAt Go.RowKit Go.Shelf
set_option linter.unusedVariables false
set_option linter.unusedSimpArgs false
theorem parse_four : ∀ (f : Nat) (s : List UInt8) (i c : Nat), parseGo f s i = .inl (c, none) → c = 4
  | 0, s, i, c, h => by cases h
  | f + 1, s, i, c, h => by
    rw [parseGo] at h
    split at h
    · cases h
    · split at h
      · cases h
      · split at h
        · cases h
        · split at h
          · cases h; rfl
          · split at h
            · cases h
            · split at h
              · rename_i e he
                cases h
                exact parse_four f _ _ _ he
              · cases h
theorem perr_four {w : World} {base : Nat} {er : Value} {c : Nat} {o : Option Nat} (h : PErr w base er (some (c, o))) (hc : o = none → c = 4) : ∃ t x, er = .iface t x := by
  rcases o with _ | p
  · obtain rfl := hc rfl
    exact ⟨_, _, h⟩
  · obtain ⟨g, _, h, _⟩ := h
    exact ⟨_, _, h⟩
/- the session behind Add: its pieces are gone -/
def Added (w0 w w' : World) (f gn gt g : Nat) (Sn : List Nat) (tv pv uv ov : Value) (X : FP) (T : ByteArray) (x : PD × PdPart) : Prop :=
  FullX w0 w' f gn gt Sn tv pv uv ov (.slice none 0 0) { X with pcs := [], txt := T } ∧ NF (fS f gt Sn) w w' ∧ Blk w' g 41 (pdC x).toArray ∧ PdOk w' x
theorem added_of {w0 w W2 W w3 : World} {f gn gt g : Nat} {Sn : List Nat} {tv pv uv ov : Value} {X : FP} {T : ByteArray} {x : PD × PdPart} (h2 : FullX w0 W2 f gn gt Sn tv pv uv ov (.slice none 0 0) { X with pcs := [] }) (hn : NF (fS f gt Sn) w W2) (hB : Blk W2 g 41 (pdC x).toArray) (hp : PdOk W2 x) (hfar : PdFar (fS f gt Sn) x) (hg : g ∉ fS f gt Sn)
    (hW : Below W2.heap.size W2 W) (hgr : W.grownBy w3 (some gt)) (hG : GBlk w3 gt T 8192) (hb : Below w0.heap.size w0 w3) (hT : T.size ≤ 8192) : Added w0 w w3 f gn gt g Sn tv pv uv ov X T x := by
  have h3 := (h2.on hW).text hG hb hgr hT (fun hn => absurd hn (by simp))
  have hnf : NF [gt] W w3 := NF.grown (NF.refl [gt] W) hgr (fun x hx => .inl (by injection hx with hx; simp [hx]))
  have hgt : g ≠ gt := fun e => hg (by rw [e]; simp [fS])
  refine ⟨h3, (hn.then_below hW).trans hnf (fun x hx => .inl (by simp only [List.mem_singleton] at hx; rw [hx]; simp [fS])), ?_, ?_⟩
  · exact (hnf.block g (Nat.lt_of_lt_of_le hB.lt hW.size) (by simpa using hgt)).trans (hB.below hW hB.lt)
  · exact (hp.on hW).nf hnf (hfar.less (fun k hk => by simp only [List.mem_singleton] at hk; rw [hk]; simp [fS]))
set_option maxRecDepth 20000 in
set_option maxHeartbeats 8000000 in
theorem fask_full {w0 w : World} {f gn gt : Nat} {Sn : List Nat} {tv pv uv ov pc : Value} {X : FP} (h : FullX w0 w f gn gt Sn tv pv uv ov pc X) (V : Env w0) (x : PD × PdPart) (hp : PdOk w x) (hfar : PdFar (fS f gt Sn) x) (hop : x.1.op = 4) (hright : rightR x.1.op x.1.now x.1.fl x.1.vals = none) (hsz : x.1.data.size ≤ 100000) (hT : fN x.1.vals 2 = noneN) (hfull : 8192 < X.txt.size + x.1.data.size) :
    Calls Tryz.prog 51 #[.pointer (some ⟨f, 0, none⟩), pdV x] w fun e w' => DidX w0 w (fS f gt Sn) f ([(askP X x.1 (headS x.1)).1], (askP X x.1 (headS x.1)).2) e w' := by
  obtain ⟨a, b, c, d, e0, hvals, hb32, hc32, _, _⟩ := vals4 (hop ▸ hright)
  obtain ⟨g, hg⟩ : ∃ g, w.heap.size = g := ⟨_, rfl⟩
  have hfl := fl4 (hop ▸ hright) hp.2.1.2
  obtain ⟨hmo, hla⟩ := more_bits hfl
  have hvT : valGo r4.2.2.2 x.1.vals nTTT.data.toList = .inr c := by rw [hvals]; exact val4.2.2.1
  have hvI : valGo r4.2.2.2 x.1.vals nITT.data.toList = .inr b := by rw [hvals]; exact val4.2.1
  have hf2 : fN x.1.vals 2 = c := by rw [hvals]; rfl
  have hf1 : fN x.1.vals 1 = b := by rw [hvals]; rfl
  rw [hf2] at hT
  subst hT
  have hrow : headRow x.1.op = some r4 := by rw [hop]; exact row4
  have hb0 : Below w.heap.size w (w.alloc (.cells (pdC x).toArray 41)) := (Below.refl _ _).alloc (Nat.le_refl _) _
  have hB0 : Blk (w.alloc (.cells (pdC x).toArray 41)) g 41 (pdC x).toArray := by rw [← hg]; exact Blk.new w _ _
  obtain ⟨W0, hW0⟩ : ∃ W : World, w.alloc (.cells (pdC x).toArray 41) = W := ⟨_, rfl⟩
  rw [hW0] at hb0 hB0
  have hgS : g ∉ fS f gt Sn := fun hm => by have := (h.lt g hm).1; omega
  have hgf : g ≠ f := fun e => hgS (by rw [e]; simp [fS])
  have hX0 := h.on hb0
  have hp0 := hp.on hb0
  have V0 := V.on hX0.b
  have hval : Calls Tryz.prog 54 #[pdV x, .string nTTT] W0 fun e w' => e = .returned (.int .u64 4294967295) ∧ Below W0.heap.size W0 w' := fval_any x r4 nTTT noneN hrow hvT W0 hp0 V0.T V0.S
  have hcells := fun (W : World) (hb : Below W0.heap.size W0 W) => pd_cells (hB0.below hb hB0.lt)
  have hds : x.1.data.size ≤ 140737488351232 := hp.2.2.2.2.2.2.2
  have htx := h.ok.tx
  have hgg := h.gg
  have hset : ∀ w1, Below W0.heap.size W0 w1 → FullX w0 (w1.setCell ⟨f, 13, none⟩ (.slice none 0 0)) f gn gt Sn tv pv uv ov (.slice none 0 0) { X with pcs := [] } ∧ NF (fS f gt Sn) w (w1.setCell ⟨f, 13, none⟩ (.slice none 0 0)) ∧ Blk (w1.setCell ⟨f, 13, none⟩ (.slice none 0 0)) g 41 (pdC x).toArray ∧ PdOk (w1.setCell ⟨f, 13, none⟩ (.slice none 0 0)) x := by
    intro w1 hb1
    have hX1 := hX0.on hb1
    have hnf : NF (fS f gt Sn) w1 (w1.setCell ⟨f, 13, none⟩ (.slice none 0 0)) := (NF.refl _ _).put (.inl (by simp [fS])) 13 _
    exact ⟨hX1.put 13 (.slice none 0 0) (pc' := .slice none 0 0) (X' := { X with pcs := [] }) rfl rfl rfl rfl rfl (SRd.of_m (MRow.nil _ 0 9 1)) (fun k hk => by cases hk) (none_ok hX1.ok) PcTy.zero, (NF.of_below (below_step hb0 hb1)).trans hnf (fun x hx => .inl hx), (hB0.below hb1 hB0.lt).far (p := ⟨f, 13, none⟩) hgf _, (hp0.on hb1).nf hnf hfar⟩
  have hadd : ∀ W2 W, FullX w0 W2 f gn gt Sn tv pv uv ov (.slice none 0 0) { X with pcs := [] } → NF (fS f gt Sn) w W2 → Blk W2 g 41 (pdC x).toArray → PdOk W2 x → Below W2.heap.size W2 W → Calls Tryz.prog 68 #[.pointer (some ⟨gt, 0, none⟩), .string x.1.data, .bool (moreB x.1.fl)] W fun e w' => e = .returned (.tuple #[.slice none 0 0, .iface 56 (.int .i64 12)]) ∧ Added w0 w w' f gn gt g Sn tv pv uv ov X ⟨#[]⟩ x := by
    intro W2 W h2 hn hB hpx hW
    have h2W := h2.on hW
    refine (gadd_full gt X.txt x.1.data 8192 (moreB x.1.fl) W w0 h2W.gb (by omega) (by omega) hds (by omega) h2W.b hgg).mono ?_
    rintro e w' ⟨he, hG, hb, hgr⟩
    exact ⟨he, added_of h2 hn hB hpx hfar hgS hW hgr hG hb (Nat.zero_le _)⟩
  obtain ⟨A, cap, hu⟩ := pd_form hp
  have HV := Lib.hid hval
  have HC := Lib.hid hcells
  have HSET := Lib.hid hset
  have HADD := Lib.hid hadd
  have HB := Lib.hid hb0
  have HX := Lib.hid hX0
  have hcf := hX0.fb.cell 13
  have HFAR := Lib.hid hfar
  have HRI := Lib.hid hright
  have HROW := Lib.hid hrow
  have HVI := Lib.hid hvI
  have hask : askP X x.1 (headS x.1) = (rejA X 4 (headS x.1), { X.up with pcs := [], txt := ⟨#[]⟩ }) := by
    unfold askP
    rw [if_pos hf2]
    unfold addPF
    rw [if_pos hfull]
  have href := fun (W : World) (h : Added w0 w W f gn gt g Sn tv pv uv ov X ⟨#[]⟩ x) => frefuse_any h.1 V x h.2.2.2 hright hsz 4 (by decide)
  obtain ⟨Y, hY⟩ : ∃ Y, headS x.1 = Y := ⟨_, rfl⟩
  rw [hask]
  rw [hY] at href ⊢
  have HREF := Lib.hid href
  obtain ⟨MO, hMO⟩ : ∃ m, moreB x.1.fl = m := ⟨_, rfl⟩
  rw [hMO] at hmo HADD
  clear hask href hY hfull
  clear hval hcells hset hadd hvals hvT hf2 hrow hX0 hp0 hB0 hp h hright hfl hfar hvI hcf
  obtain ⟨⟨op, now, fl, vals, al, data⟩, ⟨u, av⟩⟩ := x
  simp only at hu hop hsz hmo hla hds
  subst hu
  subst hop
  obtain ⟨c0, c1, c2, c3, c4, c5⟩ := HC.out W0 (Below.refl _ _)
  try simp only at c0 c1 c2 c3 c4 c5
  go_enter Tryz.func51, Tryz.ntmps51
  go_upto_region 1 with (fail)
  try refine wp_worldN hW0 ?_
  try rw [hg]
  go_wp2_with fail
  refine HV.out.mono ?_
  rintro e w1 ⟨rfl, hb1⟩
  obtain ⟨h2, hn2, hB2, hp2⟩ := HSET.out w1 hb1
  have cf : w1.cell? ⟨f, 13, none⟩ = some pc := (HX.out.on hb1).fb.cell 13
  have ff := (HX.out.on hb1).fb.frozen 13
  obtain ⟨W2, hW2⟩ : ∃ W : World, w1.setCell ⟨f, 13, none⟩ (.slice none 0 0) = W := ⟨_, rfl⟩
  rw [hW2] at h2 hn2 hB2 hp2
  have k12 : W2.cell? ⟨f, 12, none⟩ = some (.pointer (some ⟨gt, 0, none⟩)) := h2.fb.cell 12
  have k5 : W2.cell? ⟨g, 5, none⟩ = some (.string data) := hB2.cell 5
  have HAD := Lib.hid (show ∀ W, W = W2 ∨ W = W2.drew → Calls Tryz.prog 68 #[.pointer (some ⟨gt, 0, none⟩), .string data, .bool MO] W fun e w' => e = .returned (.tuple #[.slice none 0 0, .iface 56 (.int .i64 12)]) ∧ Added w0 w w' f gn gt g Sn tv pv uv ov X ⟨#[]⟩ (⟨4, now, fl, vals, al, data⟩, ⟨.slice A vals.length cap, av⟩) from fun W hW => HADD.out W2 W h2 hn2 hB2 hp2 (by rcases hW with rfl | rfl; exact Below.refl _ _; exact (Below.refl _ _).drew))
  clear c0 c1 c2 c3 c4 c5 h2 hn2 hB2 hp2 hb1
  go_upto_region 8 with (fail)
  try refine wp_worldN hW2 ?_
  go_region_held3 (fun w' => w'.cell? ⟨f, 12, none⟩ = some (.pointer (some ⟨gt, 0, none⟩)) ∧ w'.cell? ⟨g, 5, none⟩ = some (.string data)) (first | go_keep | exact ⟨k12, k5⟩ | exact kk) ((first | (go_at_call 68; (with_reducible refine (HAD.out _ (by first | exact .inl rfl | exact .inr rfl)).mono ?_); rintro e w3 ⟨rfl, hAD⟩; have kk : w3.cell? ⟨f, 12, none⟩ = some (.pointer (some ⟨gt, 0, none⟩)) ∧ w3.cell? ⟨g, 5, none⟩ = some (.string data) := ⟨hAD.1.fb.cell 12, hAD.2.2.1.cell 5⟩)))
  obtain ⟨j0, j1, j2, j3, j4, j5⟩ := pd_cells hAD.2.2.1
  try simp only at j0 j1 j2 j3 j4 j5
  go_wp2_with fail
  refine (HREF.out w3 hAD).mono ?_
  rintro e w4 ⟨v, rfl, hD⟩
  go_wp2_with fail
  go_ret
  exact ⟨v, rfl, hD.back hAD.2.1⟩
set_option maxRecDepth 20000 in
set_option maxHeartbeats 8000000 in
theorem fask_more {w0 w : World} {f gn gt : Nat} {Sn : List Nat} {tv pv uv ov pc : Value} {X : FP} (h : FullX w0 w f gn gt Sn tv pv uv ov pc X) (V : Env w0) (x : PD × PdPart) (hp : PdOk w x) (hfar : PdFar (fS f gt Sn) x) (hop : x.1.op = 4) (hright : rightR x.1.op x.1.now x.1.fl x.1.vals = none) (hsz : x.1.data.size ≤ 100000) (hT : fN x.1.vals 2 = noneN) (hfit : X.txt.size + x.1.data.size ≤ 8192) (hmore : moreB x.1.fl = true) :
    Calls Tryz.prog 51 #[.pointer (some ⟨f, 0, none⟩), pdV x] w fun e w' => DidX w0 w (fS f gt Sn) f ([(askP X x.1 (headS x.1)).1], (askP X x.1 (headS x.1)).2) e w' := by
  obtain ⟨a, b, c, d, e0, hvals, hb32, hc32, _, _⟩ := vals4 (hop ▸ hright)
  obtain ⟨g, hg⟩ : ∃ g, w.heap.size = g := ⟨_, rfl⟩
  have hfl := fl4 (hop ▸ hright) hp.2.1.2
  obtain ⟨hmo, hla⟩ := more_bits hfl
  have hvT : valGo r4.2.2.2 x.1.vals nTTT.data.toList = .inr c := by rw [hvals]; exact val4.2.2.1
  have hvI : valGo r4.2.2.2 x.1.vals nITT.data.toList = .inr b := by rw [hvals]; exact val4.2.1
  have hf2 : fN x.1.vals 2 = c := by rw [hvals]; rfl
  have hf1 : fN x.1.vals 1 = b := by rw [hvals]; rfl
  rw [hf2] at hT
  subst hT
  have hrow : headRow x.1.op = some r4 := by rw [hop]; exact row4
  have hb0 : Below w.heap.size w (w.alloc (.cells (pdC x).toArray 41)) := (Below.refl _ _).alloc (Nat.le_refl _) _
  have hB0 : Blk (w.alloc (.cells (pdC x).toArray 41)) g 41 (pdC x).toArray := by rw [← hg]; exact Blk.new w _ _
  obtain ⟨W0, hW0⟩ : ∃ W : World, w.alloc (.cells (pdC x).toArray 41) = W := ⟨_, rfl⟩
  rw [hW0] at hb0 hB0
  have hgS : g ∉ fS f gt Sn := fun hm => by have := (h.lt g hm).1; omega
  have hgf : g ≠ f := fun e => hgS (by rw [e]; simp [fS])
  have hX0 := h.on hb0
  have hp0 := hp.on hb0
  have V0 := V.on hX0.b
  have hval : Calls Tryz.prog 54 #[pdV x, .string nTTT] W0 fun e w' => e = .returned (.int .u64 4294967295) ∧ Below W0.heap.size W0 w' := fval_any x r4 nTTT noneN hrow hvT W0 hp0 V0.T V0.S
  have hcells := fun (W : World) (hb : Below W0.heap.size W0 W) => pd_cells (hB0.below hb hB0.lt)
  have hds : x.1.data.size ≤ 140737488351232 := hp.2.2.2.2.2.2.2
  have htx := h.ok.tx
  have hgg := h.gg
  have hset : ∀ w1, Below W0.heap.size W0 w1 → FullX w0 (w1.setCell ⟨f, 13, none⟩ (.slice none 0 0)) f gn gt Sn tv pv uv ov (.slice none 0 0) { X with pcs := [] } ∧ NF (fS f gt Sn) w (w1.setCell ⟨f, 13, none⟩ (.slice none 0 0)) ∧ Blk (w1.setCell ⟨f, 13, none⟩ (.slice none 0 0)) g 41 (pdC x).toArray ∧ PdOk (w1.setCell ⟨f, 13, none⟩ (.slice none 0 0)) x := by
    intro w1 hb1
    have hX1 := hX0.on hb1
    have hnf : NF (fS f gt Sn) w1 (w1.setCell ⟨f, 13, none⟩ (.slice none 0 0)) := (NF.refl _ _).put (.inl (by simp [fS])) 13 _
    exact ⟨hX1.put 13 (.slice none 0 0) (pc' := .slice none 0 0) (X' := { X with pcs := [] }) rfl rfl rfl rfl rfl (SRd.of_m (MRow.nil _ 0 9 1)) (fun k hk => by cases hk) (none_ok hX1.ok) PcTy.zero, (NF.of_below (below_step hb0 hb1)).trans hnf (fun x hx => .inl hx), (hB0.below hb1 hB0.lt).far (p := ⟨f, 13, none⟩) hgf _, (hp0.on hb1).nf hnf hfar⟩
  have hadd : ∀ W2 W, FullX w0 W2 f gn gt Sn tv pv uv ov (.slice none 0 0) { X with pcs := [] } → NF (fS f gt Sn) w W2 → Blk W2 g 41 (pdC x).toArray → PdOk W2 x → Below W2.heap.size W2 W → Calls Tryz.prog 68 #[.pointer (some ⟨gt, 0, none⟩), .string x.1.data, .bool true] W fun e w' => e = .returned (.tuple #[.slice none 0 0, .nilIface]) ∧ Added w0 w w' f gn gt g Sn tv pv uv ov X (X.txt ++ x.1.data) x := by
    intro W2 W h2 hn hB hpx hW
    have h2W := h2.on hW
    refine (gadd_more gt X.txt x.1.data 8192 W w0 h2W.gb (by omega) (by omega) (by omega) h2W.b hgg).mono ?_
    rintro e w' ⟨he, hG, hb, hgr⟩
    exact ⟨he, added_of h2 hn hB hpx hfar hgS hW hgr hG hb (by rw [ByteArray.size_append]; omega)⟩
  obtain ⟨A, cap, hu⟩ := pd_form hp
  have HV := Lib.hid hval
  have HC := Lib.hid hcells
  have HSET := Lib.hid hset
  have HADD := Lib.hid hadd
  have HB := Lib.hid hb0
  have HX := Lib.hid hX0
  have hcf := hX0.fb.cell 13
  have HFAR := Lib.hid hfar
  have HRI := Lib.hid hright
  have HROW := Lib.hid hrow
  have HVI := Lib.hid hvI
  have hask : askP X x.1 (headS x.1) = (if lastB x.1.fl = true then rejA X 4 (headS x.1) else txtA X 0 b noneN ⟨#[]⟩, { X.up with pcs := [], txt := X.txt ++ x.1.data }) := by
    unfold askP
    rw [if_pos hf2]
    unfold addPF
    rw [if_neg (by omega), if_pos hmore, hf1]
  have href := fun (W : World) (h : Added w0 w W f gn gt g Sn tv pv uv ov X (X.txt ++ x.1.data) x) => frefuse_any h.1 V x h.2.2.2 hright hsz 4 (by decide)
  obtain ⟨Y, hY⟩ : ∃ Y, headS x.1 = Y := ⟨_, rfl⟩
  rw [hask]
  rw [hY] at href ⊢
  have HREF := Lib.hid href
  obtain ⟨LA, hLA⟩ : ∃ m, lastB x.1.fl = m := ⟨_, rfl⟩
  rw [hLA] at hla ⊢
  rw [hmore] at hmo
  have hst := h.ok.st
  have hcm := h.ok.cm
  clear hask href hY hfit hmore hLA hf1
  clear hval hcells hset hadd hvals hvT hf2 hrow hX0 hp0 hB0 hp h hright hfl hfar hvI hcf
  obtain ⟨⟨op, now, fl, vals, al, data⟩, ⟨u, av⟩⟩ := x
  simp only at hu hop hsz hmo hla hds
  subst hu
  subst hop
  obtain ⟨c0, c1, c2, c3, c4, c5⟩ := HC.out W0 (Below.refl _ _)
  try simp only at c0 c1 c2 c3 c4 c5
  go_enter Tryz.func51, Tryz.ntmps51
  go_upto_region 1 with (fail)
  try refine wp_worldN hW0 ?_
  try rw [hg]
  go_wp2_with fail
  refine HV.out.mono ?_
  rintro e w1 ⟨rfl, hb1⟩
  obtain ⟨h2, hn2, hB2, hp2⟩ := HSET.out w1 hb1
  have cf : w1.cell? ⟨f, 13, none⟩ = some pc := (HX.out.on hb1).fb.cell 13
  have ff := (HX.out.on hb1).fb.frozen 13
  obtain ⟨W2, hW2⟩ : ∃ W : World, w1.setCell ⟨f, 13, none⟩ (.slice none 0 0) = W := ⟨_, rfl⟩
  rw [hW2] at h2 hn2 hB2 hp2
  have k12 : W2.cell? ⟨f, 12, none⟩ = some (.pointer (some ⟨gt, 0, none⟩)) := h2.fb.cell 12
  have k5 : W2.cell? ⟨g, 5, none⟩ = some (.string data) := hB2.cell 5
  have HAD := Lib.hid (show ∀ W, W = W2 ∨ W = W2.drew → Calls Tryz.prog 68 #[.pointer (some ⟨gt, 0, none⟩), .string data, .bool true] W fun e w' => e = .returned (.tuple #[.slice none 0 0, .nilIface]) ∧ Added w0 w w' f gn gt g Sn tv pv uv ov X (X.txt ++ data) (⟨4, now, fl, vals, al, data⟩, ⟨.slice A vals.length cap, av⟩) from fun W hW => HADD.out W2 W h2 hn2 hB2 hp2 (by rcases hW with rfl | rfl; exact Below.refl _ _; exact (Below.refl _ _).drew))
  clear c0 c1 c2 c3 c4 c5 h2 hn2 hB2 hp2 hb1
  go_upto_region 8 with (fail)
  try refine wp_worldN hW2 ?_
  go_region_held3 (fun w' => w'.cell? ⟨f, 12, none⟩ = some (.pointer (some ⟨gt, 0, none⟩)) ∧ w'.cell? ⟨g, 5, none⟩ = some (.string data)) (first | go_keep | exact ⟨k12, k5⟩ | exact kk) ((first | (go_at_call 68; (with_reducible refine (HAD.out _ (by first | exact .inl rfl | exact .inr rfl)).mono ?_); rintro e w3 ⟨rfl, hAD⟩; have kk : w3.cell? ⟨f, 12, none⟩ = some (.pointer (some ⟨gt, 0, none⟩)) ∧ w3.cell? ⟨g, 5, none⟩ = some (.string data) := ⟨hAD.1.fb.cell 12, hAD.2.2.1.cell 5⟩)))
  obtain ⟨j0, j1, j2, j3, j4, j5⟩ := pd_cells hAD.2.2.1
  try simp only at j0 j1 j2 j3 j4 j5
  rcases LA with _ | _
  rotate_left
  · go_wp2_with fail
    refine (HREF.out w3 hAD).mono ?_
    rintro e w4 ⟨v, rfl, hD⟩
    go_wp2_with fail
    go_ret
    exact ⟨v, rfl, hD.back hAD.2.1⟩
  · have hfa : ¬ ((true : Bool) = false) := by decide
    have V3 := V.on hAD.1.b
    have hval := fun (W : World) (hb : Below w3.heap.size w3 W) => (fval_any (⟨4, now, fl, vals, al, data⟩, ⟨.slice A vals.length cap, av⟩) r4 nITT b HROW.out HVI.out W (hAD.2.2.2.on hb) (V3.on hb).T (V3.on hb).S).mono fun e w' h => (⟨h.1, below_step hb h.2, h.2⟩ : e = .returned (.int .u64 b) ∧ Below w3.heap.size w3 w' ∧ Below W.heap.size W w')
    have HVI2 := Lib.hid hval
    have hmk := make36 (fl := 0) (b := b) (c := noneN) (s := X.stat) (k := X.cmd) (m := aft X.cmd 31) (by decide) hb32 (by decide) hst hcm (aft_lt _ _)
    have hmake := fun (W : World) (A B : Value) (hb : Below w3.heap.size w3 W) (hA : MRow W w3.heap.size 9 1 A 2 ([nITT, nTTT].map .string)) (hB : MRow W w3.heap.size 49 1 B 2 ([b, noneN].map u64V)) => fmake_any hAD.1 hb V 36 0 (by decide) (by decide) ⟨#[]⟩ [nITT, nTTT] [b, noneN] A B _ hA hB (by simp) (by simp) (fun y hy => by
      simp only [List.mem_cons, List.not_mem_nil, or_false] at hy
      rcases hy with rfl | rfl
      · omega
      · decide) hmk
    have HMK2 := Lib.hid hmake
    have HAD3 := Lib.hid hAD
    obtain ⟨q0, q1, q2, q3, q4, q5⟩ := pd_cells (hAD.2.2.1.below (below_a (Below.refl _ _) (.cells #[.string ⟨#[73, 84, 84]⟩, .string ⟨#[84, 84, 84]⟩] 9)) hAD.2.2.1.lt)
    try simp only at q0 q1 q2 q3 q4 q5
    clear hmake hmk hval hAD
    go_wp2_with fail
    refine (HVI2.out _ (below_a (Below.refl _ _) _)).mono ?_
    rintro e w5 ⟨rfl, hbz, hbc⟩
    obtain ⟨d0, d1, d2, d3, d4, d5⟩ := pd_cells (HAD3.out.2.2.1.below hbz HAD3.out.2.2.1.lt)
    try simp only at d0 d1 d2 d3 d4 d5
    clear q0 q1 q2 q3 q4 q5 j0 j1 j2 j3 j4 j5
    go_wp2_with fail
    refine (HMK2.out _ _ _ (below_a hbz _) (MRow.alloc (row_on (lit_row (Below.refl _ _) rfl) hbc) _) (lit_row hbz rfl)).mono ?_
    rintro e w6 ⟨hv6, he6, hA6, hX6, hN6⟩
    obtain ⟨A6, cap6, rfl⟩ := ap_form6 hA6 rfl
    have he7 : e = .returned (.agg #[.int .i64 36, .bool false, .int .i64 0, .slice A6 6 cap6, .slice none 0 0, .string ⟨#[]⟩]) := he6
    subst he7
    go_wp2_with fail
    go_ret
    have hz2 := HAD3.out.2.1.size
    exact ⟨_, rfl, took_one hX6 ⟨hA6.1, fun k hk => ⟨Nat.le_trans hz2 (hA6.2 k hk).1, (hA6.2 k hk).2⟩⟩ (HAD3.out.2.1.trans hN6 (fun x hx => .inl hx))⟩
set_option maxRecDepth 20000 in
set_option maxHeartbeats 8000000 in
theorem fask_end {w0 w : World} {f gn gt : Nat} {Sn : List Nat} {tv pv uv ov pc : Value} {X : FP} (h : FullX w0 w f gn gt Sn tv pv uv ov pc X) (V : Env w0) (x : PD × PdPart) (hp : PdOk w x) (hfar : PdFar (fS f gt Sn) x) (hop : x.1.op = 4) (hright : rightR x.1.op x.1.now x.1.fl x.1.vals = none) (hsz : x.1.data.size ≤ 100000) (hT : fN x.1.vals 2 = noneN) (hfit : X.txt.size + x.1.data.size ≤ 8192) (hmore : moreB x.1.fl = false) (hbad : (∃ E, parseGo ((X.txt ++ x.1.data).size + 1) (X.txt ++ x.1.data).data.toList 0 = .inl E) ∨ lastB x.1.fl = false) :
    Calls Tryz.prog 51 #[.pointer (some ⟨f, 0, none⟩), pdV x] w fun e w' => DidX w0 w (fS f gt Sn) f ([(askP X x.1 (headS x.1)).1], (askP X x.1 (headS x.1)).2) e w' := by
  obtain ⟨a, b, c, d, e0, hvals, hb32, hc32, _, _⟩ := vals4 (hop ▸ hright)
  obtain ⟨g, hg⟩ : ∃ g, w.heap.size = g := ⟨_, rfl⟩
  have hfl := fl4 (hop ▸ hright) hp.2.1.2
  obtain ⟨hmo, hla⟩ := more_bits hfl
  have hvT : valGo r4.2.2.2 x.1.vals nTTT.data.toList = .inr c := by rw [hvals]; exact val4.2.2.1
  have hvI : valGo r4.2.2.2 x.1.vals nITT.data.toList = .inr b := by rw [hvals]; exact val4.2.1
  have hf2 : fN x.1.vals 2 = c := by rw [hvals]; rfl
  have hf1 : fN x.1.vals 1 = b := by rw [hvals]; rfl
  rw [hf2] at hT
  subst hT
  have hrow : headRow x.1.op = some r4 := by rw [hop]; exact row4
  have hb0 : Below w.heap.size w (w.alloc (.cells (pdC x).toArray 41)) := (Below.refl _ _).alloc (Nat.le_refl _) _
  have hB0 : Blk (w.alloc (.cells (pdC x).toArray 41)) g 41 (pdC x).toArray := by rw [← hg]; exact Blk.new w _ _
  obtain ⟨W0, hW0⟩ : ∃ W : World, w.alloc (.cells (pdC x).toArray 41) = W := ⟨_, rfl⟩
  rw [hW0] at hb0 hB0
  have hgS : g ∉ fS f gt Sn := fun hm => by have := (h.lt g hm).1; omega
  have hgf : g ≠ f := fun e => hgS (by rw [e]; simp [fS])
  have hX0 := h.on hb0
  have hp0 := hp.on hb0
  have V0 := V.on hX0.b
  have hval : Calls Tryz.prog 54 #[pdV x, .string nTTT] W0 fun e w' => e = .returned (.int .u64 4294967295) ∧ Below W0.heap.size W0 w' := fval_any x r4 nTTT noneN hrow hvT W0 hp0 V0.T V0.S
  have hcells := fun (W : World) (hb : Below W0.heap.size W0 W) => pd_cells (hB0.below hb hB0.lt)
  have hds : x.1.data.size ≤ 140737488351232 := hp.2.2.2.2.2.2.2
  have htx := h.ok.tx
  have hgg := h.gg
  have hset : ∀ w1, Below W0.heap.size W0 w1 → FullX w0 (w1.setCell ⟨f, 13, none⟩ (.slice none 0 0)) f gn gt Sn tv pv uv ov (.slice none 0 0) { X with pcs := [] } ∧ NF (fS f gt Sn) w (w1.setCell ⟨f, 13, none⟩ (.slice none 0 0)) ∧ Blk (w1.setCell ⟨f, 13, none⟩ (.slice none 0 0)) g 41 (pdC x).toArray ∧ PdOk (w1.setCell ⟨f, 13, none⟩ (.slice none 0 0)) x := by
    intro w1 hb1
    have hX1 := hX0.on hb1
    have hnf : NF (fS f gt Sn) w1 (w1.setCell ⟨f, 13, none⟩ (.slice none 0 0)) := (NF.refl _ _).put (.inl (by simp [fS])) 13 _
    exact ⟨hX1.put 13 (.slice none 0 0) (pc' := .slice none 0 0) (X' := { X with pcs := [] }) rfl rfl rfl rfl rfl (SRd.of_m (MRow.nil _ 0 9 1)) (fun k hk => by cases hk) (none_ok hX1.ok) PcTy.zero, (NF.of_below (below_step hb0 hb1)).trans hnf (fun x hx => .inl hx), (hB0.below hb1 hB0.lt).far (p := ⟨f, 13, none⟩) hgf _, (hp0.on hb1).nf hnf hfar⟩
  have hadd : ∀ W2 W, FullX w0 W2 f gn gt Sn tv pv uv ov (.slice none 0 0) { X with pcs := [] } → NF (fS f gt Sn) w W2 → Blk W2 g 41 (pdC x).toArray → PdOk W2 x → Below W2.heap.size W2 W → Calls Tryz.prog 68 #[.pointer (some ⟨gt, 0, none⟩), .string x.1.data, .bool false] W fun e w' => ∃ r er, e = .returned (.tuple #[r, er]) ∧ PRes w' W.heap.size r er (parseGo ((X.txt ++ x.1.data).size + 1) (X.txt ++ x.1.data).data.toList 0) ∧ Added w0 w w' f gn gt g Sn tv pv uv ov X ⟨#[]⟩ x := by
    intro W2 W h2 hn hB hpx hW
    have h2W := h2.on hW
    refine (gadd_end gt X.txt x.1.data 8192 W w0 h2W.gb (by omega) (by omega) (by omega) h2W.b hgg V.L V.S).mono ?_
    rintro e w' ⟨r, er, he, hr, hG, hb, hgr⟩
    exact ⟨r, er, he, hr, added_of h2 hn hB hpx hfar hgS hW hgr hG hb (Nat.zero_le _)⟩
  obtain ⟨A, cap, hu⟩ := pd_form hp
  have HV := Lib.hid hval
  have HC := Lib.hid hcells
  have HSET := Lib.hid hset
  have HADD := Lib.hid hadd
  have HB := Lib.hid hb0
  have HX := Lib.hid hX0
  have hcf := hX0.fb.cell 13
  have HFAR := Lib.hid hfar
  have HRI := Lib.hid hright
  have HROW := Lib.hid hrow
  have HVI := Lib.hid hvI
  have hask : askP X x.1 (headS x.1) = (rejA X 4 (headS x.1), { X.up with pcs := [], txt := ⟨#[]⟩ }) := by
    unfold askP
    rw [if_pos hf2]
    unfold addPF
    rw [if_neg (by omega), if_neg (by rw [hmore]; decide)]
    rcases hbad with ⟨E, hE⟩ | hL
    · rw [hE]
    · rcases hq : parseGo ((X.txt ++ x.1.data).size + 1) (X.txt ++ x.1.data).data.toList 0 with E | l
      · rfl
      · exact if_pos hL
  have href := fun (W : World) (h : Added w0 w W f gn gt g Sn tv pv uv ov X ⟨#[]⟩ x) => frefuse_any h.1 V x h.2.2.2 hright hsz 4 (by decide)
  obtain ⟨Y, hY⟩ : ∃ Y, headS x.1 = Y := ⟨_, rfl⟩
  rw [hask]
  rw [hY] at href ⊢
  have HREF := Lib.hid href
  obtain ⟨LA, hLA⟩ : ∃ m, lastB x.1.fl = m := ⟨_, rfl⟩
  rw [hLA] at hla hbad
  rw [hmore] at hmo
  obtain ⟨TX, hTX⟩ : ∃ t, X.txt ++ x.1.data = t := ⟨_, rfl⟩
  have HBAD := Lib.hid hbad
  clear hask href hY hfit hmore hLA hf1 hbad hTX
  clear hval hcells hset hadd hvals hvT hf2 hrow hX0 hp0 hB0 hp h hright hfl hfar hvI hcf
  obtain ⟨⟨op, now, fl, vals, al, data⟩, ⟨u, av⟩⟩ := x
  simp only at hu hop hsz hmo hla hds
  subst hu
  subst hop
  obtain ⟨c0, c1, c2, c3, c4, c5⟩ := HC.out W0 (Below.refl _ _)
  try simp only at c0 c1 c2 c3 c4 c5
  go_enter Tryz.func51, Tryz.ntmps51
  go_upto_region 1 with (fail)
  try refine wp_worldN hW0 ?_
  try rw [hg]
  go_wp2_with fail
  refine HV.out.mono ?_
  rintro e w1 ⟨rfl, hb1⟩
  obtain ⟨h2, hn2, hB2, hp2⟩ := HSET.out w1 hb1
  have cf : w1.cell? ⟨f, 13, none⟩ = some pc := (HX.out.on hb1).fb.cell 13
  have ff := (HX.out.on hb1).fb.frozen 13
  obtain ⟨W2, hW2⟩ : ∃ W : World, w1.setCell ⟨f, 13, none⟩ (.slice none 0 0) = W := ⟨_, rfl⟩
  rw [hW2] at h2 hn2 hB2 hp2
  have k12 : W2.cell? ⟨f, 12, none⟩ = some (.pointer (some ⟨gt, 0, none⟩)) := h2.fb.cell 12
  have k5 : W2.cell? ⟨g, 5, none⟩ = some (.string data) := hB2.cell 5
  have HAD := Lib.hid (show ∀ W, W = W2 ∨ W = W2.drew → Calls Tryz.prog 68 #[.pointer (some ⟨gt, 0, none⟩), .string data, .bool false] W fun e w' => ∃ r er, e = .returned (.tuple #[r, er]) ∧ PRes w' W.heap.size r er (parseGo ((X.txt ++ data).size + 1) (X.txt ++ data).data.toList 0) ∧ Added w0 w w' f gn gt g Sn tv pv uv ov X ⟨#[]⟩ (⟨4, now, fl, vals, al, data⟩, ⟨.slice A vals.length cap, av⟩) from fun W hW => HADD.out W2 W h2 hn2 hB2 hp2 (by rcases hW with rfl | rfl; exact Below.refl _ _; exact (Below.refl _ _).drew))
  clear c0 c1 c2 c3 c4 c5 h2 hn2 hB2 hp2 hb1
  go_upto_region 8 with (fail)
  try refine wp_worldN hW2 ?_
  go_region_held3 (fun w' => w'.cell? ⟨f, 12, none⟩ = some (.pointer (some ⟨gt, 0, none⟩)) ∧ w'.cell? ⟨g, 5, none⟩ = some (.string data)) (first | go_keep | exact ⟨k12, k5⟩ | exact kk) ((first | (go_at_call 68; (with_reducible refine (HAD.out _ (by first | exact .inl rfl | exact .inr rfl)).mono ?_); rintro e w3 ⟨r, er, rfl, hr, hAD⟩; have kk : w3.cell? ⟨f, 12, none⟩ = some (.pointer (some ⟨gt, 0, none⟩)) ∧ w3.cell? ⟨g, 5, none⟩ = some (.string data) := ⟨hAD.1.fb.cell 12, hAD.2.2.1.cell 5⟩)))
  obtain ⟨j0, j1, j2, j3, j4, j5⟩ := pd_cells hAD.2.2.1
  try simp only at j0 j1 j2 j3 j4 j5
  rcases hq : parseGo ((X.txt ++ data).size + 1) (X.txt ++ data).data.toList 0 with ⟨cc, o⟩ | l
  · rw [hq] at hr
    obtain ⟨rfl, hr⟩ := hr
    obtain ⟨t, y, rfl⟩ := perr_four hr (fun h => by subst h; exact parse_four _ _ _ _ hq)
    clear hq hr
    go_wp2_with fail
    refine (HREF.out w3 hAD).mono ?_
    rintro e w4 ⟨v, rfl, hD⟩
    go_wp2_with fail
    go_ret
    exact ⟨v, rfl, hD.back hAD.2.1⟩
  · rw [hq] at hr
    obtain ⟨rfl, hrow⟩ := hr
    obtain ⟨rA, rcap, rfl, _⟩ := hrow.form
    have hLA : LA = false := by
      rcases HBAD.out with ⟨E, hE⟩ | h
      · have := hq.symm.trans hE
        cases this
      · exact h
    subst hLA
    clear hq hrow
    go_wp2_with fail
    refine (HREF.out w3 hAD).mono ?_
    rintro e w4 ⟨v, rfl, hD⟩
    go_wp2_with fail
    go_ret
    exact ⟨v, rfl, hD.back hAD.2.1⟩
end Go.Proofs.YtamlepacljjpiaaGreatDoor

/- Several pairs appended to a row of one's own, and where it then lies. -/
namespace Go.Proofs.YtamlepacljjpiaaGreatDoor
open Go.ChangeShapes Go.WideShapes Go.ChangeAt Go.RowKit Go.Shelf
set_option linter.unusedVariables false
set_option linter.unusedSimpArgs false
theorem wpList_append_pos (w : World) {ops : Array Oper} {rest : List Oper} {o : Oper} {a : Act} {Q : Exit → Act → World → Prop} (hgd : o.guard = none) (s x : Operand)
    (ho : o.op = .call { callee := .builtin .append, args := #[s, x], argTypes := #[27, 27] })
    (base : Nat) (v : Value) (l : PairL) (hs : a.eval s = v) (hown : ORow w base v l)
    (vx : Value) (m : PairL) (hx : a.eval x = vx) (hm : SRd w vx 2 m.length (pairCells m)) (hlen : (l.length + m.length) * 32 ≤ 140737488355328) (hbase : base ≤ w.heap.size)
    (h : ∀ v' w', ORow w' base v' (l ++ m) → w.grownBy w' v.ownBlock → (v'.ownBlock = v.ownBlock ∨ v'.ownBlock = some w.heap.size) → wpList Tryz.prog ops Q rest (a.put o.dst v') w') : wpList Tryz.prog ops Q (o :: rest) a w := by
  obtain ⟨i0, hi, hz0, hz1, hz2⟩ := info_parts infoPair
  obtain ⟨h1, A, cap, rfl, h2, h3, h4⟩ := hm
  rcases A with _ | ad
  · have hm0 : m = [] := by
      rcases m with _ | ⟨p, m⟩
      · rfl
      · obtain ⟨b, o, hA, _⟩ := h4 (by simp)
        cases hA
    subst hm0
    have hrun : (Builtin.append_ #[27, 27] o.type #[v, .slice none 0 cap]).run Tryz.prog w = .ok v w := by
      rcases hown.row.2 with ⟨rfl, h0⟩ | ⟨g, cap', cur, rfl, _, _, hnc, _⟩
      · simp [Builtin.append_, run_underlying Tryz.underlying27, sizeOf, typeInfo, hi, Builtin.lenOf, Builtin.firstCells]
      · simp [Builtin.append_, run_underlying Tryz.underlying27, sizeOf, typeInfo, hi, Builtin.lenOf, Builtin.firstCells, hnc, storeCells]
    refine Lib.wpList_append_run w hgd s x _ _ ho v _ hs hx v w hrun (h v w (by rw [List.append_nil]; exact hown) ⟨rfl, rfl, rfl, Nat.le_refl _, fun _ _ _ => rfl⟩ (.inl rfl))
  · refine wpList_append_own_at w hgd s x _ ho base 62 i0 _ 2 32 Tryz.underlying27 hi hz0 hz1 hz2 rfl (by decide) v l.length _ hs hown ad m.length cap (pairCells m) hx (by rw [pairCells_len, Nat.mul_comm]) ?_ ?_ (by unfold maxLen; omega) (by omega) hbase ?_
    · intro j u hu
      have hpos : 0 < m.length := by
        have := (List.getElem?_eq_some_iff.1 hu).1
        rw [pairCells_len] at this
        omega
      obtain ⟨b, o, hA, _, hc⟩ := h4 hpos
      obtain rfl := Option.some.inj hA
      rw [Addr.add_lit]
      exact hc j u hu
    · intro u hu
      simp only [pairCells, List.mem_flatMap] at hu
      obtain ⟨p, _, hu⟩ := hu
      simp at hu
      rcases hu with rfl | rfl <;> rfl
    · intro v' w' r1 r2 _ r4
      refine h v' w' ?_ r2 r4
      unfold ORow
      have e : pairCells (l ++ m) = pairCells l ++ pairCells m := by simp [pairCells]
      rw [List.length_append, e]
      exact r1
/- what is said, and what is left, pair by pair -/
theorem restL_snoc (l : PairL) (p : ByteArray × ByteArray) : restL (l ++ [p]) = restL l ++ if p.1 = stB then [] else [p] := by
  unfold restL isST
  by_cases h : p.1 = stB <;> simp [h]
theorem saidS_snoc (X : FP) (l : PairL) (p : ByteArray × ByteArray) : saidS X (l ++ [p]) = saidS X l ++ if p.1 = stB then sendL X p.2 else [] := by
  unfold saidS isST
  by_cases h : p.1 = stB <;> simp [h]
theorem restL_len (l : PairL) : (restL l).length ≤ l.length := List.length_filter_le _ _
theorem tlist_len {c : Cfg} {x : List UInt8} {all : Bool} {l : PairL} (h : tlistP c x all = some l) : l.length ≤ c.tg.length * (c.po.length + 1) := by
  unfold tlistP at h
  split at h
  · cases h
  · injection h with h
    rw [← h]
    exact listG_len _ _ _ _
theorem sendL_len (X : FP) (v : ByteArray) (h : cRight X.conf = none) : (sendL X v).length ≤ 40 := by
  obtain ⟨h1, h2⟩ := cright_few h
  rw [send_eq]
  unfold sendR
  split
  · simp
  · rename_i l hl
    split
    · simp
    · have h3 := tlist_len hl
      have : X.conf.tg.length * (X.conf.po.length + 1) ≤ 8 * 5 := Nat.mul_le_mul h1 (by omega)
      omega
theorem saidS_cons (X : FP) (l : PairL) (p : ByteArray × ByteArray) : saidS X (p :: l) = (if p.1 = stB then sendL X p.2 else []) ++ saidS X l := by
  unfold saidS isST
  by_cases h : p.1 = stB <;> simp [h]
theorem saidS_len (X : FP) (h : cRight X.conf = none) : ∀ (l : PairL), (saidS X l).length ≤ 40 * l.length
  | [] => by simp [saidS]
  | p :: l => by
    rw [saidS_cons, List.length_append, List.length_cons]
    have h1 := sendL_len X p.2 h
    have h2 := saidS_len X h l
    split <;> simp <;> omega
end Go.Proofs.YtamlepacljjpiaaGreatDoor

/- What an answer to offers leaves of a session. -/
namespace Go.Proofs.YtamlepacljjpiaaGreatDoor
open Go.ChangeShapes Go.WideShapes Go.ChangeAt Go.RowKit Go.Shelf
set_option linter.unusedVariables false
set_option linter.unusedSimpArgs false
theorem nodup_le : ∀ (L M : List (List UInt8)), L.Nodup → (∀ x ∈ L, x ∈ M) → L.length ≤ M.length
  | [], _, _, _ => Nat.zero_le _
  | x :: L, M, hn, hs => by
    have hx := hs x (by simp)
    have h1 : ∀ y ∈ L, y ∈ M.erase x := fun y hy => by
      have hne : y ≠ x := fun e => by
        subst e
        exact (List.nodup_cons.1 hn).1 hy
      exact (List.mem_erase_of_ne hne).2 (hs y (by simp [hy]))
    have h2 := nodup_le L (M.erase x) (List.nodup_cons.1 hn).2 h1
    have h3 := List.length_erase_of_mem hx
    have h4 : 0 < M.length := List.length_pos_of_mem hx
    rw [List.length_cons]
    omega
theorem recok_len {rc : PairL} (h : RecOk rc) : rc.length ≤ keyT.length := by
  have h1 := nodup_le (rc.map kB) (keyT.map (·.name)) h.1 (fun x hx => by
    obtain ⟨q, hq, rfl⟩ := List.mem_map.1 hx
    obtain ⟨⟨r, hr⟩, _⟩ := h.2 q hq
    exact List.mem_map.2 ⟨r, keyRow_mem hr, keyRow_name hr⟩)
  simpa using h1
theorem keyT_few : keyT.length ≤ 1000 := by decide
theorem FullX.nego {w0 W w5 : World} {f gn gt : Nat} {Sn S5 : List Nat} {tv pv uv ov pc : Value} {X : FP} {rc' : PairL} (h : FullX w0 W f gn gt Sn tv pv uv ov pc X) (hN : NegoH w5 S5 gn X.own rc') (hnf : NF Sn W w5) (hS5 : ∀ k ∈ S5, k ∈ Sn ∨ W.heap.size ≤ k) (hrc : RecOk rc') (hpc : ∀ k, pc.ownBlock = some k → k ∉ S5) : FullX w0 w5 f gn gt S5 tv pv uv ov pc { X with rc := rc' } := by
  have hfs : f ∉ S5 := fun hm => by
    rcases hS5 f hm with h1 | h1
    · exact h.fs h1
    · have := h.fb.lt; omega
  have hgs : gt ∉ S5 := fun hm => by
    rcases hS5 gt hm with h1 | h1
    · exact h.gs h1
    · have := Blk.lt h.gb; omega
  refine ⟨below_nf h.b hnf h.ss, (hnf.block f h.fb.lt h.fs).trans h.fb, hN, (hnf.block gt (Blk.lt h.gb) h.gs).trans h.gb, h.cf, srd_nf h.ps hnf (fun _ k hk => (h.pk k hk).2.2), h.pt.nf hnf (fun _ k hk => (h.pk k hk).2.2), (fun k hk => ⟨(h.pk k hk).1, (h.pk k hk).2.1, hpc k hk⟩), h.ff, h.gg, (fun k hk => ?_), h.fg, hfs, hgs, ⟨h.ok.cs, h.ok.cr, h.ok.st, h.ok.cm, h.ok.tx, h.ok.nw, hrc, h.ok.nm, h.ok.pz⟩⟩
  rcases hS5 k hk with h1 | h1
  · exact h.ss k h1
  · exact Nat.le_trans h.b.size h1
end Go.Proofs.YtamlepacljjpiaaGreatDoor

/- What a session says is small. -/
namespace Go.Proofs.YtamlepacljjpiaaGreatDoor
set_option linter.unusedVariables false
set_option linter.unusedSimpArgs false
theorem ans1_val (own : PairL) (login disc : Bool) (p : ByteArray × ByteArray) (hv : valB (vB p) = true) : valB (ansP own login disc p).1 = true := by
  rcases ans_cases own login disc p with ⟨_, e⟩ | ⟨r, hr, ⟨e, _⟩ | ⟨_, _, e⟩ | ⟨h1, h2, h3, ⟨_, e⟩ | ⟨_, x, hx, e⟩⟩⟩
  · rw [e]; decide
  · rw [e]; decide
  · rw [e]; decide
  · rw [e]; show valB [] = true; decide
  · rw [e]; exact res_val hx hv
theorem said_right {own : PairL} {login disc : Bool} {l : PairL} (hl : rightP l) : rightP (saidL own login disc l) := by
  intro q hq
  obtain ⟨p, hp, hq⟩ := List.mem_flatMap.1 hq
  obtain ⟨rfl, _⟩ := one_mem hq
  obtain ⟨h1, h2⟩ := hl p hp
  exact ⟨h1, by show valB (ba _).data.toList = true; rw [ba_list]; exact ans1_val own login disc p h2⟩
theorem said_small {own : PairL} {login disc : Bool} {l : PairL} (hl : rightP l) : ∀ q ∈ saidL own login disc l, psmall q := fun q hq => right_small (said_right hl q hq).1 (said_right hl q hq).2
theorem txt_len {l : List UInt8} (h : txtB l = true) : l.length ≤ 100 := by
  unfold txtB at h
  simp at h
  exact h.2.1
theorem poGo_txt : ∀ (l : PoL) (k : Nat), poGo k l = none → ∀ p ∈ l, txtB p.1.data.toList = true ∧ 0 ≤ p.2 ∧ p.2 ≤ 65535
  | [], _, _, p, hp => by cases hp
  | q :: l, k, h, p, hp => by
    unfold poGo at h
    split at h
    · cases h
    · rename_i h1
      split at h
      · cases h
      · rename_i h2
        rcases List.mem_cons.1 hp with rfl | hp
        · exact ⟨by simpa using h1, by omega, by omega⟩
        · exact poGo_txt l _ h p hp
theorem tgGo_txt : ∀ (l pre : List (List UInt8)), tgGo pre l = none → ∀ t ∈ l, txtB t = true
  | [], _, _, t, ht => by cases ht
  | x :: l, pre, h, t, ht => by
    unfold tgGo at h
    split at h
    · rename_i h1
      rcases List.mem_cons.1 ht with rfl | ht
      · exact h1.1
      · exact tgGo_txt l _ h t ht
    · cases h
theorem cright_txt {c : Cfg} (h : cRight c = none) : (∀ t ∈ c.tg, txtB t = true) ∧ ∀ p ∈ c.po, txtB p.1.data.toList = true ∧ 0 ≤ p.2 ∧ p.2 ≤ 65535 := by
  unfold cRight at h
  split at h
  · cases h
  · split at h
    · cases h
    · rename_i ht
      split at h
      · cases h
      · rename_i hp
        exact ⟨tgGo_txt _ _ ht, poGo_txt _ _ hp⟩
theorem itoa_small {n : Int} (h0 : 0 ≤ n) (h1 : n ≤ 65535) : (Lib.itoa n).length ≤ 21 := Lib.itoa_length_le n (by omega) (by omega)
theorem listG_small {c : Cfg} (h : cRight c = none) (x : List UInt8) (all : Bool) : ∀ q ∈ listG c.po x all c.tg, psmall q := by
  obtain ⟨h1, h2⟩ := cright_txt h
  intro q hq
  obtain ⟨t, ht, hq⟩ := List.mem_flatMap.1 hq
  split at hq
  · rcases List.mem_cons.1 hq with rfl | hq
    · have := txt_len (h1 t ht)
      exact ⟨by show tnB.size ≤ 140737488351232; decide, by show (⟨t.toArray⟩ : ByteArray).size ≤ _; rw [size_mkl]; omega⟩
    · obtain ⟨p, hp, rfl⟩ := List.mem_map.1 hq
      obtain ⟨a, b, d⟩ := h2 p hp
      have h3 := txt_len a
      rw [len_of] at h3
      have h4 := itoa_small b d
      have hk : (⟨(Lib.itoa p.2).toArray⟩ : ByteArray).size = (Lib.itoa p.2).length := size_mkl _
      refine ⟨by show taB.size ≤ 140737488351232; decide, ?_⟩
      show (p.1 ++ ⟨#[44]⟩ ++ ⟨(Lib.itoa p.2).toArray⟩ : ByteArray).size ≤ _
      rw [ByteArray.size_append, ByteArray.size_append, hk]
      have h5 : (⟨#[44]⟩ : ByteArray).size = 1 := rfl
      omega
  · cases hq
theorem sendL_small (X : FP) (v : ByteArray) (h : cRight X.conf = none) : ∀ q ∈ sendL X v, psmall q := by
  have hrej : ∀ q ∈ ([(stB, ba rejB)] : PairL), psmall q := fun q hq => by
    simp only [List.mem_cons, List.not_mem_nil, or_false] at hq
    subst hq
    exact ⟨by decide, by decide⟩
  rw [send_eq]
  unfold sendR
  split
  · exact hrej
  · rename_i l hl
    split
    · exact hrej
    · have : ∀ (c : Cfg) (x : List UInt8) (all : Bool), tlistP c x all = some l → l = listG c.po x all c.tg := fun c x all h => by
        unfold tlistP at h
        split at h
        · cases h
        · injection h with h; exact h.symm
      rw [this _ _ _ hl]
      exact listG_small h _ _
theorem saidS_small (X : FP) (h : cRight X.conf = none) (l : PairL) : ∀ q ∈ saidS X l, psmall q := fun q hq => by
  obtain ⟨p, _, hq⟩ := List.mem_flatMap.1 hq
  exact sendL_small X p.2 h q hq
end Go.Proofs.YtamlepacljjpiaaGreatDoor

/- full's ask, where a whole text is answered. -/
namespace Go.Proofs.YtamlepacljjpiaaGreatDoor
open Go.ChangeShapes Go.WideShapes Go.ChangeAt Go.RowKit Go.Shelf
set_option linter.unusedVariables false
set_option linter.unusedSimpArgs false
theorem TookX.back2 {w0 w W w' : World} {S S1 : List Nat} {f : Nat} {X : FP} {l : List AP} {v : Value} (h : TookX w0 W S1 f X l v w') (hnf : NF S w W) (hs : ∀ k ∈ S1, k ∈ S ∨ w.heap.size ≤ k) : TookX w0 w S f X l v w' := by
  obtain ⟨S', h1, h2, h3, h4⟩ := h
  refine ⟨S', h1, hnf.trans h2 hs, fun k hk => ?_, h4.more hnf.size⟩
  rcases h3 k hk with h5 | h5
  · exact hs k h5
  · exact .inr (Nat.le_trans hnf.size h5)
theorem FullX.grown {w0 w w' : World} {f gn gt : Nat} {Sn : List Nat} {tv pv uv ov pc : Value} {X : FP} {row : Option Nat} (h : FullX w0 w f gn gt Sn tv pv uv ov pc X) (hg : w.grownBy w' row) (hr : ∀ k, row = some k → k ∉ fS f gt Sn ∧ w0.heap.size ≤ k) (hp : 0 < X.pcs.length → ∀ k, pc.ownBlock = some k → row ≠ some k) : FullX w0 w' f gn gt Sn tv pv uv ov pc X := by
  have hnf : NF row.toList w w' := NF.grown (NF.refl _ w) hg (fun x hx => .inl (by rw [hx]; simp))
  refine h.other hnf (h.b.grown hg h.b.size (fun k hk => (hr k hk).2)) (fun k hk hm => ?_) (fun hn k hk hm => ?_)
  · have : row = some k := by simpa using hm
    exact (hr k this).1 hk
  · have : row = some k := by simpa using hm
    exact hp hn k hk this
set_option maxRecDepth 20000 in
set_option maxHeartbeats 8000000 in
theorem fask_says {w0 w : World} {f gn gt : Nat} {Sn : List Nat} {tv pv uv ov pc : Value} {X : FP} (h : FullX w0 w f gn gt Sn tv pv uv ov pc X) (V : Env w0) (x : PD × PdPart) (hp : PdOk w x) (hfar : PdFar (fS f gt Sn) x) (hop : x.1.op = 4) (hright : rightR x.1.op x.1.now x.1.fl x.1.vals = none) (hsz : x.1.data.size ≤ 100000) (hT : fN x.1.vals 2 = noneN) (hfit : X.txt.size + x.1.data.size ≤ 8192) (hmore : moreB x.1.fl = false) (hlast : lastB x.1.fl = true) (l : PairL) (hparse : parseGo ((X.txt ++ x.1.data).size + 1) (X.txt ++ x.1.data).data.toList 0 = .inr l) :
    Calls Tryz.prog 51 #[.pointer (some ⟨f, 0, none⟩), pdV x] w fun e w' => DidX w0 w (fS f gt Sn) f ([(askP X x.1 (headS x.1)).1], (askP X x.1 (headS x.1)).2) e w' := by
  obtain ⟨a, b, c, d, e0, hvals, hb32, hc32, _, _⟩ := vals4 (hop ▸ hright)
  obtain ⟨g, hg⟩ : ∃ g, w.heap.size = g := ⟨_, rfl⟩
  have hfl := fl4 (hop ▸ hright) hp.2.1.2
  obtain ⟨hmo, hla⟩ := more_bits hfl
  have hvT : valGo r4.2.2.2 x.1.vals nTTT.data.toList = .inr c := by rw [hvals]; exact val4.2.2.1
  have hvI : valGo r4.2.2.2 x.1.vals nITT.data.toList = .inr b := by rw [hvals]; exact val4.2.1
  have hf2 : fN x.1.vals 2 = c := by rw [hvals]; rfl
  have hf1 : fN x.1.vals 1 = b := by rw [hvals]; rfl
  rw [hf2] at hT
  subst hT
  have hrow : headRow x.1.op = some r4 := by rw [hop]; exact row4
  have hb0 : Below w.heap.size w (w.alloc (.cells (pdC x).toArray 41)) := (Below.refl _ _).alloc (Nat.le_refl _) _
  have hB0 : Blk (w.alloc (.cells (pdC x).toArray 41)) g 41 (pdC x).toArray := by rw [← hg]; exact Blk.new w _ _
  obtain ⟨W0, hW0⟩ : ∃ W : World, w.alloc (.cells (pdC x).toArray 41) = W := ⟨_, rfl⟩
  rw [hW0] at hb0 hB0
  have hgS : g ∉ fS f gt Sn := fun hm => by have := (h.lt g hm).1; omega
  have hgf : g ≠ f := fun e => hgS (by rw [e]; simp [fS])
  have hX0 := h.on hb0
  have hp0 := hp.on hb0
  have V0 := V.on hX0.b
  have hval : Calls Tryz.prog 54 #[pdV x, .string nTTT] W0 fun e w' => e = .returned (.int .u64 4294967295) ∧ Below W0.heap.size W0 w' := fval_any x r4 nTTT noneN hrow hvT W0 hp0 V0.T V0.S
  have hcells := fun (W : World) (hb : Below W0.heap.size W0 W) => pd_cells (hB0.below hb hB0.lt)
  have hds : x.1.data.size ≤ 140737488351232 := hp.2.2.2.2.2.2.2
  have htx := h.ok.tx
  have hgg := h.gg
  have hset : ∀ w1, Below W0.heap.size W0 w1 → FullX w0 (w1.setCell ⟨f, 13, none⟩ (.slice none 0 0)) f gn gt Sn tv pv uv ov (.slice none 0 0) { X with pcs := [] } ∧ NF (fS f gt Sn) w (w1.setCell ⟨f, 13, none⟩ (.slice none 0 0)) ∧ Blk (w1.setCell ⟨f, 13, none⟩ (.slice none 0 0)) g 41 (pdC x).toArray ∧ PdOk (w1.setCell ⟨f, 13, none⟩ (.slice none 0 0)) x := by
    intro w1 hb1
    have hX1 := hX0.on hb1
    have hnf : NF (fS f gt Sn) w1 (w1.setCell ⟨f, 13, none⟩ (.slice none 0 0)) := (NF.refl _ _).put (.inl (by simp [fS])) 13 _
    exact ⟨hX1.put 13 (.slice none 0 0) (pc' := .slice none 0 0) (X' := { X with pcs := [] }) rfl rfl rfl rfl rfl (SRd.of_m (MRow.nil _ 0 9 1)) (fun k hk => by cases hk) (none_ok hX1.ok) PcTy.zero, (NF.of_below (below_step hb0 hb1)).trans hnf (fun x hx => .inl hx), (hB0.below hb1 hB0.lt).far (p := ⟨f, 13, none⟩) hgf _, (hp0.on hb1).nf hnf hfar⟩
  have hadd : ∀ W2 W, FullX w0 W2 f gn gt Sn tv pv uv ov (.slice none 0 0) { X with pcs := [] } → NF (fS f gt Sn) w W2 → Blk W2 g 41 (pdC x).toArray → PdOk W2 x → Below W2.heap.size W2 W → Calls Tryz.prog 68 #[.pointer (some ⟨gt, 0, none⟩), .string x.1.data, .bool false] W fun e w' => ∃ r er, e = .returned (.tuple #[r, er]) ∧ PRes w' W.heap.size r er (parseGo ((X.txt ++ x.1.data).size + 1) (X.txt ++ x.1.data).data.toList 0) ∧ Added w0 w w' f gn gt g Sn tv pv uv ov X ⟨#[]⟩ x := by
    intro W2 W h2 hn hB hpx hW
    have h2W := h2.on hW
    refine (gadd_end gt X.txt x.1.data 8192 W w0 h2W.gb (by omega) (by omega) (by omega) h2W.b hgg V.L V.S).mono ?_
    rintro e w' ⟨r, er, he, hr, hG, hb, hgr⟩
    exact ⟨r, er, he, hr, added_of h2 hn hB hpx hfar hgS hW hgr hG hb (Nat.zero_le _)⟩
  obtain ⟨A, cap, hu⟩ := pd_form hp
  have HV := Lib.hid hval
  have HC := Lib.hid hcells
  have HSET := Lib.hid hset
  have HADD := Lib.hid hadd
  have HB := Lib.hid hb0
  have HX := Lib.hid hX0
  have hcf := hX0.fb.cell 13
  have HFAR := Lib.hid hfar
  have HRI := Lib.hid hright
  have HROW := Lib.hid hrow
  have HVI := Lib.hid hvI
  have hask : askP X x.1 (headS x.1) = saysP { X with pcs := [], txt := ⟨#[]⟩ } l b (headS x.1) := by
    unfold askP
    rw [if_pos hf2]
    unfold addPF
    rw [if_neg (by omega), if_neg (by rw [hmore]; decide), hparse, hf1]
    exact if_neg (by rw [hlast]; decide)
  obtain ⟨_, hlr, hl60⟩ := parse_ok _ _ _ _ (by rw [len_of]; omega) (Nat.zero_le _) hparse
  obtain ⟨Y, hY⟩ : ∃ Y, headS x.1 = Y := ⟨_, rfl⟩
  rw [hask, hY]
  have HY := Lib.hid hY
  have HF1 := Lib.hid hf1
  rw [hlast] at hla
  rw [hmore] at hmo
  have hcr := h.ok.cr
  have HPARSE := Lib.hid hparse
  have HLR := Lib.hid hlr
  obtain ⟨Z, hZ⟩ : ∃ Z, saysP { X with pcs := [], txt := ⟨#[]⟩ } l b Y = Z := ⟨_, rfl⟩
  rw [hZ]
  have HZ := Lib.hid hZ
  clear hask hfit hmore hlast hf1 hparse hlr hZ hY
  clear hval hcells hset hadd hvals hvT hf2 hrow hX0 hp0 hB0 hp h hright hfl hfar hvI hcf
  obtain ⟨⟨op, now, fl, vals, al, data⟩, ⟨u, av⟩⟩ := x
  simp only at hu hop hsz hmo hla hds
  subst hu
  subst hop
  obtain ⟨c0, c1, c2, c3, c4, c5⟩ := HC.out W0 (Below.refl _ _)
  try simp only at c0 c1 c2 c3 c4 c5
  go_enter Tryz.func51, Tryz.ntmps51
  go_upto_region 1 with (fail)
  try refine wp_worldN hW0 ?_
  try rw [hg]
  go_wp2_with fail
  refine HV.out.mono ?_
  rintro e w1 ⟨rfl, hb1⟩
  obtain ⟨h2, hn2, hB2, hp2⟩ := HSET.out w1 hb1
  have cf : w1.cell? ⟨f, 13, none⟩ = some pc := (HX.out.on hb1).fb.cell 13
  have ff := (HX.out.on hb1).fb.frozen 13
  obtain ⟨W2, hW2⟩ : ∃ W : World, w1.setCell ⟨f, 13, none⟩ (.slice none 0 0) = W := ⟨_, rfl⟩
  rw [hW2] at h2 hn2 hB2 hp2
  have k12 : W2.cell? ⟨f, 12, none⟩ = some (.pointer (some ⟨gt, 0, none⟩)) := h2.fb.cell 12
  have k5 : W2.cell? ⟨g, 5, none⟩ = some (.string data) := hB2.cell 5
  have HAD := Lib.hid (show ∀ W, W = W2 ∨ W = W2.drew → Calls Tryz.prog 68 #[.pointer (some ⟨gt, 0, none⟩), .string data, .bool false] W fun e w' => ∃ r er, e = .returned (.tuple #[r, er]) ∧ PRes w' W.heap.size r er (parseGo ((X.txt ++ data).size + 1) (X.txt ++ data).data.toList 0) ∧ Added w0 w w' f gn gt g Sn tv pv uv ov X ⟨#[]⟩ (⟨4, now, fl, vals, al, data⟩, ⟨.slice A vals.length cap, av⟩) from fun W hW => HADD.out W2 W h2 hn2 hB2 hp2 (by rcases hW with rfl | rfl; exact Below.refl _ _; exact (Below.refl _ _).drew))
  clear c0 c1 c2 c3 c4 c5 h2 hn2 hB2 hp2 hb1
  go_upto_region 8 with (fail)
  try refine wp_worldN hW2 ?_
  go_region_held3 (fun w' => w'.cell? ⟨f, 12, none⟩ = some (.pointer (some ⟨gt, 0, none⟩)) ∧ w'.cell? ⟨g, 5, none⟩ = some (.string data)) (first | go_keep | exact ⟨k12, k5⟩ | exact kk) ((first | (go_at_call 68; (with_reducible refine (HAD.out _ (by first | exact .inl rfl | exact .inr rfl)).mono ?_); rintro e w3 ⟨r, er, rfl, hr, hAD⟩; have kk : w3.cell? ⟨f, 12, none⟩ = some (.pointer (some ⟨gt, 0, none⟩)) ∧ w3.cell? ⟨g, 5, none⟩ = some (.string data) := ⟨hAD.1.fb.cell 12, hAD.2.2.1.cell 5⟩)))
  rw [show parseGo ((X.txt ++ data).size + 1) (X.txt ++ data).data.toList 0 = .inr l from HPARSE.out] at hr
  obtain ⟨rfl, hrow⟩ := hr
  obtain ⟨rA, rcap, rfl, hrc1, hrc2, _⟩ := hrow.form
  have hrd : SRd w3 (.slice rA l.length rcap) 2 l.length (pairCells l) := SRd.of_m hrow
  obtain ⟨N, hN⟩ : ∃ N, l.length = N := ⟨_, rfl⟩
  obtain ⟨j0, j1, j2, j3, j4, j5⟩ := pd_cells hAD.2.2.1
  try simp only at j0 j1 j2 j3 j4 j5
  have HAD3 := Lib.hid hAD
  have HRD := Lib.hid hrd
  have HN := Lib.hid hN
  rw [hN] at hrc1 hl60 ⊢
  unfold maxLen at hrc2
  have hsend := fun (W : World) (hb : Below w3.heap.size w3 W) (v : ByteArray) => (fsend_any (hAD.1.on hb) V v).mono fun e w' h => (h : ∃ u, e = .returned u ∧ PRow w' W.heap.size u (sendL X v) ∧ Below W.heap.size W w')
  have HSEND := Lib.hid hsend
  clear hsend hAD hrow hrd hN kk k12 k5
  go_wp2_with fail
  go_loopw [9, 10, 86] (fun rv sv i wr => ∃ k : Nat, k ≤ N ∧ i = .int .i64 k ∧ ORow wr w3.heap.size rv (restL (l.take k)) ∧ ORow wr w3.heap.size sv (saidS X (l.take k)) ∧ (∀ b, rv.ownBlock = some b → sv.ownBlock ≠ some b) ∧ Below w3.heap.size w3 wr) (fun _ _ i _ => N - (intOf i).toNat)
  case atStart => exact ⟨0, Nat.zero_le _, rfl, ORow.nil _ _, ORow.nil _ _, (fun b hb => by cases hb), Below.refl _ _⟩
  case round =>
    obtain ⟨k, hk, rfl, hrv, hsv, hdis, hbr⟩ := hrel
    by_cases hlt : k < N
    · obtain ⟨p, hpk⟩ : ∃ p, l[k]? = some p := ⟨_, List.getElem?_eq_getElem (by rw [HN.out]; exact hlt)⟩
      have htk : l.take (k + 1) = l.take k ++ [p] := by rw [List.take_add_one, hpk]; rfl
      have hr1 := restL_snoc (l.take k) p
      have hs1 := saidS_snoc X (l.take k) p
      rw [← htk] at hr1 hs1
      have hlr1 : (restL (l.take k)).length ≤ 60 := by have := restL_len (l.take k); rw [List.length_take] at this; omega
      have hls1 : (saidS X (l.take k)).length ≤ 2400 := by have := saidS_len X hcr (l.take k); rw [List.length_take] at this; omega
      have hrdr := HRD.out.on hbr
      obtain ⟨bb, oo, cp, v0, v1, hvv, hbl, q0, q1, c0, c1⟩ := hrdr.two (k := k) (by rw [HN.out]; exact hlt)
      have hcell := pairCells_at l k p hpk
      rw [hcell.1] at q0
      rw [hcell.2] at q1
      obtain rfl := Option.some.inj q0
      obtain rfl := Option.some.inj q1
      injection hvv with g1 g2 g3
      subst g1
      subst g3
      obtain ⟨p1, p2⟩ := p
      simp only at c0 c1 hr1 hs1
      have HR1 := Lib.hid hr1
      have HS1 := Lib.hid hs1
      have hba : Below wr.heap.size wr (wr.alloc (.cells #[.string p1, .string p2] 62)) := (Below.refl _ _).alloc (Nat.le_refl _) _
      have hBa := Blk.new wr 62 #[.string p1, .string p2]
      obtain ⟨zz, hzz⟩ : ∃ z, wr.heap.size = z := ⟨_, rfl⟩
      obtain ⟨wa, hwa⟩ : ∃ W : World, wr.alloc (.cells #[.string p1, .string p2] 62) = W := ⟨_, rfl⟩
      have hrva := hrv.alloc (.cells #[.string p1, .string p2] 62)
      have hsva := hsv.alloc (.cells #[.string p1, .string p2] 62)
      rw [hwa] at hba hBa hrva hsva
      rw [hzz] at hBa
      have hbra := below_step hbr hba
      have hwaz := hbra.size
      have m0 : wa.cell? ⟨zz, 0, none⟩ = some (.string p1) := hBa.cell 0
      have m1 : wa.cell? ⟨zz, 1, none⟩ = some (.string p2) := hBa.cell 1
      clear hcell q0 q1 hpk htk hr1 hs1 hrv hsv hrdr
      obtain ⟨rvA, rvc, rfl⟩ := hrva.form
      obtain ⟨svA, svc, rfl⟩ := hsva.form
      have hsr : (Value.slice svA (saidS X (l.take k)).length svc).ownBlock = none ∨ (Value.slice svA (saidS X (l.take k)).length svc).ownBlock ≠ (Value.slice rvA (restL (l.take k)).length rvc).ownBlock := by
        rcases hq : (Value.slice svA (saidS X (l.take k)).length svc).ownBlock with _ | b
        · exact .inl rfl
        · exact .inr (fun e => hdis b e.symm hq)
      have hrs : (Value.slice rvA (restL (l.take k)).length rvc).ownBlock = none ∨ (Value.slice rvA (restL (l.take k)).length rvc).ownBlock ≠ (Value.slice svA (saidS X (l.take k)).length svc).ownBlock := by
        rcases hq : (Value.slice rvA (restL (l.take k)).length rvc).ownBlock with _ | b
        · exact .inl rfl
        · exact .inr (fun e => hdis b hq e.symm)
      have HDIS := Lib.hid hdis
      have HSR := Lib.hid hsr
      have HRS := Lib.hid hrs
      clear hdis hsr hrs
      by_cases hst : p1 = stB
      · have HS2 := Lib.hid (show saidS X (l.take (k + 1)) = saidS X (l.take k) ++ sendL X p2 by rw [HS1.out, if_pos hst])
        have HR2 := Lib.hid (show restL (l.take (k + 1)) = restL (l.take k) by rw [HR1.out, if_pos hst, List.append_nil])
        subst hst
        have ha1 : stB.toList = [83, 101, 110, 100, 84, 97, 114, 103, 101, 116, 115] := by rw [toList_of]; rfl
        have hsl := sendL_len X p2 hcr
        go_wp2_with fail
        refine (HSEND.out wa hbra p2).mono ?_
        rintro e w5 ⟨u, rfl, hu, hb5⟩
        have hb35 := below_step hbra hb5
        have hrv5 := hrva.on hb5
        have hsv5 := hsva.on hb5
        have hz5 := hb35.size
        go_wp2_with (at_builtin; refine wpList_append_pos _ rfl _ _ rfl w3.heap.size _ (saidS X (l.take k)) rfl hsv5 u (sendL X p2) rfl (SRd.of_m hu) (by omega) hz5 ?_)
        intro v6 w6 ho6 hg6 hat6
        have hb36 : Below w3.heap.size w3 w6 := hb35.grown hg6 hz5 (fun k hk => (hsv5.lt k hk).1)
        have hrv6 := hrv5.grown hg6 HRS.out
        have hdis6 : ∀ b, (Value.slice rvA (restL (l.take k)).length rvc).ownBlock = some b → v6.ownBlock ≠ some b := fun b hb he => by
          rcases hat6 with h | h
          · exact HDIS.out b hb (h.symm.trans he)
          · rw [h] at he
            have h1 := (hrv5.lt b hb).2
            injection he with he
            omega
        obtain ⟨A6, c6, rfl⟩ := ho6.form
        clear hu
        go_wp2_with fail
        go_roundw
        case rel => exact ⟨k + 1, by omega, by go_num, by rw [HR2.out]; exact hrv6, by rw [HS2.out]; exact ho6, hdis6, hb36⟩
        case measure => simp [intOf]; omega
      · have HS2 := Lib.hid (show saidS X (l.take (k + 1)) = saidS X (l.take k) by rw [HS1.out, if_neg hst, List.append_nil])
        have HR2 := Lib.hid (show restL (l.take (k + 1)) = restL (l.take k) ++ [(p1, p2)] by rw [HR1.out, if_neg hst])
        have ha1 : (p1.toList == [83, 101, 110, 100, 84, 97, 114, 103, 101, 116, 115]) = false := by
          rw [toList_of]
          simp only [beq_eq_false_iff_ne, ne_eq]
          intro h
          apply hst
          have h2 : ba p1.data.toList = ba [83, 101, 110, 100, 84, 97, 114, 103, 101, 116, 115] := by rw [h]
          rw [ba_of] at h2
          exact h2
        have hal := hbra.alloc hwaz (.cells #[.string p1, .string p2] 62)
        have hrvb := hrva.alloc (.cells #[.string p1, .string p2] 62)
        have hsvb := hsva.alloc (.cells #[.string p1, .string p2] 62)
        have hzb := hal.size
        go_wp2_with (at_builtin; refine wpList_append_pos _ rfl _ _ rfl w3.heap.size _ (restL (l.take k)) rfl hrvb _ [(p1, p2)] rfl (SRd.litp (Blk.new wa _ _) rfl rfl (by decide)) (by simp; omega) hzb ?_)
        intro v6 w6 ho6 hg6 hat6
        have hb36 : Below w3.heap.size w3 w6 := hal.grown hg6 hzb (fun k hk => (hrvb.lt k hk).1)
        have hsv6 := hsvb.grown hg6 HSR.out
        have hdis6 : ∀ b, v6.ownBlock = some b → (Value.slice svA (saidS X (l.take k)).length svc).ownBlock ≠ some b := fun b hb he => by
          rcases hat6 with h | h
          · exact HDIS.out b (h.symm.trans hb) he
          · rw [h] at hb
            have h1 := (hsvb.lt b he).2
            have h3 := szA wa (.cells #[.string p1, .string p2] 62)
            have hb := Option.some.inj hb
            omega
        obtain ⟨A6, c6, rfl⟩ := ho6.form
        go_wp2_with fail
        go_roundw
        case rel => exact ⟨k + 1, by omega, by go_num, by rw [HR2.out]; exact ho6, by rw [HS2.out]; exact hsv6, hdis6, hb36⟩
        case measure => simp [intOf]; omega
    · obtain rfl : N = k := by omega
      have htl : l.take N = l := List.take_of_length_le (by rw [HN.out]; exact Nat.le_refl _)
      rw [htl] at hrv hsv
      have hX := HAD3.out.1.on hbr
      have hcel : ∀ W, Below wr.heap.size wr W → W.cell? ⟨f, 0, none⟩ = some (.pointer (some ⟨gn, 0, none⟩)) ∧ W.cell? ⟨f, 9, none⟩ = some (.bool X.disc) := fun W hW => ⟨(hX.on hW).fb.cell 0, (hX.on hW).fb.cell 9⟩
      obtain ⟨k0, k9⟩ := hcel wr (Below.refl _ _)
      obtain ⟨rvA, rvc, rfl⟩ := hrv.form
      obtain ⟨svA, svc, rfl⟩ := hsv.form
      obtain ⟨E, hE⟩ : ∃ E, ansE X.rc (restL l) false = E := ⟨_, rfl⟩
      have hans := fun (W : World) (hW : Below wr.heap.size wr W) => nanswer_gen gn Sn X.own X.rc (restL l) false X.disc (.slice rvA (restL l).length rvc) W w0 (hX.on hW).nh (hrv.on hW).rd (fun _ k hk hm => by
        have h1 := (hrv.lt k hk).1
        have h2 := HAD3.out.1.nh.lt k hm
        omega) (fun p hp => right_small (HLR.out p (List.mem_filter.1 hp).1).1 (HLR.out p (List.mem_filter.1 hp).1).2) (own_ok hX.ok.nw).1 (by have h1 := recok_len (rc := X.rc) hX.ok.rc; have h2 := keyT_few; omega) V (hX.on hW).b hX.ss
      rw [hE] at hans
      have HE := Lib.hid hE
      have HX := Lib.hid hX
      have HCEL := Lib.hid hcel
      have HSV := Lib.hid hsv
      have HBR := Lib.hid hbr
      rcases E with _ | E
      rotate_left
      · have hans2 := fun (W : World) (hW : Below wr.heap.size wr W) => (hans W hW).mono fun e w' h => (⟨by obtain ⟨⟨t, y, h1, _⟩, _⟩ := h; exact ⟨t, y, h1⟩, below_step hW h.2⟩ : (∃ t y, e = .returned (.tuple #[.slice none 0 0, .iface t y])) ∧ Below wr.heap.size wr w')
        have HANS := Lib.hid hans2
        have hZ : Z = (rejA { X with pcs := [], txt := ⟨#[]⟩ } 4 Y, ({ X with pcs := [], txt := ⟨#[]⟩ } : FP).up) := by
          rw [← HZ.out]
          unfold saysP
          rw [show ansE ({ X with pcs := [], txt := ⟨#[]⟩ } : FP).rc (restL l) false = some E from HE.out]
        have hgj := fun (W : World) (hW : Below w3.heap.size w3 W) => pd_cells (HAD3.out.2.2.1.below hW HAD3.out.2.2.1.lt)
        have HGJ := Lib.hid hgj
        have href := fun (W : World) (hW : Below wr.heap.size wr W) => frefuse_any (HX.out.on hW) V (⟨4, now, fl, vals, al, data⟩, ⟨.slice A vals.length cap, av⟩) ((HAD3.out.2.2.2.on hbr).on hW) HRI.out hsz 4 (by decide)
        have HREF := Lib.hid href
        clear hans hans2 href hgj hE hcel hX hrv hsv hdis htl hbr
        go_upto_region 21 with (fail)
        go_region_held3 (fun w' => w'.cell? ⟨f, 0, none⟩ = some (.pointer (some ⟨gn, 0, none⟩)) ∧ w'.cell? ⟨f, 9, none⟩ = some (.bool X.disc)) (first | go_keep | exact ⟨k0, k9⟩ | exact kk) ((first | (go_at_call 46; (with_reducible refine (HANS.out _ ?hb).mono ?_); (case hb => first | exact Below.refl _ _ | exact (Below.refl _ _).drew); rintro e w5 ⟨⟨t, y, rfl⟩, hb5⟩; have kk := HCEL.out w5 hb5)))
        obtain ⟨m0, m1, m2, m3, m4, m5⟩ := HGJ.out w5 (below_step HBR.out hb5)
        try simp only at m0 m1 m2 m3 m4 m5
        go_wp2_with fail
        have hY5 := (HREF.out w5 hb5)
        refine hY5.mono ?_
        rintro e w6 ⟨v, rfl, hD⟩
        rw [show headS (⟨4, now, fl, vals, al, data⟩ : PD) = Y from HY.out] at hD
        go_wp2_with fail
        go_ret
        rw [hZ]
        have hnf5 : NF (fS f gt Sn) w w5 := HAD3.out.2.1.then_below (below_step HBR.out hb5)
        exact ⟨v, rfl, hD.back hnf5⟩
      · have hlrr : rightP (restL l) := fun p hp => HLR.out p (List.mem_filter.1 hp).1
        have hans2 := fun (W : World) (hW : Below wr.heap.size wr W) => (hans W hW).mono fun e w' h => (by
          obtain ⟨S5, u, he, ho, hn5, hnf, hs5, hu5⟩ := h
          exact ⟨S5, u, he, ho.more hW.size, (hX.on hW).nego hn5 hnf hs5 (RecOk.all X.own false X.disc (restL l) X.rc hX.ok.rc hlrr) (fun k hk => by cases hk), (NF.of_below hW).trans hnf (fun x hx => .inl hx), fun k hk => (hs5 k hk).imp id (Nat.le_trans hW.size), hu5⟩ :
          ∃ S5 u, e = .returned (.tuple #[u, .nilIface]) ∧ ORow w' wr.heap.size u (saidL X.own false X.disc (restL l)) ∧ FullX w0 w' f gn gt S5 tv pv uv ov (.slice none 0 0) { X with pcs := [], txt := ⟨#[]⟩, rc := recL X.own false X.disc X.rc (restL l) } ∧ NF Sn wr w' ∧ (∀ k ∈ S5, k ∈ Sn ∨ wr.heap.size ≤ k) ∧ ∀ k, u.ownBlock = some k → k ∉ S5)
        have HANS := Lib.hid hans2
        have hlr1 : (restL l).length ≤ 60 := by have := restL_len l; rw [HN.out] at this; omega
        have hot : (saidL X.own false X.disc (restL l)).length ≤ 60 := Nat.le_trans (saidL_len X.own false X.disc (restL l)) hlr1
        have hls1 : (saidS X l).length ≤ 2400 := by have := saidS_len X hcr l; rw [HN.out] at this; omega
        clear hans hans2 hE hcel hX hrv hsv hdis htl hbr
        go_upto_region 21 with (fail)
        go_region_held3 (fun w' => w'.cell? ⟨f, 0, none⟩ = some (.pointer (some ⟨gn, 0, none⟩)) ∧ w'.cell? ⟨f, 9, none⟩ = some (.bool X.disc)) (first | go_keep | exact ⟨k0, k9⟩ | exact kk) ((first | (go_at_call 46; (with_reducible refine (HANS.out _ ?hb).mono ?_); (case hb => first | exact Below.refl _ _ | exact (Below.refl _ _).drew); rintro e w5 ⟨S5, u, rfl, ho5, hX5, hn5, hs5, hu5⟩; have kk : w5.cell? ⟨f, 0, none⟩ = some (.pointer (some ⟨gn, 0, none⟩)) ∧ w5.cell? ⟨f, 9, none⟩ = some (.bool X.disc) := ⟨hX5.fb.cell 0, hX5.fb.cell 9⟩)))
        obtain ⟨uA, uc, rfl⟩ := ho5.form
        have hSn : ∀ k ∈ Sn, k < w3.heap.size := fun k hk => HAD3.out.1.nh.lt k hk
        have hsv5 := HSV.out.nf hn5 (fun k hk hm => by have h1 := (HSV.out.lt k hk).1; have h2 := hSn k hm; omega)
        have hz5 : w3.heap.size ≤ w5.heap.size := Nat.le_trans HBR.out.size hn5.size
        have hB5 : Blk w5 g 41 (pdC (⟨4, now, fl, vals, al, data⟩, ⟨.slice A vals.length cap, av⟩)).toArray := (hn5.block g (HAD3.out.2.2.1.below HBR.out HAD3.out.2.2.1.lt).lt (fun hm => hgS (by simp [fS, hm]))).trans (HAD3.out.2.2.1.below HBR.out HAD3.out.2.2.1.lt)
        go_wp2_with (at_builtin; refine wpList_append_pos _ rfl _ _ rfl w3.heap.size _ (saidS X l) rfl hsv5 _ (saidL X.own false X.disc (restL l)) rfl ho5.rd (by omega) hz5 ?_)
        intro v6 w6 ho6 hg6 hat6
        have hX6 := hX5.grown hg6 (fun k hk => by
          have h1 := HSV.out.lt k hk
          refine ⟨fun hm => ?_, Nat.le_trans HAD3.out.1.b.size h1.1⟩
          simp only [fS, List.mem_cons] at hm
          rcases hm with rfl | rfl | hm
          · have := HAD3.out.1.fb.lt; omega
          · have := Blk.lt HAD3.out.1.gb; omega
          · rcases hs5 k hm with h2 | h2
            · have := hSn k h2; omega
            · omega) (fun hn => absurd hn (by simp))
        obtain ⟨vA, vc, rfl⟩ := ho6.form
        have hnfw5 : NF (fS f gt Sn) w w5 := ((HAD3.out.2.1.then_below HBR.out).trans hn5 (fun x hx => .inl (by simp [fS, hx])))
        have hnfw6 : NF (fS f gt Sn) w w6 := NF.grown hnfw5 hg6 (fun x hx => .inr (by have h1 := (HSV.out.lt x hx).1; have h2 := HAD3.out.2.1.size; omega))
        have hS5w : ∀ k ∈ fS f gt S5, k ∈ fS f gt Sn ∨ w.heap.size ≤ k := fun k hk => by
          simp only [fS, List.mem_cons] at hk ⊢
          rcases hk with h | h | h
          · exact .inl (.inl h)
          · exact .inl (.inr (.inl h))
          · rcases hs5 k h with h | h
            · exact .inl (.inr (.inr h))
            · exact .inr (by have h1 := HAD3.out.2.1.size; have h2 := HBR.out.size; omega)
        have hfar5 : PdFar (fS f gt S5) (⟨4, now, fl, vals, al, data⟩, ⟨.slice A vals.length cap, av⟩) := PdFar.grow HFAR.out (HAD3.out.2.2.2.on HBR.out) (fun k hk => by
          simp only [fS, List.mem_cons] at hk ⊢
          rcases hk with h | h | h
          · exact .inl (.inl h)
          · exact .inl (.inr (.inl h))
          · rcases hs5 k h with h | h
            · exact .inl (.inr (.inr h))
            · exact .inr h)
        have hp5 : PdOk w5 (⟨4, now, fl, vals, al, data⟩, ⟨.slice A vals.length cap, av⟩) := (HAD3.out.2.2.2.on HBR.out).nf hn5 (HFAR.out.less (fun k hk => by simp [fS, hk]))
        have hrow3 : ∀ k, (Value.slice svA (saidS X l).length svc).ownBlock = some k → w3.heap.size ≤ k ∧ k < wr.heap.size := fun k hk => HSV.out.lt k hk
        have hps := saidS_small X hcr l
        have hpo := said_small (own := X.own) (login := false) (disc := X.disc) hlrr
        have hall : ∀ p ∈ saidS X l ++ saidL X.own false X.disc (restL l), psmall p := fun p hp => (List.mem_append.1 hp).elim (hps p) (hpo p)
        have hrd6 := ho6.rd
        obtain ⟨PL, hPL⟩ : ∃ L, saidS X l ++ saidL X.own false X.disc (restL l) = L := ⟨_, rfl⟩
        rw [hPL] at hall hrd6 ⊢
        have HPL := Lib.hid hPL
        have HX6 := Lib.hid hX6
        have hrowx : PdFar ((Value.slice svA (saidS X l).length svc).ownBlock).toList (⟨4, now, fl, vals, al, data⟩, ⟨.slice A vals.length cap, av⟩) := ⟨fun hn k hk hm => by
          have h1 := srd_lt HAD3.out.2.2.2.2.2.1 hn k hk
          have h2 := (hrow3 k (by simpa using hm)).1
          omega, fun hn k hk hm => by
          have h1 := srd_lt HAD3.out.2.2.2.2.2.2.2.1 hn k hk
          have h2 := (hrow3 k (by simpa using hm)).1
          omega⟩
        have hp6 := hp5.nf (NF.grown (NF.refl _ w5) hg6 (fun x hx => .inl (by rw [hx]; simp))) hrowx
        have hB6 : Blk w6 g 41 (pdC (⟨4, now, fl, vals, al, data⟩, ⟨.slice A vals.length cap, av⟩)).toArray := (hg6.block g hB5.lt (fun e => by have h1 := (hrow3 g e.symm).1; have h2 := HAD3.out.2.2.1.lt; omega)).trans hB5
        have HP6 := Lib.hid hp6
        have HB6 := Lib.hid hB6
        rcases hpr : pRightR PL with _ | E
        rotate_left
        · have hq : pRightR (saidS X l ++ saidL X.own false X.disc (restL l)) = some E := by rw [HPL.out]; exact hpr
          have hZ : Z = (rejA { X with pcs := [], txt := ⟨#[]⟩, rc := recL X.own false X.disc X.rc (restL l) } 4 Y, ({ X with pcs := [], txt := ⟨#[]⟩, rc := recL X.own false X.disc X.rc (restL l) } : FP).up) := by
            rw [← HZ.out]
            unfold saysP
            rw [show ansE ({ X with pcs := [], txt := ⟨#[]⟩ } : FP).rc (restL l) false = none from HE.out]
            rw [show pRightR (saidS ({ X with pcs := [], txt := ⟨#[]⟩ } : FP) l ++ saidL ({ X with pcs := [], txt := ⟨#[]⟩ } : FP).own false ({ X with pcs := [], txt := ⟨#[]⟩ } : FP).disc (restL l)) = some E from hq]
            rfl
          have hprint := print_bad PL _ w6 hrd6 hall E hpr
          have HPR := Lib.hid hprint
          clear hprint hPL hX6
          go_wp2_with fail
          refine HPR.out.mono ?_
          rintro e w7 ⟨er, rfl, her, hb7⟩
          obtain ⟨t, y, rfl⟩ := perr_iface hpr her
          obtain ⟨i0, i1, i2, i3, i4, i5⟩ := pd_cells (HB6.out.below hb7 HB6.out.lt)
          try simp only at i0 i1 i2 i3 i4 i5
          clear her hpr hq
          go_wp2_with fail
          refine (frefuse_any (HX6.out.on hb7) V (⟨4, now, fl, vals, al, data⟩, ⟨.slice A vals.length cap, av⟩) (HP6.out.on hb7) HRI.out hsz 4 (by decide)).mono ?_
          rintro e w8 ⟨v, rfl, hD⟩
          rw [show headS (⟨4, now, fl, vals, al, data⟩ : PD) = Y from HY.out] at hD
          go_wp2_with fail
          go_ret
          rw [hZ]
          exact ⟨v, rfl, hD.back2 (hnfw6.then_below hb7) hS5w⟩
        · obtain ⟨hp60, hpall⟩ := pRight_none hpr
          have htl := pairsB_len_le PL hpall
          obtain ⟨TX, hTX⟩ : ∃ t : ByteArray, (⟨(pairsB PL).toArray⟩ : ByteArray) = t := ⟨_, rfl⟩
          have htz : TX.size ≤ 19200 := by rw [← hTX, size_mkl]; omega
          obtain ⟨M, hM⟩ : ∃ M, mostN (recL X.own false X.disc X.rc (restL l)) = M := ⟨_, rfl⟩
          have hMr := mostN_rng (recL X.own false X.disc X.rc (restL l))
          rw [hM] at hMr
          have hcnt : cntN TX M ≤ 20000 := by
            unfold cntN
            have : (TX.size + M - 1) / M ≤ 20000 := Nat.div_le_of_le_mul (by omega)
            omega
          obtain ⟨s0, rest, hpcs⟩ : ∃ s0 rest, piecesN TX M (cntN TX M) = s0 :: rest := by
            rcases hq : piecesN TX M (cntN TX M) with _ | ⟨s0, rest⟩
            · have h1 := piecesN_len TX M (cntN TX M)
              rw [hq] at h1
              have h2 : 1 ≤ cntN TX M := Nat.le_max_left _ _
              simp at h1
              omega
            · exact ⟨s0, rest, rfl⟩
          have hq : pRightR (saidS X l ++ saidL X.own false X.disc (restL l)) = none := by rw [HPL.out]; exact hpr
          have hZ : Z = pieceP { X with pcs := piecesN TX M (cntN TX M), txt := ⟨#[]⟩, rc := recL X.own false X.disc X.rc (restL l) } b := by
            rw [← HZ.out]
            unfold saysP
            rw [show ansE ({ X with pcs := [], txt := ⟨#[]⟩ } : FP).rc (restL l) false = none from HE.out]
            rw [show pRightR (saidS ({ X with pcs := [], txt := ⟨#[]⟩ } : FP) l ++ saidL ({ X with pcs := [], txt := ⟨#[]⟩ } : FP).own false ({ X with pcs := [], txt := ⟨#[]⟩ } : FP).disc (restL l)) = none from hq]
            rw [← hTX, ← HPL.out, ← hM]
            rfl
          have hprint := print_ok PL _ w6 hrd6 hall hpr
          rw [hTX] at hprint
          have HPR := Lib.hid hprint
          have HM := Lib.hid hM
          have HPCS := Lib.hid hpcs
          clear hprint hPL hX6 hpr hq hTX hM hpcs hpall
          go_wp2_with fail
          refine HPR.out.mono ?_
          rintro e w7 ⟨rfl, hb7⟩
          have hmost : Calls Tryz.prog 80 #[.pointer (some ⟨f, 0, none⟩)] w7 fun e w' => e = .returned (.int .i64 M) ∧ Below w7.heap.size w7 w' := by
            rw [← HM.out]
            exact fmost_any (HX6.out.on hb7) V
          go_wp2_with fail
          refine hmost.mono ?_
          rintro e w8 ⟨rfl, hb8⟩
          go_wp2_with fail
          refine (split_any TX M w8 (by omega) (by omega) (by omega)).mono ?_
          rintro e w9 ⟨sv9, rfl, hrow9, hb9⟩
          have hb69 := below_step (below_step hb7 hb8) hb9
          have hX9 := HX6.out.on hb69
          have hlt9 := hrow9.lt
          have hty9 : PcTy w9 sv9 (piecesN TX M (cntN TX M)).length := PcTy.of_row hrow9
          have hs9 : SRd w9 sv9 1 (piecesN TX M (cntN TX M)).length ((piecesN TX M (cntN TX M)).map .string) := SRd.of_m hrow9
          obtain ⟨A9, c9, rfl, _⟩ := hrow9.form
          have hlt6 := HX6.out.lt
          have hz69 := (below_step hb7 hb8).size
          have hX10 := hX9.put 13 _ (X' := { X with pcs := piecesN TX M (cntN TX M), txt := ⟨#[]⟩, rc := recL X.own false X.disc X.rc (restL l) }) rfl rfl rfl rfl rfl hs9 (fun k hk => by
            have h1 := (hlt9 k hk).1
            exact ⟨fun h => by have := (hlt6 f (by simp [fS])).1; omega, fun h => by have := (hlt6 gt (by simp [fS])).1; omega, fun h => by have := (hlt6 k (by simp [fS, h])).1; omega⟩) ⟨hX9.ok.cs, hX9.ok.cr, hX9.ok.st, hX9.ok.cm, hX9.ok.tx, hX9.ok.nw, hX9.ok.rc, hX9.ok.nm, by show (piecesN TX M (cntN TX M)).length ≤ 20000; rw [piecesN_len]; exact hcnt⟩ hty9
          have hnf10 : NF (fS f gt S5) w9 (w9.setCell ⟨f, 13, none⟩ (.slice A9 (piecesN TX M (cntN TX M)).length c9)) := (NF.refl _ _).put (.inl (by simp [fS])) 13 _
          have hp10 := (HP6.out.on hb69).nf hnf10 hfar5
          have hB10 := (HB6.out.below hb69 HB6.out.lt).far (p := ⟨f, 13, none⟩) hgf (.slice A9 (piecesN TX M (cntN TX M)).length c9)
          have cf9 : w9.cell? ⟨f, 13, none⟩ = some (.slice none 0 0) := hX9.fb.cell 13
          have ff9 := hX9.fb.frozen 13
          have hnfA := (hnfw6.then_below hb69).trans hnf10 (fun x hx => hS5w x hx)
          obtain ⟨W10, hW10⟩ : ∃ W : World, w9.setCell ⟨f, 13, none⟩ (.slice A9 (piecesN TX M (cntN TX M)).length c9) = W := ⟨_, rfl⟩
          rw [hW10] at hX10 hp10 hB10 hnfA
          obtain ⟨i0, i1, i2, i3, i4, i5⟩ := pd_cells hB10
          try simp only at i0 i1 i2 i3 i4 i5
          have HX10 := Lib.hid hX10
          have HP10 := Lib.hid hp10
          have HNFA := Lib.hid hnfA
          clear hX10 hp10 hnfA hX9 hs9 hrow9 hnf10
          go_upto_region 28 with (fail)
          try refine wp_worldN hW10 ?_
          go_wp2_with fail
          refine (fpiece_any HX10.out V (⟨4, now, fl, vals, al, data⟩, ⟨.slice A vals.length cap, av⟩) HP10.out hfar5 rfl HRI.out s0 rest HPCS.out).mono ?_
          rintro e w11 ⟨v, rfl, hD⟩
          rw [show fN (⟨4, now, fl, vals, al, data⟩ : PD).vals 1 = b from HF1.out] at hD
          go_wp2_with fail
          go_ret
          rw [hZ]
          exact ⟨v, rfl, hD.back2 HNFA.out hS5w⟩
end Go.Proofs.YtamlepacljjpiaaGreatDoor

/- The contracts of full's ask, and of full.Take, of whatever may come. -/
namespace Go.Proofs.YtamlepacljjpiaaGreatDoor
open Go.ChangeShapes Go.WideShapes Go.ChangeAt Go.RowKit Go.Shelf
set_option linter.unusedVariables false
set_option linter.unusedSimpArgs false
theorem fask_any {w0 w : World} {f gn gt : Nat} {Sn : List Nat} {tv pv uv ov pc : Value} {X : FP} (h : FullX w0 w f gn gt Sn tv pv uv ov pc X) (V : Env w0) (x : PD × PdPart) (hp : PdOk w x) (hfar : PdFar (fS f gt Sn) x) (hop : x.1.op = 4) (hright : rightR x.1.op x.1.now x.1.fl x.1.vals = none) (hsz : x.1.data.size ≤ 100000) :
    Calls Tryz.prog 51 #[.pointer (some ⟨f, 0, none⟩), pdV x] w fun e w' => DidX w0 w (fS f gt Sn) f ([(askP X x.1 (headS x.1)).1], (askP X x.1 (headS x.1)).2) e w' := by
  by_cases hT : fN x.1.vals 2 = noneN
  rotate_left
  · exact fask_tag h V x hp hfar hop hright hsz hT
  by_cases hfull : 8192 < X.txt.size + x.1.data.size
  · exact fask_full h V x hp hfar hop hright hsz hT hfull
  rcases hm : moreB x.1.fl with _ | _
  rotate_left
  · exact fask_more h V x hp hfar hop hright hsz hT (by omega) hm
  rcases hr : parseGo ((X.txt ++ x.1.data).size + 1) (X.txt ++ x.1.data).data.toList 0 with E | l
  · exact fask_end h V x hp hfar hop hright hsz hT (by omega) hm (.inl ⟨E, hr⟩)
  rcases hl : lastB x.1.fl with _ | _
  · exact fask_end h V x hp hfar hop hright hsz hT (by omega) hm (.inr hl)
  · exact fask_says h V x hp hfar hop hright hsz hT (by omega) hm hl l hr
theorem fask_c {w0 : World} {S : List Nat} {f : Nat} {X : FP} (V : Env w0) (x : PD × PdPart) (hfar : PdFar S x) (hop : x.1.op = 4) (hright : rightR x.1.op x.1.now x.1.fl x.1.vals = none) (hsz : x.1.data.size ≤ 100000) : AskC w0 S f X x := by
  rintro W X' _ ⟨gn, gt, Sn, tv, pv, uv, ov, pc, hX, rfl⟩ hp
  exact fask_any hX V x hp hfar hop hright hsz
theorem wrong_pd {X : FP} {p : PD} {c : Nat} (h : wrongP X p = some c) : (X.closed = true ∧ c = 6) ∨ (X.closed = false ∧ pduR p.op p.now p.fl p.vals p.al p.data.size = some c) := by
  unfold wrongP at h
  split at h
  · rename_i hc
    injection h with h
    exact .inl ⟨hc, h.symm⟩
  · rename_i hc
    exact .inr ⟨by simpa using hc, h⟩
set_option maxRecDepth 20000 in
set_option maxHeartbeats 4000000 in
theorem ftake_bad {w0 w : World} {S : List Nat} {f : Nat} {X : FP} (hI : FullI w0 w S f X) (V : Env w0) (x : PD × PdPart) (hp : PdOk w x) (c : Nat) (hbad : wrongP X x.1 = some c) :
    Calls Tryz.prog 15 #[.pointer (some ⟨f, 0, none⟩), pdV x] w fun e w' => e = .returned (.tuple #[.slice none 0 0, codeV (some c)]) ∧ Below w.heap.size w w' := by
  obtain ⟨gn, gt, Sn, tv, pv, uv, ov, pc, h, rfl⟩ := hI
  obtain ⟨g, hg⟩ : ∃ g, w.heap.size = g := ⟨_, rfl⟩
  have hb0 : Below w.heap.size w (w.alloc (.cells (pdC x).toArray 41)) := (Below.refl _ _).alloc (Nat.le_refl _) _
  have hB0 : Blk (w.alloc (.cells (pdC x).toArray 41)) g 41 (pdC x).toArray := by rw [← hg]; exact Blk.new w _ _
  obtain ⟨W0, hW0⟩ : ∃ W : World, w.alloc (.cells (pdC x).toArray 41) = W := ⟨_, rfl⟩
  rw [hW0] at hb0 hB0
  have hX0 := h.on hb0
  have hp0 := hp.on hb0
  have V0 := V.on hX0.b
  have hcells := pd_cells hB0
  have hpr := pduRight_any x.1.op x.1.now x.1.fl x.1.vals x.2.u x.1.al x.2.a x.1.data W0 hp0.1 hp0.2.1 hp0.2.2.1 hp0.2.2.2.1 hp0.2.2.2.2.1 hp0.2.2.2.2.2.2.1 hp0.2.2.2.2.2.2.2 V0.L V0.T V0.S
  have hcf : W0.cell? ⟨f, 14, none⟩ = some (.bool X.closed) := hX0.fb.cell 14
  obtain ⟨A, cap, hu⟩ := pd_form hp
  have HB := Lib.hid hb0
  have hbad2 := wrong_pd hbad
  clear hbad h hp hX0 hB0 V0 hp0
  obtain ⟨⟨op, now, fl, vals, al, data⟩, ⟨u, av⟩⟩ := x
  simp only at hu hpr hbad2
  subst hu
  obtain ⟨c0, c1, c2, c3, c4, c5⟩ := hcells
  simp only at c0 c1 c2 c3 c4 c5
  unfold pdV
  simp only
  rcases hbad2 with ⟨hc, rfl⟩ | ⟨hc, hr⟩
  · rw [hc] at hcf
    clear hpr
    go_enter Tryz.func15, Tryz.ntmps15
    go_upto_region 1 with (fail)
    try refine wp_worldN hW0 ?_
    try rw [hg]
    go_wp2_with fail
    go_ret2
    exact ⟨rfl, HB.out⟩
  · rw [hc] at hcf
    rw [hr] at hpr
    have hpr := hpr.mono fun e w' h => (⟨h.1, h.2⟩ : e = .returned (.iface 56 (.int .i64 c)) ∧ Below W0.heap.size W0 w')
    have HPR := Lib.hid hpr
    clear hpr
    go_enter Tryz.func15, Tryz.ntmps15
    go_upto_region 1 with (fail)
    try refine wp_worldN hW0 ?_
    try rw [hg]
    go_wp2_with fail
    refine HPR.out.mono ?_
    rintro e w1 ⟨rfl, hb1⟩
    go_wp2_with fail
    go_ret2
    exact ⟨rfl, below_step HB.out hb1⟩
/- what a take tells, and leaves -/
theorem ftake_any {w0 w : World} {S : List Nat} {f : Nat} {X : FP} (hI : FullI w0 w S f X) (V : Env w0) (x : PD × PdPart) (hp : PdOk w x) (hfar : PdFar S x) :
    Calls Tryz.prog 15 #[.pointer (some ⟨f, 0, none⟩), pdV x] w fun e w' => ∃ v, e = .returned (.tuple #[v, codeV (wrongP X x.1)]) ∧ TookX w0 w S f (takeP X x.1).2 (takeP X x.1).1 v w' := by
  rcases hw : wrongP X x.1 with _ | c
  · have ht : takeP X x.1 = stepP X x.1 (headS x.1) := by unfold takeP; rw [hw]
    rw [ht]
    obtain ⟨_, hright, hsz⟩ := wrong_none hw
    exact ftake_ok hI V x hp hfar hw fun hop => fask_c V x hfar hop hright hsz
  · have ht : takeP X x.1 = ([], X) := by unfold takeP; rw [hw]
    rw [ht]
    refine (ftake_bad hI V x hp c hw).mono ?_
    rintro e w' ⟨rfl, hb⟩
    exact ⟨_, rfl, S, hI.on hb, NF.of_below hb, fun k hk => .inl hk, rfl⟩
end Go.Proofs.YtamlepacljjpiaaGreatDoor
