/- TargetAll: the walk. -/
import Derived.Test.YtifniblffjgfkaaGreatDoorTargetFact
import Derived.Test.YtifniblffjgfkaaGreatDoorTargetAllP
import Derived.Test.YtifniblffjgfkaaGreatDoorPairRow
namespace Go.Proofs.YtifniblffjgfkaaGreatDoor
open Go.ChangeShapes Go.WideShapes Go.ChangeAt Go.RowKit Go.Shelf
set_option linter.unusedVariables false
set_option linter.unusedSimpArgs false
theorem box7a {w : World} {g : Nat} {t : TypeId} {a b c d e f h : Value} (hB : Blk w g t #[a, b, c, d, e, f, h]) : w.cell? ⟨g, 0, none⟩ = some a ∧ w.cell? ⟨g, 1, none⟩ = some b ∧ w.cell? ⟨g, 2, none⟩ = some c ∧ w.cell? ⟨g, 3, none⟩ = some d ∧ w.cell? ⟨g, 4, none⟩ = some e ∧ w.cell? ⟨g, 5, none⟩ = some f ∧ w.cell? ⟨g, 6, none⟩ = some h :=
  ⟨hB.cell 0, hB.cell 1, hB.cell 2, hB.cell 3, hB.cell 4, hB.cell 5, hB.cell 6⟩
theorem tgGo_at : ∀ (l pre : List (List UInt8)) (k : Nat) (q : Option Nat), tgGo pre l = some (k, q) → q ≠ none
  | [], _, k, q, h => by cases h
  | t :: r, pre, k, q, h => by
    rw [tgGo] at h
    split at h
    · exact tgGo_at r _ k q h
    · cases h; simp
theorem poGo_at : ∀ (l : PoL) (i k : Nat) (q : Option Nat), poGo i l = some (k, q) → q ≠ none
  | [], _, k, q, h => by cases h
  | t :: r, i, k, q, h => by
    rw [poGo] at h
    split at h
    · cases h; simp
    · split at h
      · cases h; simp
      · exact poGo_at r _ k q h
theorem usGo_at : ∀ (l : PairL) (pre : List (List UInt8)) (k : Nat) (q : Option Nat), usGo pre l = some (k, q) → q ≠ none
  | [], _, k, q, h => by cases h
  | t :: r, pre, k, q, h => by
    rw [usGo] at h
    split at h
    · exact usGo_at r _ k q h
    · cases h; simp
theorem cRight_code (c : Cfg) (k : Nat) (h : cRight c = some (k, none)) : k ≠ 0 := by
  unfold cRight at h
  split at h
  · cases h; decide
  · split at h
    · rename_i e he
      cases h
      exact absurd rfl (tgGo_at _ _ _ _ he)
    · split at h
      · rename_i e he
        cases h
        exact absurd rfl (poGo_at _ _ _ _ he)
      · split at h
        · rename_i e he
          cases h
          exact absurd rfl (usGo_at _ _ _ _ he)
        · unfold selfR at h
          split at h
          · cases h; decide
          · split at h
            · cases h; decide
            · unfold nNewR at h
              split at h
              · rename_i e he
                cases h
                unfold pRightR at he
                split at he
                · cases he; decide
                · rcases hg : pRightGo c.own 0 with _ | ⟨a, b⟩ <;> rw [hg] at he <;> cases he
              · rcases hg : nNewGo [] c.own with _ | ⟨a, b⟩ <;> rw [hg] at h <;> cases h
theorem right_iface {w : World} {b : Nat} {r : Value} {c : Cfg} {E : Nat × Option Nat} (h : PErr w b r (some E)) (he : cRight c = some E) : ∃ t x, r = .iface t x := by
  obtain ⟨k, q⟩ := E
  rcases q with _ | q
  · have hk := cRight_code c k he
    have : r = errv k := h
    unfold errv at this
    rw [if_neg hk] at this
    exact ⟨_, _, this⟩
  · obtain ⟨g, _, h, _⟩ := h
    exact ⟨_, _, h⟩
theorem listG_all (po : PoL) (x y : List UInt8) (tg : List (List UInt8)) : listG po x true tg = tg.flatMap (oneT po) := by
  unfold listG
  congr 1
set_option maxRecDepth 20000 in
set_option maxHeartbeats 8000000 in
theorem targetAll_law (c : Cfg) (tv pv uv ov : Value) (w : World) (hv : CfgAt w tv pv uv ov c) (hc : c.Small) (hlen : c.tg.length * 16 ≤ 140737488351232 ∧ c.po.length * 24 ≤ 140737488351232 ∧ c.us.length * 32 ≤ 140737488351232 ∧ c.own.length * 32 ≤ 140737488351232)
    (V : Env w) : Calls Tryz.prog 12 #[cfgV tv pv uv ov c] w fun e w' => e = .returned (.bool true) ∧ Below w.heap.size w w' := by
  obtain ⟨A1, cap1, rfl, hm1⟩ := hv.1.form
  obtain ⟨A2, cap2, rfl⟩ : ∃ A cap, pv = .slice A c.po.length cap := by obtain ⟨_, A, cap, h, _⟩ := hv.2.1; exact ⟨A, cap, h⟩
  obtain ⟨g, hg⟩ : ∃ g, w.heap.size = g := ⟨_, rfl⟩
  have hcrow := fun w' (h : Below w.heap.size w w') => crowded_any c _ _ _ _ w' (hv.on h) hc
  have hright := fun w' (h : Below w.heap.size w w') => tright_any c _ _ _ _ w' (hv.on h) hc (V.on h)
  have hlist := fun (X : ByteArray) (all : Bool) (hl : (c.tg.length * (c.po.length + 1) + 1) * 32 ≤ 140737488355328) w' (h : Below w.heap.size w w') => tlist_any c _ _ _ _ X all w' (hv.on h) hc (V.on h).T hl
  have hhas := fun (X : ByteArray) w' (h : Below w.heap.size w w') => has_any c _ _ _ _ X w' (hv.on h)
  have HV := Lib.hid hv
  have HC := Lib.hid hcrow
  have HR := Lib.hid hright
  have HL := Lib.hid hlist
  have HH := Lib.hid hhas
  clear hcrow hright hlist hhas hv hlen
  unfold cfgV at HC HR HL HH ⊢
  have hb0 : Below w.heap.size w (w.alloc (.cells #[.slice A1 c.tg.length cap1, .slice A2 c.po.length cap2, uv, .string c.sn, .string c.ss, .int .i64 c.lim, ov] 77)) := (Below.refl _ _).alloc (Nat.le_refl _) _
  have hB0 : Blk (w.alloc (.cells #[.slice A1 c.tg.length cap1, .slice A2 c.po.length cap2, uv, .string c.sn, .string c.ss, .int .i64 c.lim, ov] 77)) w.heap.size 77 #[.slice A1 c.tg.length cap1, .slice A2 c.po.length cap2, uv, .string c.sn, .string c.ss, .int .i64 c.lim, ov] := Blk.new w _ _
  obtain ⟨n1, hn1⟩ : ∃ n, c.tg.length = n := ⟨_, rfl⟩
  obtain ⟨n2, hn2⟩ : ∃ n, c.po.length = n := ⟨_, rfl⟩
  rw [hn1] at hm1
  rw [hn1, hn2] at HC HR HH HL hb0 hB0 ⊢
  have HN1 := Lib.hid hn1
  have HN2 := Lib.hid hn2
  clear hn1 hn2
  go_enter Tryz.func12, Tryz.ntmps12
  go_wp2_with fail
  refine (listed_any _ (V.on hb0)).mono ?_
  rintro e w1 ⟨rfl, hb1⟩
  have hbw1 := below_step hb0 hb1
  have hB1 := hB0.below hb1 hB0.lt
  rw [hg] at hB1
  clear hb0 hb1 hB0
  go_wp2_with fail
  refine (paired_fact _ (V.on hbw1).L (V.on hbw1).S).mono ?_
  rintro e w2 ⟨rfl, hb2⟩
  have hbw2 := below_step hbw1 hb2
  have hB2 := hB1.below hb2 hB1.lt
  clear hB1 hb2 hbw1
  obtain ⟨c0, c1, c2, c3, c4, c5, c6⟩ := box7a hB2
  go_wp2_with fail
  refine (HC.out _ hbw2).mono ?_
  rintro e w3 ⟨⟨b, rfl⟩, hb3⟩
  have hbw3 := below_step hbw2 hb3
  have hB3 := hB2.below hb3 hB2.lt
  clear hB2 hb3 hbw2 c0 c1 c2 c3 c4 c5 c6
  rcases b with _ | _
  rotate_left
  · go_wp2_with fail
    go_ret
    exact ⟨rfl, hbw3⟩
  obtain ⟨c0, c1, c2, c3, c4, c5, c6⟩ := box7a hB3
  go_wp2_with fail
  refine (HR.out _ hbw3).mono ?_
  rintro e w4 ⟨⟨r, rfl, hr⟩, hb4⟩
  have hbw4 := below_step hbw3 hb4
  have hB4 := hB3.below hb4 hB3.lt
  clear hB3 hb4 hbw3 c0 c1 c2 c3 c4 c5 c6
  rcases hcr : cRight c with _ | E
  rotate_left
  · rw [hcr] at hr
    obtain ⟨t, x, rfl⟩ := right_iface hr hcr
    clear hr hcr
    go_wp2_with fail
    go_ret
    exact ⟨rfl, hbw4⟩
  rw [hcr] at hr
  obtain rfl : r = .nilIface := hr
  obtain ⟨⟨h1, h2, h3⟩, h4, h5, h6, h7⟩ := (cRight_parts c).1 hcr
  obtain ⟨htx, hnd⟩ := tgGo_none _ _ h4
  have hpx := (poGo_none _ _).1 h5
  have hpr := all_right c.po [] c.tg (fun t ht => (htx t ht).1) hpx h1 h2
  rw [HN1.out] at h1
  rw [HN2.out] at h2
  have hlim : (n1 * (n2 + 1) + 1) * 32 ≤ 140737488355328 := by
    have : n1 * (n2 + 1) ≤ 8 * 5 := Nat.mul_le_mul h1 (by omega)
    omega
  have HPR := Lib.hid hpr
  have HND := Lib.hid hnd
  have hn1I : (n1 : Int) ≤ 8 := by omega
  have hn2I : (n2 : Int) ≤ 4 := by omega
  clear hcr h3 h4 h5 h6 h7 htx hpx hpr hnd
  have HL1 := Lib.hid (fun X all => HL.out X all hlim)
  obtain ⟨c0, c1, c2, c3, c4, c5, c6⟩ := box7a hB4
  have hl1 := HL1.out ⟨#[]⟩ true w4 hbw4
  have e1 : tlistP c (⟨#[]⟩ : ByteArray).data.toList true = some (c.tg.flatMap (oneT c.po)) := by unfold tlistP; rw [if_neg (by simp), listG_all _ _ []]
  rw [e1] at hl1
  clear e1 hlim
  go_wp2_with fail
  refine hl1.mono ?_
  rintro e w5 ⟨⟨lv, rfl, hlv⟩, hb5⟩
  have hbw5 := below_step hbw4 hb5
  have hB5 := hB4.below hb5 hB4.lt
  clear hB4 hb5 hbw4 c0 c1 c2 c3 c4 c5 c6 hl1
  have c0 := hB5.cell 0
  have hgl := hB5.lt
  go_wp2_with fail
  go_loopw [5, 31] (fun v i wr => ∃ k : Nat, k ≤ n1 ∧ i = .int .i64 k ∧ PRow wr w5.heap.size v ((c.tg.take k).flatMap (oneT c.po)) ∧ Below w5.heap.size w5 wr) (fun _ i _ => n1 - (intOf i).toNat)
  case atStart => exact ⟨0, Nat.zero_le _, rfl, MRow.nil _ _ _ _, Below.refl _ _⟩
  case round =>
    clear c0
    obtain ⟨k, hk, rfl, hrow, hbr⟩ := hrel
    have hbwr := below_step hbw5 hbr
    have hBr := hB5.below hbr hgl
    obtain ⟨c0, c1, c2, c3, c4, c5, c6⟩ := box7a hBr
    by_cases hlt : k < n1
    · obtain ⟨t, ht⟩ : ∃ t, c.tg[k]? = some t := ⟨_, List.getElem?_eq_getElem (by rw [HN1.out]; exact hlt)⟩
      obtain ⟨b, o, rfl, hb, hcc⟩ := (HV.out.1.on hbwr).at ht
      obtain ⟨Y, hY⟩ : ∃ Y : ByteArray, (⟨t.toArray⟩ : ByteArray) = Y := ⟨_, rfl⟩
      have hYl : Y.data.toList = t := by rw [← hY]
      rw [hY] at hcc
      have hin := List.mem_of_getElem? ht
      have e2 : tlistP c Y.data.toList false = some (oneT c.po t) := by
        unfold tlistP
        rw [hYl, if_neg (fun h => h.2 hin), listG_one _ _ _ HND.out hin]
      have hl2 := HL1.out Y false wr hbwr
      rw [e2] at hl2
      have hh2 := HH.out Y
      rw [show decide (Y.data.toList ∈ c.tg) = true by rw [hYl]; simpa using hin] at hh2
      have HH2 := Lib.hid hh2
      have htk : c.tg.take (k + 1) = c.tg.take k ++ [t] := by rw [List.take_add_one, ht]; rfl
      have hacc := listG_len c.po [] true (c.tg.take k)
      rw [listG_all _ _ [], List.length_take, HN1.out, HN2.out, Nat.min_eq_left hk] at hacc
      have hk5 : k * (n2 + 1) ≤ 8 * 5 := Nat.mul_le_mul (by omega) (by omega)
      obtain ⟨acc, hac⟩ : ∃ l : PairL, (c.tg.take k).flatMap (oneT c.po) = l := ⟨_, rfl⟩
      rw [hac] at hrow hacc
      have hnext : (c.tg.take (k + 1)).flatMap (oneT c.po) = acc ++ oneT c.po t := by rw [htk, List.flatMap_append, hac]; simp
      obtain ⟨o1, ho1⟩ : ∃ l : PairL, oneT c.po t = l := ⟨_, rfl⟩
      have hol : o1.length = n2 + 1 := by rw [← ho1, oneT_len, HN2.out]
      rw [ho1] at hl2 hnext
      have HNX := Lib.hid hnext
      clear hY hYl hin e2 ht htk hh2 hac hnext ho1
      go_wp2_with fail
      refine hl2.mono ?_
      rintro e w6 ⟨⟨lv2, rfl, hlv2⟩, hb6⟩
      have hbr6 := below_step hbr hb6
      have hbw6 := below_step hbw5 hbr6
      have hB6 := hB5.below hbr6 hgl
      have hrow6 := MRow.below hrow hb6 (Nat.le_refl _)
      have hsr6 : SRd w6 lv2 2 o1.length (pairCells o1) := SRd.of_m hlv2
      obtain ⟨A6, cap6, rfl, _⟩ := hlv2.form
      obtain ⟨m, hm⟩ : ∃ m, o1.length = m := ⟨_, rfl⟩
      have hmI : (m : Int) = 1 + (n2 : Int) := by omega
      rw [hm]
      clear c0 c1 c2 c3 c4 c5 c6 hl2 hrow hlv2 hBr
      obtain ⟨c0, c1, c2, c3, c4, c5, c6⟩ := box7a hB6
      go_wp2_with fail
      refine (HH2.out _ hbw6).mono ?_
      rintro e w7 ⟨rfl, hb7⟩
      have hbr7 := below_step hbr6 hb7
      have hrow7 := MRow.below hrow6 hb7 (Nat.le_refl _)
      have hsr7 := hsr6.on hb7
      rw [hm] at hsr7
      have hle : (acc.length + o1.length) * 32 ≤ 140737488355328 := by omega
      clear c0 c1 c2 c3 c4 c5 c6 hrow6 hsr6 hB6
      go_wp2_with (at_builtin; refine wpList_append_pairs _ rfl _ _ rfl w5.heap.size _ acc rfl hrow7 _ o1 rfl (hm ▸ hsr7) hle hbr7.size (w0 := w5) hbr7 ?_)
      intro v8 w8 hr8 hb8 hg8
      go_wp2_with fail
      go_roundw
      case rel => exact ⟨k + 1, by omega, by go_num, by rw [HNX.out]; exact hr8, hb8⟩
      case measure => simp [intOf]; omega
    · obtain rfl : k = n1 := by omega
      rw [List.take_of_length_le (by rw [HN1.out]; exact Nat.le_refl _)] at hrow
      obtain ⟨al, hal⟩ : ∃ l : PairL, c.tg.flatMap (oneT c.po) = l := ⟨_, rfl⟩
      have hpr := HPR.out
      rw [listG_all _ _ [], hal] at hpr
      rw [hal] at hrow hlv
      have hs1 : SRd wr lv 2 al.length (pairCells al) := (SRd.of_m hlv).on hbr
      have hs2 := SRd.of_m hrow
      have hsm : ∀ p ∈ al, psmall p := by
        intro p hp
        have := (pRight_none hpr).2 p hp
        have h1 := valB_len this.2
        have h2 := keyB_len this.1
        rw [len_of] at h1 h2
        exact ⟨by omega, by omega⟩
      clear c0 c1 c2 c3 c4 c5 c6 hBr
      go_wp2_with fail
      refine (pequal_same al lv _ _ hs1 hs2).mono ?_
      rintro e w6 ⟨rfl, kk, rfl⟩
      have hbd : Below wr.heap.size wr (wr.drewN kk) := below_dP (Below.refl _ _) kk
      have hpR := pRight_any al lv _ (hs1.on hbd) hsm
      rw [hpr] at hpR
      have hbw6 := below_step hbwr hbd
      obtain ⟨w6, hw6⟩ : ∃ W : World, wr.drewN kk = W := ⟨_, rfl⟩
      rw [hw6] at hpR hbw6 ⊢
      clear hw6
      go_wp2_with fail
      refine hpR.mono ?_
      rintro e w7 ⟨r, rfl, hr, hb7⟩
      obtain rfl : r = .nilIface := hr
      have hbw7 := below_step hbw6 hb7
      go_wp2_with fail
      go_ret
      exact ⟨rfl, hbw7⟩
end Go.Proofs.YtifniblffjgfkaaGreatDoor
