/- The contract of the answer to one offer. -/
import Derived.Test.YtamlepacljjpiaaGreatDoorNegoOps
namespace Go.Proofs.YtamlepacljjpiaaGreatDoor
open Go.ChangeShapes Go.WideShapes Go.ChangeAt Go.RowKit Go.Shelf
set_option linter.unusedVariables false
theorem nown_some (g : Nat) (S : List Nat) (own rc : PairL) (n D : ByteArray) (r : KeyR) (w : World) (hN : NegoH w S g own rc) (hr : keyRow n.data.toList = some r) (hD : ba (ownL own n) = D) (V : Env w) : Calls Tryz.prog 102 #[.pointer (some ⟨g, 0, none⟩), .string n] w fun e w' =>
    e = .returned (.tuple #[.string D, .nilIface]) ∧ Below w.heap.size w w' := by
  refine (nown_any g S own rc n w hN V).mono ?_
  rintro e w' ⟨rfl, hb⟩
  rw [hr, ← hD]
  exact ⟨rfl, hb⟩
theorem nown_len {own : PairL} (hown : ∀ q ∈ own, q.2.size ≤ 255) (n : ByteArray) : (ba (ownL own n)).size ≤ 255 := by
  unfold ownL
  rcases hf : findB own n with _ | v
  · simp only
    unfold dflOf
    rcases hk : keyRow n.data.toList with _ | r
    · show ([] : List UInt8).length ≤ 255
      simp
    · have := (keyT_len r (keyRow_mem hk)).2.2.2.2.2.2.2
      show (dfl r).length ≤ 255
      unfold dfl
      split
      · simp
      · omega
  · obtain ⟨q, hq, _, rfl⟩ := findB_some hf
    simp only
    rw [ba_of]
    exact hown q hq
set_option maxRecDepth 20000 in
set_option maxHeartbeats 8000000 in
theorem nans_any (g : Nat) (S : List Nat) (own rc : PairL) (k v : ByteArray) (login disc : Bool) (w : World) (hN : NegoH w S g own rc) (hv : v.size ≤ 255) (hown : ∀ q ∈ own, q.2.size ≤ 255) (V : Env w) :
    Calls Tryz.prog 77 #[.pointer (some ⟨g, 0, none⟩), .agg #[.string k, .string v], .bool login, .bool disc] w fun e w' =>
      e = .returned (.tuple #[.string (ba (ansP own login disc (k, v)).1), .string (ba (ansP own login disc (k, v)).2)]) ∧ Below w.heap.size w w' := by
  obtain ⟨z, hz⟩ : ∃ z, w.heap.size = z := ⟨_, rfl⟩
  have hb0 : Below w.heap.size w (w.alloc (.cells #[.string k, .string v] 62)) := (Below.refl _ _).alloc (Nat.le_refl _) _
  have hB0 := Blk.new w 62 #[.string k, .string v]
  rw [hz] at hB0
  have V0 := V.on hb0
  have hN0 := hN.on hb0
  rcases hk : keyRow k.data.toList with _ | r
  · have ha : ansP own login disc (k, v) = (notU, []) := by
      unfold ansP
      show (match keyRow k.data.toList with | none => _ | some r => _) = _
      rw [hk]
    rw [ha]
    have HR := Lib.hid hk
    have hc0 := hB0.cell 0
    clear hk ha hN hN0
    go_enter Tryz.func77, Tryz.ntmps77
    go_wp2_with fail
    refine (of_none k _ HR.out V0.T).mono ?_
    rintro e w1 ⟨rfl, hb1⟩
    unfold zeroK
    go_wp2_with fail
    go_ret2
    exact ⟨rfl, below_step (below_step hb0 hb1) ((Below.refl _ _).alloc (Nat.le_refl _) _)⟩
  · have ha : ansP own login disc (k, v) = ansR own login disc r (k, v) := by
      unfold ansP
      show (match keyRow k.data.toList with | none => _ | some r => _) = _
      rw [hk]
    rw [ha]
    clear ha
    obtain ⟨W0, hW0⟩ : ∃ W0 : World, w.alloc (.cells #[.string k, .string v] 62) = W0 := ⟨_, rfl⟩
    obtain ⟨D, hD⟩ : ∃ D, ba (dfl r) = D := ⟨_, rfl⟩
    obtain ⟨K, hK⟩ : ∃ K : Int, (r.kind : Int) = K := ⟨_, rfl⟩
    obtain ⟨nb, hnb⟩ : ∃ nb, r.noth = nb := ⟨_, rfl⟩
    obtain ⟨lb, hlb⟩ : ∃ lb, r.lonly = lb := ⟨_, rfl⟩
    obtain ⟨O, hO⟩ : ∃ O, ba (ownL own k) = O := ⟨_, rfl⟩
    have hOs : O.size ≤ 255 := by rw [← hO]; exact nown_len hown k
    have hOl : ownL own k = O.data.toList := by rw [← hO]; rfl
    obtain ⟨F, hF⟩ : ∃ F, fitsE k.data.toList v.data.toList = F := ⟨_, rfl⟩
    have HR := Lib.hid hk
    have HD := Lib.hid hD
    have HK := Lib.hid hK
    have HNB := Lib.hid hnb
    have HLB := Lib.hid hlb
    have HO := Lib.hid hO
    have HF := Lib.hid hF
    obtain ⟨R, hR⟩ : ∃ R, ansR own login disc r (k, v) = R := ⟨_, rfl⟩
    rw [hR]
    unfold ansR at hR
    have hkk : (r.kind = 6 ∨ r.kind = 7) ↔ (K = 6 ∨ K = 7) := by omega
    simp only [kB, vB, hnb, hlb, hF, hOl, hkk] at hR
    have HR2 := Lib.hid hR
    have hzW : W0.heap.size = z + 1 := by rw [← hW0, ← hz]; simp
    clear hk hD hK hnb hlb hO hF hR hN hOl hkk
    rw [hW0] at hb0 hB0 V0 hN0
    have c0 := hB0.cell 0
    go_enter Tryz.func77, Tryz.ntmps77
    go_wp2_with fail
    clear hW0 c0
    refine (of_some k r K D nb lb _ HR.out HK.out HD.out HNB.out HLB.out V0.T).mono ?_
    rintro e w1 ⟨rfl, hb1⟩
    have hB1 := hB0.below hb1 hB0.lt
    have V1 := V0.on hb1
    have hN1 := hN0.on hb1
    have hb1w := below_step hb0 hb1
    have hba : Below w1.heap.size w1 (w1.alloc (.cells #[.string ⟨r.name.toArray⟩, .int .i64 K, .int .i64 r.low, .int .i64 r.high, .string D, .bool nb, .bool lb] 177)) := (Below.refl _ _).alloc (Nat.le_refl _) _
    have hBk := Blk.new w1 177 #[.string ⟨r.name.toArray⟩, .int .i64 K, .int .i64 r.low, .int .i64 r.high, .string D, .bool nb, .bool lb]
    have hzk := hB1.lt
    have hB2 := hB1.below hba hB1.lt
    have V2 := V1.on hba
    have hN2 := hN1.on hba
    have hb2w := below_step hb1w hba
    obtain ⟨y, hy⟩ : ∃ y, w1.heap.size = y := ⟨_, rfl⟩
    have hyz : z ≠ y := by omega
    rw [hy] at hBk
    have k1 := hBk.cell 1
    have k5 := hBk.cell 5
    have k6 := hBk.cell 6
    have p0 := hB2.cell 0
    have p1 := hB2.cell 1
    rcases lb with _ | _ <;> rcases login with _ | _ <;> rcases nb with _ | _ <;> rcases disc with _ | _
    all_goals
      have hR := HR2.out
      first
      | (rw [if_pos ⟨rfl, rfl⟩] at hR; subst hR; go_wp2_with fail; go_ret2; exact ⟨rfl, by first | exact hb2w | (rw [← hz]; exact hb2w)⟩)
      | (rw [if_neg (by simp), if_pos ⟨rfl, rfl⟩] at hR; subst hR; go_wp2_with fail; go_ret2; exact ⟨rfl, by first | exact hb2w | (rw [← hz]; exact hb2w)⟩)
      | (rw [if_neg (by simp), if_neg (by simp)] at hR
         have HR3 := Lib.hid hR
         clear hR
         go_wp2_with fail
         refine (fits_any k v _ (by omega) V2.T V2.E V2.S).mono ?_
         rintro e w3 ⟨rfl, hb3⟩
         rw [HF.out]
         have hb3w := below_step hb2w hb3
         have hB3 := hB2.below hb3 hB2.lt
         have hBk3 := hBk.below hb3 hBk.lt
         have V3 := V2.on hb3
         have hN3 := hN2.on hb3
         clear k1 k5 k6 p0 p1
         have k1 := hBk3.cell 1
         have p0 := hB3.cell 0
         have p1 := hB3.cell 1
         have hR := HR3.out
         rcases Nat.eq_zero_or_pos F with rfl | hpos
         · rw [if_neg (by simp)] at hR
           have he0 : errv 0 = .nilIface := rfl
           rw [he0]
           by_cases h67 : K = 6 ∨ K = 7
           · rw [if_pos h67] at hR
             subst hR
             rcases h67 with rfl | rfl
             · go_wp2_with fail
               go_quiet (fail)
               go_wp2_with fail
               go_ret2
               exact ⟨by first | rfl | (simp only [ba_of]), by first | exact below_dK hb3w _ | (rw [← hz]; exact below_dK hb3w _)⟩
             · go_wp2_with fail
               go_quiet (fail)
               go_wp2_with fail
               go_ret2
               exact ⟨by first | rfl | (simp only [ba_of]), by first | exact below_dK hb3w _ | (rw [← hz]; exact below_dK hb3w _)⟩
           · rw [if_neg h67] at hR
             have h6 : ¬ K = 6 := fun h => h67 (.inl h)
             have h7 : ¬ K = 7 := fun h => h67 (.inr h)
             have h6b : (K == 6) = false := by simpa using h6
             have h7b : (K == 7) = false := by simpa using h7
             have HR4 := Lib.hid hR
             clear hR h67
             go_wp2_with fail
             refine (nown_some g S own rc k O r _ hN3 HR.out HO.out V3).mono ?_
             rintro e w4 ⟨rfl, hb4⟩
             have hb4w := below_step hb3w hb4
             have hB4 := hB3.below hb4 hB3.lt
             have V4 := V3.on hb4
             clear k1 p0 p1
             have p0 := hB4.cell 0
             have p1 := hB4.cell 1
             go_wp2_with fail
             have hR := HR4.out
             rcases hres : resE k.data.toList v.data.toList O.data.toList with c | s
             · rw [hres] at hR
               simp only at hR
               subst hR
               refine (result_inl k v O c _ hres (by omega) (by omega) V4).mono ?_
               rintro e w5 ⟨rfl, hb5⟩
               go_wp2_with fail
               go_ret2
               exact ⟨rfl, by first | exact below_step hb4w hb5 | (rw [← hz]; exact below_step hb4w hb5)⟩
             · rw [hres] at hR
               simp only at hR
               subst hR
               refine (result_inr k v O (ba s) _ hres (by omega) (by omega) V4).mono ?_
               rintro e w5 ⟨rfl, hb5⟩
               go_wp2_with fail
               go_ret2
               exact ⟨rfl, by first | exact below_step hb4w hb5 | (rw [← hz]; exact below_step hb4w hb5)⟩
         · rw [if_pos (by omega)] at hR
           subst hR
           have hFe : ∃ t x, errv F = .iface t x := by unfold errv; rw [if_neg (by omega)]; exact ⟨_, _, rfl⟩
           obtain ⟨t, x, hFe⟩ := hFe
           rw [hFe]
           go_wp2_with fail
           go_ret2
           exact ⟨rfl, by first | exact hb3w | (rw [← hz]; exact hb3w)⟩)
end Go.Proofs.YtamlepacljjpiaaGreatDoor
