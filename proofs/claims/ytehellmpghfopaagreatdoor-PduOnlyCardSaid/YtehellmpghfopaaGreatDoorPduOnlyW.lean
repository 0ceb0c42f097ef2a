/- The walk of the law PduOnly. -/
import Derived.Test.YtehellmpghfopaaGreatDoorPduBackW
namespace Go.Proofs.YtehellmpghfopaaGreatDoor
open Go.ChangeShapes Go.WideShapes Go.ChangeAt Go.RowKit Go.Shelf
set_option linter.unusedVariables false
/- of additional headers that were read: they are right, and are written so -/
theorem only_parts (L : List UInt8) (hd dd : Bool) (h : prE L hd dd = none) : ∃ (r : HeadR) (l : AhsL), headRow ((rB L 0 % 64 : Nat) : Int) = some r ∧ (rB L 0 % 64) = r.1 ∧ readGo 1021 (moreS L) 0 = .inr l ∧ rightR (r.1 : Int) (decide (64 ≤ rB L 0)) (rB L 1) (readV r.2.2.2 (L.take 48)) = none ∧ rightGo l 0 0 = none ∧
    (bodyS L hd).length ≤ 100000 ∧ 48 ≤ allN L hd dd ∧ allN L hd dd ≤ L.length ∧
    pduB (layAll (headB r.1 (decide (64 ≤ rB L 0)) (rB L 1) ((ahsB l).length / 4) (bodyS L hd).length) r.2.2.2 (readV r.2.2.2 (L.take 48))) (ahsB l) (bodyS L hd) hd dd = L.take (allN L hd dd) := by
  obtain ⟨q0, q1, q2, A, M, B, R, al, a1, a2, a3, a4, a5, a6, a7, a8, a9, a10, a11⟩ := pdu_only L hd dd h
  have e0 : rB A 0 = rB L 0 := by rw [← a1]; exact rB_take L 48 0 (by omega)
  have e1 : rB A 1 = rB L 1 := by rw [← a1]; exact rB_take L 48 1 (by omega)
  obtain ⟨r, r1, r2, r3, r4⟩ := readE_ok a5
  rw [e0] at r1 r2 r3
  rw [e1] at r2 r3
  have ho := headRow_op r1
  have ho' : rB L 0 % 64 = r.1 := by omega
  have hB4 := rB_lt A 4
  obtain ⟨k1, k2, k3⟩ := readGo_ok 1021 M 0 al (by omega) a6
  have hsum : sumLen al = M.length := by rw [← ahsB_len, k1]
  have hnone := right_some_iff al 0 0 (by omega) k2 (by omega)
  have hbody : bodyS L hd = B.take (dataN L) := by
    unfold bodyS
    rw [← a3, List.take_take, Nat.min_eq_left (by omega)]
  rw [ho'] at r1 r2
  refine ⟨r, al, by rw [ho']; exact r1, ho', by rw [← a6, ← a2]; rfl, by rw [a1]; exact r2, hnone, by rw [hbody, a9]; exact a10, q2, q1, ?_⟩
  rw [hbody, a9, a11, a1]
  congr 1
  · have e4 : (ahsB al).length / 4 = rB A 4 := by rw [k1, a7]; omega
    rw [e4]
    have e5 : dataN L = rB A 5 * 65536 + rB A 6 * 256 + rB A 7 := by rw [← a8]; rfl
    rw [e5]
    exact r3
set_option maxRecDepth 20000 in
set_option maxHeartbeats 2000000 in
theorem onlyPdu (s : ByteArray) (mode : Int) (w : World) (hs : s.size ≤ 140737488351232) (hm : -9223372036854775808 ≤ mode ∧ mode ≤ 9223372036854775807) (hL : LaidE w) (T : Tabs w) (hS : w.ShapedOpen Tryz.prog) :
    Calls Tryz.prog 4 #[.string s, .int .i64 mode] w fun e w' => e = .returned (.bool true) ∧ Below w.heap.size w w' := by
  obtain ⟨k, hk, hk4⟩ := pickN mode 4 (by omega)
  have HK := Lib.hid hk
  clear hk
  go_enter Tryz.func4, Tryz.ntmps4
  go_wp2_with fail
  refine (wrapped_fact _ hL T hS).mono ?_
  rintro e w1 ⟨rfl, hb1⟩
  by_cases h3 : 3000 < s.size
  · go_wp2_with fail
    go_ret
    exact ⟨rfl, hb1⟩
  go_wp2_with fail
  refine (pick_to mode 4 k HK.out (by omega) (by omega) _).mono ?_
  rintro e w' ⟨rfl, rfl⟩
  go_wp2_with fail
  refine (pduRead_any s k _ hk4 (by omega) (hL.on hb1) (T.on hb1) (shaped_ons hS hb1)).mono ?_
  rintro e w2 ⟨hp, hb2⟩
  have hbw2 := below_step hb1 hb2
  unfold pduIs at hp
  rcases hE : prE s.data.toList (hdM k) (ddM k) with _ | c
  · rw [hE] at hp
    obtain ⟨r0, A, cap, al, B, bcap, p1, p2, rfl, p4, p5⟩ := hp
    obtain ⟨r, l, q1, q2, q3, q4, q5, q6, q7, q8, q9⟩ := only_parts _ _ _ hE
    rw [len_of] at q8
    obtain rfl : r0 = r := Option.some.inj (p1.symm.trans q1)
    obtain rfl : al = l := Sum.inr.inj (p2.symm.trans q3)
    have hrm := headRow_mem q1
    have hsm := readV_small r0 hrm (s.data.toList.take 48)
    have hF := rB_lt s.data.toList 1
    rw [q2] at q1 p1 ⊢
    obtain ⟨VS, hVS⟩ : ∃ VS, readV r0.2.2.2 (s.data.toList.take 48) = VS := ⟨_, rfl⟩
    obtain ⟨NOW, hNOW⟩ : ∃ NOW, decide (64 ≤ rB s.data.toList 0) = NOW := ⟨_, rfl⟩
    obtain ⟨FL, hFL⟩ : ∃ FL, rB s.data.toList 1 = FL := ⟨_, rfl⟩
    obtain ⟨N, hN⟩ : ∃ N, allN s.data.toList (hdM k) (ddM k) = N := ⟨_, rfl⟩
    obtain ⟨D, hD⟩ : ∃ D : ByteArray, (⟨(bodyS s.data.toList (hdM k)).toArray⟩ : ByteArray) = D := ⟨_, rfl⟩
    have hDl : D.data.toList = bodyS s.data.toList (hdM k) := by rw [← hD]
    have hDz : D.size ≤ 100000 := by rw [← len_of, hDl]; exact q6
    rw [hVS] at p4 hsm q4 ⊢
    rw [hNOW] at q4 ⊢
    rw [hFL] at hF q4 ⊢
    rw [hN] at q7 q8 q9 ⊢
    rw [hD]
    rw [hVS, hNOW, hFL, ← hDl] at q9
    rw [len_of] at q9
    have hp5 := SRd.of_m p5
    have hT : s.extract 0 N = ⟨(PB r0 NOW FL VS al D k).toArray⟩ := by
      rw [ext_of, List.drop_zero, Nat.sub_zero, ← q9]
      rfl
    obtain ⟨W, hW⟩ : ∃ W : ByteArray, s.extract 0 N = W := ⟨_, rfl⟩
    rw [hW] at hT
    have hall := right_none al 0 0 (by omega) q5
    have hd : ∀ p ∈ al, p.2.size ≤ 140737488351232 := fun p hp => by have := (hall.1 p hp).2.2; omega
    have HT := Lib.hid hT
    have HROW := Lib.hid q1
    have H1 := Lib.hid q4
    have H2 := Lib.hid q5
    have h64 := headT_small r0 hrm
    have hPD : pduR (r0.1 : Int) NOW FL VS al D.size = none := by rw [pduR, q4]; simp only; rw [q5]; simp only; rw [if_neg (by omega)]
    have HPD := Lib.hid hPD
    have hNs : (N : Int) ≤ s.size := by omega
    have hN48 : (48 : Int) ≤ N := by omega
    obtain ⟨g, hg⟩ : ∃ g, w2.heap.size = g := ⟨_, rfl⟩
    clear p1 p2 p5 q1 q2 q3 q4 q5 q6 q9 hVS hNOW hFL hN hD hDl hE hT hall hPD hb2
    go_wp2_with fail
    obtain ⟨w3, hw3⟩ : ∃ w3 : World, w2.alloc (.cells #[.int .i64 r0.1, .bool NOW, .int .i64 FL, .slice A VS.length cap, .slice B al.length bcap, .string D] 27) = w3 := ⟨_, rfl⟩
    have hb3 : Below w2.heap.size w2 w3 := by rw [← hw3]; exact (Below.refl _ _).alloc (Nat.le_refl _) _
    have hB3 : Blk w3 g 27 #[.int .i64 r0.1, .bool NOW, .int .i64 FL, .slice A VS.length cap, .slice B al.length bcap, .string D] := by rw [← hw3, ← hg]; exact Blk.new w2 _ _
    have hb3w := below_step hbw2 hb3
    have hv3 := p4.on hb3
    have ha3 := hp5.on hb3
    rw [hw3]
    try rw [hg]
    have c0 := hB3.cell 0
    have c1 := hB3.cell 1
    have c2 := hB3.cell 2
    have c3 := hB3.cell 3
    have c4 := hB3.cell 4
    have c5 := hB3.cell 5
    clear hw3 hg hb3 p4 hp5 hbw2
    refine (pduWrite_to W NOW FL VS _ al _ D k r0 _ hk4 HROW.out hF H1.out H2.out hDz HT.out hv3 hsm ha3 hd (hL.on hb3w) (T.on hb3w) (shaped_ons hS hb3w)).mono ?_
    rintro e w4 ⟨rfl, hb4⟩
    have hv4 := hv3.on hb4
    have ha4 := ha3.on hb4
    clear c0 c1 c2 c3 c4 c5
    have hb4w := below_step hb3w hb4
    have hB4 := hB3.below hb4 hB3.lt
    have c0 := hB4.cell 0
    have c1 := hB4.cell 1
    have c2 := hB4.cell 2
    have c3 := hB4.cell 3
    have c4 := hB4.cell 4
    have c5 := hB4.cell 5
    clear hB3 hb4
    go_wp2_with fail
    refine (pduRight_nil (r0.1 : Int) NOW FL VS _ al _ D _ HPD.out (by omega) (by omega) hv4 hsm ha4 hd (by omega) (hL.on hb4w) (T.on hb4w) (shaped_ons hS hb4w)).mono ?_
    rintro e w5 ⟨rfl, hb5⟩
    have hb5w := below_step hb4w hb5
    go_wp2_with fail
    go_ret
    exact ⟨by simp, hb5w⟩
  · rw [hE] at hp
    obtain rfl : e = _ := hp
    unfold zeroP
    clear hE
    go_wp2_with fail
    have hb23 : Below w2.heap.size w2 (w2.alloc (.cells #[.int .i64 0, .bool false, .int .i64 0, .slice none 0 0, .slice none 0 0, .string ⟨#[]⟩] 27)) := (Below.refl _ _).alloc (Nat.le_refl _) _
    refine (samePdu_yes 0 false 0 [] [] _ _ _ _ _ _ (srd_nil _) (srd_nil _) (nilS _ 2) (nilS _ 2)).mono ?_
    rintro e w4 ⟨rfl, hb4⟩
    go_wp2_with fail
    go_ret
    exact ⟨rfl, below_step (below_step hbw2 hb23) hb4⟩
end Go.Proofs.YtehellmpghfopaaGreatDoor
