/- The contract of the laws' helper stream, and slices.EqualFunc of PDUs and pieces. -/
import Derived.Test.YtifniblffjgfkaaGreatDoorFeedCutsW
import Derived.Test.YtifniblffjgfkaaGreatDoorOpenPdus
namespace Go.Proofs.YtifniblffjgfkaaGreatDoor
open Go.ChangeShapes Go.WideShapes Go.ChangeAt Go.RowKit Go.Shelf
set_option linter.unusedVariables false
def pdR (x : PD) : HeadR := (headRow x.op).getD (0, [], 0, [])
def pdB (k : Nat) (x : PD) : List UInt8 := PB (pdR x) x.now x.fl.toNat x.vals x.al x.data k
def pdP (x : PD) : Pc := pcOf (pdR x) x.now x.fl.toNat x.vals x.al x.data
structure PdGood (x : PD) : Prop where
  op : ((pdR x).1 : Int) = x.op
  fl : ((x.fl.toNat : Nat) : Int) = x.fl
  right : PduR (pdR x) x.now x.fl.toNat x.vals x.al x.data
  small : x.data.size ≤ 2500
theorem pd_good (x : PD) (hr : pduR x.op x.now x.fl x.vals x.al x.data.size = none) (hf : x.fl ≤ 9223372036854775807) (hl : ∀ y ∈ x.vals, y < 18446744073709551616) (hs : x.data.size ≤ 2500) : PdGood x := by
  obtain ⟨r, F, e1, hrow, e2, hF, h1, h2, h5⟩ := pdu_row hr hf
  have hrow' : headRow (r.1 : Int) = some r := hrow
  have hR : pdR x = r := by unfold pdR; rw [e1, hrow']; rfl
  have hFe : x.fl.toNat = F := by omega
  refine ⟨by rw [hR, e1], by omega, ?_, hs⟩
  rw [hR, hFe]
  exact ⟨hrow', hF, hl, h1, h2, h5⟩
theorem flat_len (k : Nat) : ∀ xs : List PD, (∀ x ∈ xs, PdGood x) → (xs.flatMap (pdB k)).length ≤ 3700 * xs.length
  | [], _ => by simp
  | x :: xs, h => by
    rw [List.flatMap_cons, List.length_append, List.length_cons]
    have h1 := flat_len k xs (fun y hy => h y (List.mem_cons_of_mem _ hy))
    have hx := h x (List.mem_cons_self ..)
    have h2 := (PB_bound (pdR x) x.now x.fl.toNat x.vals x.al x.data k hx.right.row hx.right.ahs).2.1
    have h3 := hx.small
    have h4 : (pdB k x).length = (PB (pdR x) x.now x.fl.toNat x.vals x.al x.data k).length := rfl
    omega
/- all that is written comes -/
theorem all_pds (k : Nat) (R : List UInt8) : ∀ xs : List PD, (∀ x ∈ xs, PdGood x) → allF 100000 (hdM k) (ddM k) (xs.flatMap (pdB k) ++ R) = (xs.map pdP ++ (allF 100000 (hdM k) (ddM k) R).1, (allF 100000 (hdM k) (ddM k) R).2.1, (allF 100000 (hdM k) (ddM k) R).2.2)
  | [], _ => Prod.ext rfl (Prod.ext rfl rfl)
  | x :: xs, h => by
    have hx := h x (List.mem_cons_self ..)
    have ih := all_pds k R xs (fun y hy => h y (List.mem_cons_of_mem _ hy))
    have hb := all_back hx.right 100000 k (xs.flatMap (pdB k) ++ R) hx.right.size
    rw [List.flatMap_cons, List.append_assoc]
    refine hb.trans ?_
    rw [ih]
    rfl
def StreamIs (xs : List PD) (k : Nat) (e : Ending) : Prop := ∃ (S : ByteArray) (b : Bool), e = .returned (.tuple #[.string S, .bool b]) ∧ (b = true → S.data.toList = xs.flatMap (pdB k) ∧ (∀ x ∈ xs, PdGood x) ∧ S.size ≤ 5000)
set_option maxRecDepth 20000 in
set_option maxHeartbeats 4000000 in
theorem stream_any (L : List (PD × PdPart)) (v : Value) (k : Nat) (w : World) (hv : PdsRd w v L) (h20 : L.length ≤ 20) (hk : k < 4) (hL : LaidE w) (T : Tabs w) (hS : w.ShapedOpen Tryz.prog) :
    Calls Tryz.prog 28 #[v, .int .i64 k] w fun e w' => StreamIs (L.map (·.1)) k e ∧ Below w.heap.size w w' := by
  obtain ⟨hv1, hv2⟩ := hv
  obtain ⟨N, hN⟩ : ∃ N, L.length = N := ⟨_, rfl⟩
  obtain ⟨A, cap, rfl⟩ : ∃ A cap, v = .slice A N cap := by obtain ⟨_, A, cap, hv, _⟩ := hv1; exact ⟨A, cap, by rw [hv, hN]⟩
  have hN20 : N ≤ 20 := by omega
  have HV1 := Lib.hid hv1
  have HV2 := Lib.hid hv2
  have HN := Lib.hid hN
  clear hv1 hv2 hN h20
  go_enter Tryz.func28, Tryz.ntmps28
  go_wp2_with fail
  go_loopw [6, 13] (fun s i wr => ∃ (j : Nat) (S : ByteArray), j ≤ N ∧ i = .int .i64 j ∧ s = .string S ∧ S.data.toList = ((L.take j).map (·.1)).flatMap (pdB k) ∧ (∀ x ∈ (L.take j).map (·.1), PdGood x) ∧ S.size ≤ 100000 ∧ Below w.heap.size w wr) (fun _ i _ => N - (intOf i).toNat)
  case atStart => exact ⟨0, ⟨#[]⟩, Nat.zero_le _, rfl, rfl, rfl, (fun x hx => by simp at hx), by decide, Below.refl _ _⟩
  case round =>
    obtain ⟨j, S, hj, rfl, rfl, hSl, hSg, hSz, hbw⟩ := hrel
    by_cases hlt : j < N
    · obtain ⟨x, hx⟩ : ∃ x, L[j]? = some x := ⟨_, List.getElem?_eq_getElem (by rw [HN.out]; exact hlt)⟩
      obtain ⟨b, o, cp, hv, hbl, c0, c1, c2, c3, c4, c5⟩ := PdsRd.pdu (HV1.out.on hbw) hx
      injection hv with e1 e2 e3
      subst e1
      subst e3
      have hok := (HV2.out x (List.mem_of_getElem? hx)).on hbw
      have htk : (L.take (j + 1)).map (·.1) = (L.take j).map (·.1) ++ [x.1] := by rw [List.take_add_one, hx, List.map_append]; rfl
      obtain ⟨x, P⟩ := x
      obtain ⟨op, now, fl, vals, al, data⟩ := x
      obtain ⟨u, a⟩ := P
      obtain ⟨k1, k2, k3, k4, k5, k6, k7, k8⟩ := hok
      simp only at k1 k2 k3 k4 k5 k6 k7 k8 c0 c1 c2 c3 c4 c5
      obtain ⟨UA, ucap, rfl⟩ : ∃ A cap, u = .slice A vals.length cap := by obtain ⟨_, A, cap, hv, _⟩ := k3; exact ⟨A, cap, hv⟩
      obtain ⟨AA, acap, rfl⟩ : ∃ A cap, a = .slice A al.length cap := by obtain ⟨_, A, cap, hv, _⟩ := k5; exact ⟨A, cap, hv⟩
      have HTK := Lib.hid htk
      have HSL := Lib.hid hSl
      have HSG := Lib.hid hSg
      have K4 := Lib.hid k4
      have K6 := Lib.hid k6
      have K7 := Lib.hid k7
      clear hx htk hSl hSg e2 k4 k6 k7
      have hb1 : Below wr.heap.size wr (wr.alloc (.cells #[.int .i64 op, .bool now, .int .i64 fl, .slice UA vals.length ucap, .slice AA al.length acap, .string data] 38)) := (Below.refl _ _).alloc (Nat.le_refl _) _
      have hZ1 := Blk.new wr 38 #[.int .i64 op, .bool now, .int .i64 fl, .slice UA vals.length ucap, .slice AA al.length acap, .string data]
      have hb1w := below_step hbw hb1
      go_wp2_with fail
      refine (large_any op now fl vals _ al _ data _ (k3.on hb1) (k5.on hb1) K7.out k8).mono ?_
      rintro e w2 ⟨⟨bl, rfl, hsm⟩, hb2⟩
      have hb2r := below_step hb1 hb2
      have hb2w := below_step hb1w hb2
      have hZ2 := Blk.below hZ1 hb2 hZ1.lt
      clear c0 c1 c2 c3 c4 c5
      have c0 := hZ2.cell 0
      have c1 := hZ2.cell 1
      have c2 := hZ2.cell 2
      have c3 := hZ2.cell 3
      have c4 := hZ2.cell 4
      have c5 := hZ2.cell 5
      rcases bl with _ | _
      rotate_left
      · go_wp2_with fail
        go_ret2
        exact ⟨⟨_, false, rfl, fun h => by cases h⟩, hb2w⟩
      obtain ⟨hz1, hz2⟩ := hsm rfl
      clear hsm
      rcases hr : pduR op now fl vals al data.size with _ | cc
      rotate_left
      · have HR := Lib.hid hr
        clear hr
        go_wp2_with fail
        refine (pduRight_bad op now fl vals _ al _ data cc _ HR.out k1 k2 (k3.on hb2r) K4.out (k5.on hb2r) K7.out k8 (hL.on hb2w) (T.on hb2w) (shaped_ons hS hb2w)).mono ?_
        rintro e w3 ⟨rfl, hb3⟩
        go_wp2_with fail
        go_ret2
        exact ⟨⟨_, false, rfl, fun h => by cases h⟩, below_step hb2w hb3⟩
      have hgood := pd_good ⟨op, now, fl, vals, al, data⟩ hr k2.2 K4.out hz2
      have HG := Lib.hid hgood
      have HR := Lib.hid hr
      clear hr hgood
      go_wp2_with fail
      refine (pduRight_nil op now fl vals _ al _ data _ HR.out k1 k2 (k3.on hb2r) K4.out (k5.on hb2r) K7.out k8 (hL.on hb2w) (T.on hb2w) (shaped_ons hS hb2w)).mono ?_
      rintro e w3 ⟨rfl, hb3⟩
      have hb3r := below_step hb2r hb3
      have hb3w := below_step hb2w hb3
      have hZ3 := Blk.below hZ2 hb3 hZ2.lt
      clear c0 c1 c2 c3 c4 c5
      have c0 := hZ3.cell 0
      have c1 := hZ3.cell 1
      have c2 := hZ3.cell 2
      have c3 := hZ3.cell 3
      have c4 := hZ3.cell 4
      have c5 := hZ3.cell 5
      obtain ⟨X, hX⟩ : ∃ X : ByteArray, X = ⟨(pdB k ⟨op, now, fl, vals, al, data⟩).toArray⟩ := ⟨_, rfl⟩
      have hXl : X.data.toList = pdB k ⟨op, now, fl, vals, al, data⟩ := by rw [hX]
      have hwr := pduWrite_to X now fl.toNat vals (.slice UA vals.length ucap) al (.slice AA al.length acap) data k (pdR ⟨op, now, fl, vals, al, data⟩) w3 hk HG.out.right.row HG.out.right.fl HG.out.right.right HG.out.right.ahs HG.out.right.size hX (k3.on hb3r) K4.out (k5.on hb3r) K7.out (hL.on hb3w) (T.on hb3w) (shaped_ons hS hb3w)
      rw [HG.out.op, HG.out.fl] at hwr
      have hSG2 : ∀ y ∈ (L.take (j + 1)).map (·.1), PdGood y := by
        intro y hy
        rw [HTK.out] at hy
        rcases List.mem_append.1 hy with hy | hy
        · exact HSG.out y hy
        · simp only [List.mem_singleton] at hy
          rw [hy]
          exact HG.out
      have hSL2 : (S ++ X).data.toList = ((L.take (j + 1)).map (·.1)).flatMap (pdB k) := by rw [cat_l, HSL.out, hXl, HTK.out, List.flatMap_append]; simp
      have hlt2 := flat_len k _ hSG2
      have hSz2 : (S ++ X).size ≤ 100000 := by
        rw [← len_of, hSL2]
        have : ((L.take (j + 1)).map (·.1)).length ≤ 20 := by rw [List.length_map, List.length_take]; omega
        omega
      have hXz : X.size ≤ 100000 := by rw [ByteArray.size_append] at hSz2; omega
      have HSL2 := Lib.hid hSL2
      have HSG2 := Lib.hid hSG2
      have HWR := Lib.hid hwr
      clear hX hXl hwr hSG2 hSL2 hlt2
      go_wp2_with fail
      refine HWR.out.mono ?_
      rintro e w4 ⟨rfl, hb4⟩
      have hb4w := below_step hb3w hb4
      clear c0 c1 c2 c3 c4 c5
      go_wp2_with fail
      go_roundw
      case rel => exact ⟨j + 1, _, by omega, by go_num, rfl, HSL2.out, HSG2.out, hSz2, hb4w⟩
      case measure => simp [intOf]; omega
    · obtain rfl : j = N := by omega
      have htk : L.take j = L := List.take_of_length_le (by rw [HN.out]; exact Nat.le_refl _)
      rw [htk] at hSl hSg
      have HSL := Lib.hid hSl
      have HSG := Lib.hid hSg
      clear hSl hSg htk
      go_wp2_with fail
      go_ret2
      exact ⟨⟨S, _, rfl, fun h => ⟨HSL.out, HSG.out, (by have h5 : (S.size : Int) ≤ 5000 := (by simpa using h); omega)⟩⟩, hbw⟩
end Go.Proofs.YtifniblffjgfkaaGreatDoor
