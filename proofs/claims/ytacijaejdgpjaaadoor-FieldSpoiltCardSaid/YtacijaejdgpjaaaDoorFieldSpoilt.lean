/- The walk of the law FieldSpoilt: it returns true, whatever its arguments. -/
import Derived.Test.YtacijaejdgpjaaaDoorFieldDoor
import Derived.RegionTactic
import Derived.ChangeAlike
namespace Go.Proofs.YtacijaejdgpjaaaDoor
open Go.ChangeShapes Go.WideShapes Go.ChangeAt Go.RowKit
set_option linter.unusedVariables false
theorem spoilt_pure (l : List UInt8) (j : Nat) (c : UInt8) (hj : l.length + j < (padded l).length) (hc : c ≠ 0) : unpadE ((padded l).set (l.length + j) c) l.length = 3 := by
  have hp := padI_rng l.length
  have g1 : (padded l).length = l.length + (padI l.length).toNat := by simp [padded]
  have e1 : ((padded l).set (l.length + j) c).take l.length = l := by
    rw [List.take_set_of_le (by omega)]
    unfold padded
    rw [List.take_append_of_le_length (Nat.le_refl _), List.take_length]
  unfold unpadE
  rw [if_neg (by omega), if_neg (by rw [List.length_set, g1]; omega), Int.toNat_natCast, e1, if_neg]
  intro h
  have h2 : ((l.length : Int) + padI l.length).toNat = (padded l).length := by omega
  rw [h2, List.take_of_length_le (by rw [List.length_set]; exact Nat.le_refl _)] at h
  have h3 := congrArg (fun m => m[l.length + j]?) h
  simp only [List.getElem?_set_self hj] at h3
  unfold padded at h3
  rw [List.getElem?_append_right (by omega), List.getElem?_replicate] at h3
  split at h3
  · cases h3; exact hc rfl
  · cases h3
theorem spoilt_zero (l : List UInt8) (j : Nat) (hj : l.length + j < (padded l).length) : (padded l).set (l.length + j) 0 = padded l := by
  have g1 : (padded l).length = l.length + (padI l.length).toNat := by simp [padded]
  apply List.ext_getElem?
  intro i
  rw [List.getElem?_set]
  split
  · rename_i e
    subst e
    have h0 : (padded l)[l.length + j]? = some 0 := by
      rw [padded, List.getElem?_append_right (by omega), List.getElem?_replicate, if_pos (by omega)]
    rw [h0]
  · rfl
theorem spoilt_cut (l m : List UInt8) (h : m.length < l.length + (padI l.length).toNat) : unpadE m l.length = 7 := by
  have hp := padI_rng l.length
  unfold unpadE
  rw [if_neg (by omega), if_pos (by omega)]
theorem spoiltField (s : ByteArray) (at_ c : Int) (w : World) (hs : s.size ≤ 140737488351232) (ha : -9223372036854775808 ≤ at_ ∧ at_ ≤ 9223372036854775807) (hc : 0 ≤ c ∧ c ≤ 255) (hL : LaidE w) (hS : w.ShapedOpen Tryd.prog) :
    Calls Tryd.prog 5 #[.string s, .int .i64 at_, .int .u8 c] w fun e w' => e = .returned (.bool true) ∧ Below w.heap.size w w' := by
  clear hS ha
  go_enter Tryd.func5, Tryd.ntmps5
  go_wp2_with fail
  refine (put_fact _).mono ?_
  rintro e w1 ⟨rfl, hb1⟩
  have hL1 := hL.on hb1
  by_cases h3 : 300 < s.size
  · go_wp2_with fail
    go_ret
    exact ⟨rfl, hb1⟩
  · by_cases h4 : s.size % 4 = 0
    · have f4 : ((s.size : Int) % 4 == 0) = true := by rw [beq_iff_eq]; omega
      clear h4
      go_wp2_with fail
      go_ret
      exact ⟨rfl, hb1⟩
    · have f4 : ((s.size : Int) % 4 == 0) = false := by rw [beq_eq_false_iff_ne]; omega
      have g1 : (padded s.data.toList).length = s.size + (padI s.size).toNat := by simp [padded]
      have hp := padI_rng s.size
      have hp1 : 1 ≤ padI s.size := by unfold padI; split <;> omega
      clear h4
      go_wp2_with fail
      refine (padded_any _ _ (by omega)).mono ?_
      rintro e w' ⟨rfl, rfl⟩
      have HG := Lib.hid g1
      have g2 : (padded s.data.toList).length ≤ 400 := by omega
      have g3 : (s.size : Int) < (padded s.data.toList).length := by omega
      clear g1
      obtain ⟨cap, C, fr, hcap, hC, hfr, hconv⟩ := bytes_of w1 ⟨(padded s.data.toList).toArray⟩
      have hC' : C = ((padded s.data.toList).map byteV ++ List.replicate (cap - (padded s.data.toList).length) (byteV 0)).toArray := hC
      have hcap' : (padded s.data.toList).length ≤ cap := hcap
      have hB0 := Eq.mp (congrArg (fun x => BlkM (w1.alloc (.cells C 5 fr)).drew w1.heap.size 5 x) hC') (BlkM.new w1 5 C fr.1 fr.2 hfr)
      have hb2 : Below w.heap.size w (w1.alloc (.cells C 5 fr)).drew := (hb1.alloc hb1.size _).drew
      have hL2 : LaidE (w1.alloc (.cells C 5 fr)).drew := (hL1.alloc _).drewN 1
      have HB0 := Lib.hid hB0
      clear hC hC' hB0 hcap hfr
      go_wp2_with fail
      refine (pick_any _ _ _ (by omega) (by omega)).mono ?_
      rintro e w' ⟨rfl, rfl⟩
      have hr := pick_rng at_ ((padded s.data.toList).length - s.size) (by omega)
      obtain ⟨j, hj⟩ := Int.eq_ofNat_of_zero_le hr.1
      rw [hj] at hr ⊢
      clear hj
      obtain ⟨d, rfl⟩ : ∃ d : UInt8, c = d.toNat := ⟨UInt8.ofNat c.toNat, by simp; omega⟩
      have hjl : s.size + j < (padded s.data.toList).length := by omega
      have hB0 := HB0.out
      clear HB0 hconv
      generalize (w1.alloc (.cells C 5 fr)).drew = W0 at *
      obtain ⟨c0, hc0⟩ : ∃ c0, (padded s.data.toList)[s.size + j]? = some c0 := ⟨_, List.getElem?_eq_getElem hjl⟩
      have hc := (hB0.cell (s.size + j)).trans (rowGet hc0)
      have hfz := hB0.frozen (s.size + j) (rowSize hjl)
      have hput := hB0.put (s.size + j) (byteV d)
      rw [rowSet _ hjl] at hput
      have hlM : ((padded s.data.toList).set (s.size + j) d).length = (padded s.data.toList).length := List.length_set
      have hcv := blkM_string (cap := cap) hput
      rw [hlM] at hcv
      have hput2 : BlkM (W0.setCell ⟨w1.heap.size, s.size + j, none⟩ (byteV d)) w1.heap.size 5 ((((padded s.data.toList).set (s.size + j) d).take (s.size + j)).map byteV ++ ((((padded s.data.toList).set (s.size + j) d).drop (s.size + j)).map byteV ++ List.replicate (cap - (padded s.data.toList).length) (byteV 0))).toArray := by
        rw [← List.append_assoc, ← List.map_append, List.take_append_drop]; exact hput
      have hcv2 : ∀ k, (convert 35 9 (.slice (some ⟨w1.heap.size, 0, none⟩) (s.size + j) cap)).run Tryd.prog ((W0.setCell ⟨w1.heap.size, s.size + j, none⟩ (byteV d)).drewN k) = .ok (.string ⟨(((padded s.data.toList).set (s.size + j) d).take (s.size + j)).toArray⟩) ((W0.setCell ⟨w1.heap.size, s.size + j, none⟩ (byteV d)).drewN k) := by
        intro k
        have := blkM_string (cap := cap) (hput2.drewN k)
        rwa [List.length_take, hlM, Nat.min_eq_left (by omega)] at this
      have hb3 := hb2.setCell (p := ⟨w1.heap.size, s.size + j, none⟩) hb1.size (byteV d)
      have hL3 : LaidE (W0.setCell ⟨w1.heap.size, s.size + j, none⟩ (byteV d)) := hL.on hb3
      have e7 := spoilt_cut s.data.toList (((padded s.data.toList).set (s.size + j) d).take (s.size + j)) (by rw [List.length_take, hlM, len_of]; have := HG.out; omega)
      rw [len_of] at e7
      have e3 : errv 3 = .iface 29 (.int .i64 3) := rfl
      have e77 : errv 7 = .iface 29 (.int .i64 7) := rfl
      have e00 : errv 0 = .nilIface := rfl
      have hE : unpadE ((padded s.data.toList).set (s.size + j) d) s.size = if d = 0 then 0 else 3 := by
        split
        · rename_i h
          subst h
          have h1 := spoilt_zero s.data.toList j (by rw [len_of]; exact hjl)
          rw [len_of] at h1
          rw [h1]
          have h2 := (unpad_padded s.data.toList []).1
          rwa [List.append_nil, len_of] at h2
        · rename_i h
          have h1 := spoilt_pure s.data.toList j d (by rw [len_of]; exact hjl) h
          rwa [len_of] at h1
      have hlM2 : (((padded s.data.toList).set (s.size + j) d).take (s.size + j)).length ≤ 400 := by rw [List.length_take]; omega
      have hlM3 : ((padded s.data.toList).set (s.size + j) d).length ≤ 400 := by rw [hlM]; exact g2
      have hcapI : (s.size : Int) + j ≤ cap := by omega
      simp only [byteV] at hcv hcv2 hL3 hb3
      clear hput hput2 hlM hB0 hc0
      generalize (padded s.data.toList).set (s.size + j) d = M at *
      by_cases hd : d = 0
      · have fd : ((d.toNat : Int) == 0) = true := by subst hd; rfl
        rw [if_pos hd] at hE
        clear hd
        go_wp2_with fail
        refine (unpad_any _ _ _ (by simp; omega) (by omega)).mono ?_
        rintro e w4 ⟨rfl, k, rfl⟩
        go_wp2_with fail
        refine (unpad_any _ _ _ (by simp; omega) (by omega)).mono ?_
        rintro e w5 ⟨rfl, k2, rfl⟩
        go_wp2_with fail
        refine (tell_errno _ _ (hL3.drewN _)).mono ?_
        rintro e w6 ⟨rfl, hb6⟩
        go_wp2_with fail
        go_ret
        exact ⟨rfl, (below_drewN hb3 _).trans (hb6.mono (by simp; exact hb2.size))⟩
      · have fd : ((d.toNat : Int) == 0) = false := by
          rw [beq_eq_false_iff_ne]
          intro h
          exact hd (UInt8.toNat_inj.1 (by simpa using h))
        rw [if_neg hd] at hE
        clear hd
        go_wp2_with fail
        refine (unpad_any _ _ _ (by simp; omega) (by omega)).mono ?_
        rintro e w4 ⟨rfl, k, rfl⟩
        go_wp2_with fail
        refine (unpad_any _ _ _ (by simp; omega) (by omega)).mono ?_
        rintro e w5 ⟨rfl, k2, rfl⟩
        go_wp2_with fail
        refine (tell_errno _ _ (hL3.drewN _)).mono ?_
        rintro e w6 ⟨rfl, hb6⟩
        have hb7 := (below_drewN hb3 (k + k2)).trans (hb6.mono (by simp; exact hb2.size))
        go_wp2_with fail
        refine (tell_errno _ _ (hL.on hb7)).mono ?_
        rintro e w8 ⟨rfl, hb8⟩
        go_wp2_with fail
        go_ret
        exact ⟨rfl, below_step hb7 hb8⟩
end Go.Proofs.YtacijaejdgpjaaaDoor
