/- The fact of additional headers, and the plain laws of what is read. -/
import Derived.Test.YtehellmpghfopaaGreatDoorAhsRead
namespace Go.Proofs.YtehellmpghfopaaGreatDoor
open Go.ChangeShapes Go.WideShapes Go.ChangeAt Go.RowKit
set_option linter.unusedVariables false
def moreL : AhsL := [(1, ⟨#[97, 98]⟩), (2, ⟨#[99]⟩)]
set_option maxRecDepth 100000 in
theorem moreB : ahsB moreL = [0, 2, 1, 97, 98, 0, 0, 0, 0, 1, 2, 99] := by decide
set_option maxRecDepth 100000 in
theorem moreR : readGo 1021 [0, 2, 1, 97, 98, 0, 0, 0, 0, 1, 2, 99] 0 = .inr moreL := by rfl
theorem more_fact (w : World) (hL : LaidE w) : Calls Tryz.prog 23 #[] w fun e w' => e = .returned (.bool true) ∧ Below w.heap.size w w' := by
  go_enter Tryz.func23, Tryz.ntmps23
  go_wp2_with fail
  refine (ahsWrite_ok moreL _ _ ⟨by decide, _, 2, rfl, by decide, by decide, fun _ => ⟨w.heap.size, 0, rfl, by simp, ?_⟩⟩ (by decide) (by decide)).mono ?_
  · intro j u hu
    rw [Nat.zero_add, (Blk.new w _ _).cell j]
    exact (Array.getElem?_toList ..).symm.trans hu
  rintro e w1 ⟨rfl, hb1⟩
  rw [moreB]
  have hbw1 : Below w.heap.size w w1 := ((Below.refl _ _).alloc (Nat.le_refl _) _).trans (hb1.mono (by simp))
  go_wp2_with fail
  refine (ahsRead_any _ _ (hL.on hbw1) (by decide)).mono ?_
  rintro e w2 ⟨r, er, rfl, hr, hb2⟩
  rw [show ({ data := #[0, 2, 1, 97, 98, 0, 0, 0, 0, 1, 2, 99] } : ByteArray).data.toList = [0, 2, 1, 97, 98, 0, 0, 0, 0, 1, 2, 99] from rfl, moreR] at hr
  obtain ⟨rfl, hr⟩ := hr
  have hbw2 := below_step hbw1 hb2
  obtain ⟨b, o, cap, u0, u1, rfl, hbl, h0, h1, c0, c1⟩ := (SRd.of_m hr).two (k := 1) (by decide)
  cases h0
  cases h1
  clear hr hb1 hb2
  simp only [show moreL.length = 2 from rfl, Nat.one_mul, Nat.add_assoc, Nat.reduceAdd] at c0 c1 ⊢
  go_wp2_with fail
  go_ret
  exact ⟨rfl, hbw2⟩
/- what is read is right, and is written so -/
theorem readGo_ok : ∀ (f : Nat) (r : List UInt8) (i : Nat) (l : AhsL), r.length < f → readGo f r i = .inr l → ahsB l = r ∧ (∀ p ∈ l, 0 ≤ p.1 ∧ p.1 ≤ 255) ∧ l.length ≤ r.length := by
  intro f
  induction f with
  | zero => intro r i l h; omega
  | succ f ih =>
    intro r i l hf h
    rw [readGo] at h
    split at h
    · cases h
      rename_i h0
      rw [List.eq_nil_of_length_eq_zero h0]
      exact ⟨rfl, fun p hp => (List.not_mem_nil hp).elim, Nat.le_refl _⟩
    · split at h
      · cases h
      · rename_i h0 h3
        split at h
        · cases h
        · rename_i hE
          have hE : unpadE r (3 + (getN (r.take 2) : Int)) = 0 := by simpa using hE
          obtain ⟨n, hn⟩ : ∃ n, getN (r.take 2) = n := ⟨_, rfl⟩
          rw [hn] at h hE
          have hle := unpad_ok _ _ hE
          have hpr := padI_rng (3 + (n : Int))
          have hN : unpadN r (3 + n) = 3 + n + padI (3 + n) := by rw [unpadN, if_pos hE]
          rw [hN] at h
          have hP : padded (r.take (3 + n)) = r.take (3 + n + padI (3 + n)).toNat := by
            unfold unpadE at hE
            split at hE
            · cases hE
            · split at hE
              · cases hE
              · split at hE
                · rename_i h; exact h
                · cases hE
          split at h
          · cases h
          · rename_i m hm
            cases h
            obtain ⟨i1, i2, i3⟩ := ih _ _ _ (by rw [List.length_drop]; omega) hm
            refine ⟨?_, ?_, ?_⟩
            · show ahsB1 _ ++ ahsB m = r
              rw [i1]
              have e : putB (ByteArray.mk (List.drop 3 (List.take (3 + n) r)).toArray).size 2 ++ [UInt8.ofNat (((r.getD 2 0).toNat : Int)).toNat] ++ (ByteArray.mk (List.drop 3 (List.take (3 + n) r)).toArray).data.toList = r.take (3 + n) := by
                have hs : (ByteArray.mk (List.drop 3 (List.take (3 + n) r)).toArray).size = n := by
                  rw [size_mkl, List.length_drop, List.length_take]; omega
                rw [hs]
                match r, h3, hle, hn with
                | a :: b :: c :: r, _, hle, hn =>
                  have h2 : putB n 2 = [a, b] := by
                    rw [← hn]
                    exact get_put [a, b]
                  rw [h2, Nat.add_comm 3 n]
                  simp
                | [], h, _, _ => simp at h
                | [_], h, _, _ => simp at h
                | [_, _], h, _, _ => simp at h
              unfold ahsB1
              simp only
              rw [e, hP, List.take_append_drop]
            · intro p hp
              rcases List.mem_cons.1 hp with rfl | hp
              · have := (r.getD 2 0).toNat_lt
                simp only
                omega
              · exact i2 p hp
            · rw [List.length_drop] at i3
              simp only [List.length_cons]
              omega
end Go.Proofs.YtehellmpghfopaaGreatDoor
