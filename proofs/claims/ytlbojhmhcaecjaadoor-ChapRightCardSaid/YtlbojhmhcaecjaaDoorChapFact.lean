/- The fact 'proved': who somebody is. -/
import Derived.Test.YtlbojhmhcaecjaaDoorChapCheck
import Derived.Test.YtlbojhmhcaecjaaDoorBinPlain
namespace Go.Proofs.YtlbojhmhcaecjaaDoor
open Go.ChangeShapes Go.WideShapes Go.ChangeAt Go.RowKit
set_option linter.unusedVariables false
theorem SRd.lit {w : World} {g n size : Nat} {t : TypeId} {cs : Array Value} {xs : List Value} (h : Blk w g t cs) (hx : cs.toList = xs) (hn : xs.length = n * size) (hm : n ≤ maxLen) : SRd w (.slice (some ⟨g, 0, none⟩) n n) size n xs := by
  refine ⟨hn, _, n, rfl, Nat.le_refl _, hm, fun _ => ⟨g, 0, rfl, h.lt, fun j u hu => ?_⟩⟩
  rw [Nat.zero_add, h.cell j, ← Array.getElem?_toList, hx]
  exact hu
theorem respL_len (id : Int) (a c : ByteArray) : (respL id a c).length = 16 := md5L_len _
def meL : PairL := [(⟨#[109, 101]⟩, ⟨#[115, 51]⟩)]
def abcS : ByteArray := ⟨#[97, 98, 99]⟩
theorem meSum : md5L (ByteArray.mk #[7, 115, 51, 97, 98, 99]).data.toList = respL 7 ⟨#[115, 51]⟩ abcS := by rfl
theorem check_me (X : ByteArray) (h : readB X.data.toList = .inr (respL 7 ⟨#[115, 51]⟩ abcS)) : checkN meL ⟨#[109, 101]⟩ X 7 abcS = 0 := by
  have hf : findU meL ⟨#[109, 101]⟩ = some (⟨#[109, 101]⟩, ⟨#[115, 51]⟩) := by rw [meL, findU, if_pos rfl]
  rw [checkN, hf]
  simp only
  rw [h]
  simp only
  rw [checkR, if_neg (by decide), if_neg (by decide), if_pos rfl]
theorem check_you (X : ByteArray) : checkN meL ⟨#[121, 111, 117]⟩ X 7 abcS = 8 := by
  have hf : findU meL ⟨#[121, 111, 117]⟩ = none := by rw [meL, findU, if_neg (by decide), findU]
  rw [checkN, hf]
theorem check_zero : checkN meL ⟨#[109, 101]⟩ ⟨#[48, 120, 48, 48]⟩ 7 abcS = 13 := by
  have hf : findU meL ⟨#[109, 101]⟩ = some (⟨#[109, 101]⟩, ⟨#[115, 51]⟩) := by rw [meL, findU, if_pos rfl]
  have hr : readB (ByteArray.mk #[48, 120, 48, 48]).data.toList = .inr [0] := by decide +kernel
  rw [checkN, hf]
  simp only
  rw [hr]
  simp only
  rw [checkR, if_neg (by decide), if_neg (by decide), if_neg (fun e => by have := congrArg List.length e; rw [respL_len] at this; exact absurd this (by decide))]
theorem check_ok (l : PairL) (v : Value) (name value ch : ByteArray) (id : Int) (w : World) (hL : LaidE w) (hv : SRd w v 2 l.length (pairCells l)) (hl : ∀ p ∈ l, p.2.size ≤ 1000000) (hval : value.size ≤ 1000000) (hch : ch.size ≤ 1000000) (h : checkN l name value id ch = 0) :
    Calls Tryd.prog 24 #[v, .string name, .string value, .agg #[.int .i64 id, .string ch]] w fun e w' => e = .returned .nilIface ∧ Below w.heap.size w w' := by
  have := check_any l v name value ch id w hL hv hl hval hch
  rw [h] at this
  exact this
theorem check_no (k : Nat) (hk : k ≠ 0) (l : PairL) (v : Value) (name value ch : ByteArray) (id : Int) (w : World) (hL : LaidE w) (hv : SRd w v 2 l.length (pairCells l)) (hl : ∀ p ∈ l, p.2.size ≤ 1000000) (hval : value.size ≤ 1000000) (hch : ch.size ≤ 1000000) (h : checkN l name value id ch = k) :
    Calls Tryd.prog 24 #[v, .string name, .string value, .agg #[.int .i64 id, .string ch]] w fun e w' => e = .returned (.iface 32 (.int .i64 k)) ∧ Below w.heap.size w w' := by
  have := check_any l v name value ch id w hL hv hl hval hch
  rw [h, errv, if_neg hk] at this
  exact this
theorem sum_to (s X : ByteArray) (w : World) (hs : s.size ≤ 1000) (h : X = ⟨(md5L s.data.toList).toArray⟩) : Calls Tryd.prog 50 #[.string s] w fun e w' => e = .returned (.string X) ∧ Below w.heap.size w w' := by
  rw [h]
  exact sum_any s w (by omega)
theorem hex_to3 (s X : ByteArray) (h : X = ⟨(hexL s.data.toList).toArray⟩) (w : World) (hs : s.size ≤ 1000) : Calls Tryd.prog 28 #[.string s] w fun e w' => e = .returned (.string X) ∧ Below w.heap.size w w' := by
  rw [h]
  exact hex_any s w (by omega)
set_option maxRecDepth 20000 in
set_option maxHeartbeats 2000000 in
theorem proved_fact (w : World) (hL : LaidE w) : Calls Tryd.prog 21 #[] w fun e w' => e = .returned (.bool true) ∧ Below w.heap.size w w' := by
  obtain ⟨R, hR⟩ : ∃ R : ByteArray, (⟨(respL 7 ⟨#[115, 51]⟩ abcS).toArray⟩ : ByteArray) = R := ⟨_, rfl⟩
  have hRz : R.size = 16 := by rw [← hR, size_mkl, respL_len]
  have hRl : R.data.toList = respL 7 ⟨#[115, 51]⟩ abcS := by rw [← hR]
  have hABC : (⟨#[97, 98, 99]⟩ : ByteArray) = abcS := rfl
  go_enter Tryd.func21, Tryd.ntmps21
  go_wp2_with fail
  have hbA : Below w.heap.size w ((w.alloc (.cells #[.string ⟨#[109, 101]⟩, .string ⟨#[115, 51]⟩] 46)).alloc (.cells #[.int .i64 7, .string abcS] 44)) := ((Below.refl _ _).alloc (Nat.le_refl _) _).alloc (by simp) _
  have hBl := (Blk.new w 46 #[.string ⟨#[109, 101]⟩, .string ⟨#[115, 51]⟩]).alloc (.cells #[.int .i64 7, .string abcS] 44)
  have hBd : Blk ((w.alloc (.cells #[.string ⟨#[109, 101]⟩, .string ⟨#[115, 51]⟩] 46)).alloc (.cells #[.int .i64 7, .string abcS] 44)) (w.heap.size + 1) 44 #[.int .i64 7, .string abcS] := by
    have := Blk.new (w.alloc (.cells #[.string ⟨#[109, 101]⟩, .string ⟨#[115, 51]⟩] 46)) 44 #[.int .i64 7, .string abcS]
    simpa using this
  obtain ⟨w0, hw0⟩ : ∃ w0 : World, (w.alloc (.cells #[.string ⟨#[109, 101]⟩, .string ⟨#[115, 51]⟩] 46)).alloc (.cells #[.int .i64 7, .string abcS] 44) = w0 := ⟨_, rfl⟩
  rw [hw0] at hbA hBl hBd ⊢
  clear hw0
  refine (resp_ok 7 ⟨#[115, 51]⟩ abcS _ (by omega) (by omega) (by decide) (by decide) (by decide)).mono ?_
  rintro e w1 ⟨rfl, hb1⟩
  rw [hR]
  have hbw1 := below_step hbA hb1
  obtain ⟨X, hX⟩ : ∃ X : ByteArray, X = (⟨(hexL R.data.toList).toArray⟩ : ByteArray) := ⟨_, rfl⟩
  have hXr : readB X.data.toList = .inr (respL 7 ⟨#[115, 51]⟩ abcS) := by rw [hX, ← hRl]; exact readB_hexL _
  have hXz : X.size ≤ 1000 := by rw [hX, size_mkl, hexL_len, len_of]; omega
  have HX := Lib.hid hX
  have hSm : R = ⟨(md5L (ByteArray.mk #[7, 115, 51, 97, 98, 99]).data.toList).toArray⟩ := by rw [meSum, hR]
  have HS := Lib.hid hSm
  have HR0 := Lib.hid hR
  have hNl : w.heap.size < w1.heap.size := Nat.lt_of_lt_of_le hBl.lt hb1.size
  have hNd : w.heap.size + 1 < w1.heap.size := Nat.lt_of_lt_of_le hBd.lt hb1.size
  have hBl1 := hBl.below hb1 hBl.lt
  have hBd1 := hBd.below hb1 hBd.lt
  have hL1 := hL.on hbw1
  have e0 : ∀ i : BW w1, i.v.cell? ⟨w.heap.size + 1, 0, none⟩ = some (.int .i64 7) := fun i => (hBd1.below i.h hNd).cell 0
  have e1 : ∀ i : BW w1, i.v.cell? ⟨w.heap.size + 1, 1, none⟩ = some (.string abcS) := fun i => (hBd1.below i.h hNd).cell 1
  have eL : ∀ i : BW w1, LaidE i.v := fun i => hL1.on i.h
  have eS : ∀ i : BW w1, SRd i.v (.slice (some ⟨w.heap.size, 0, none⟩) 1 1) 2 meL.length (pairCells meL) := fun i => SRd.lit (hBl1.below i.h hNl) rfl rfl (by decide)
  have hml : ∀ p ∈ meL, p.2.size ≤ 1000000 := by decide
  have HML := Lib.hid hml
  have C0 := Lib.hid (check_me X hXr)
  have C1 := Lib.hid (check_you X)
  have C2 := Lib.hid check_zero
  have HABC := Lib.hid hABC
  have hAz : abcS.size ≤ 1000 := by decide
  clear hX hXr hSm hBl hBd hBl1 hBd1 hb1 hml hRl hABC hR
  go_wp2_with fail
  refine wp_region_quietB (by kernel_rfl) (by kernel_rfl) ?_
  repeat (first | go_big_quiet_skip | (go_big_quiet_want; go_big_quiet_op; first | go_big_quiet_on | (apply Exists.intro; refine ⟨fun _ => ?_, ?_⟩; ((first | (go_at_call 50; with_reducible exact calls_bw (sum_to _ R _ (by decide) HS.out)) | (go_at_call 28; with_reducible exact calls_bw (hex_to3 R X HX.out _ (by omega))) | (go_at_call 24; with_reducible exact calls_bw (check_ok meL _ _ X abcS 7 _ (eL _) (eS _) HML.out (by omega) (by omega) C0.out)) | (go_at_call 24; with_reducible exact calls_bw (check_no 8 (by decide) meL _ _ X abcS 7 _ (eL _) (eS _) HML.out (by omega) (by omega) C1.out)) | (go_at_call 24; with_reducible exact calls_bw (check_no 13 (by decide) meL _ _ _ abcS 7 _ (eL _) (eS _) HML.out (by decide) (by omega) C2.out)) | (go_at_call 17; with_reducible exact calls_bw (tell_errno _ _ (eL _))))); go_big_quiet_on)))
  refine wpQuiet_nil ?_
  rintro _ ⟨iq, rfl⟩
  go_wp2_with fail
  go_ret
  exact ⟨rfl, below_step hbw1 iq.h⟩
end Go.Proofs.YtlbojhmhcaecjaaDoor
