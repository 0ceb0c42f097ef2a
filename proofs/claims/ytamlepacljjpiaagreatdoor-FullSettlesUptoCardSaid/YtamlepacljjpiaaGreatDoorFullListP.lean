/- What asking for who is there comes to. -/
import Derived.Test.YtamlepacljjpiaaGreatDoorFullAll
import Derived.Test.YtamlepacljjpiaaGreatDoorFullMr
import Derived.Test.YtamlepacljjpiaaGreatDoorTargetCrowd
namespace Go.Proofs.YtamlepacljjpiaaGreatDoor
open Go.ChangeShapes Go.WideShapes Go.ChangeAt Go.RowKit Go.Shelf
set_option linter.unusedVariables false
set_option linter.unusedSimpArgs false
def askAll : ByteArray := ⟨#[83, 101, 110, 100, 84, 97, 114, 103, 101, 116, 115, 61, 65, 108, 108, 0]⟩
theorem askAll_eq : askAll = ba (pairsB [(stB, allB)]) := by rw [ba_pair]; rfl
theorem sess_form {w0 w : World} {N : Prop} {c : Cfg} {offers : PairL} {disc : Bool} {stat cmd : Nat} {e : Ending} {w' : World} (h : SessIs w0 w N c offers disc stat cmd e w') : ∃ o, e = .returned (.pointer o) ∧ (o = none ∨ ∃ f S, o = some ⟨f, 0, none⟩ ∧ FullI w0 w' S f (sessP c offers disc stat cmd) ∧ ∀ k ∈ S, w.heap.size ≤ k) := by
  rcases h with ⟨_, rfl⟩ | ⟨f, S, rfl, h1, h2⟩
  · exact ⟨none, rfl, .inl rfl⟩
  · exact ⟨_, rfl, .inr ⟨f, S, rfl, h1, h2⟩⟩
def sentT (X : FP) (v : ByteArray) : ByteArray := ba (pairsB (sendL X v))
def sentZ (X : FP) (v : ByteArray) (M : Nat) : FP := { X with pcs := piecesN (sentT X v) M (cntN (sentT X v) M), txt := ⟨#[]⟩ }
theorem ask_send (X : FP) (v s : ByteArray) (hs : s = ba (pairsB [(stB, v)])) (hv : valB v.data.toList = true) (hc : X.closed = false) (ht : X.txt = ⟨#[]⟩) (hcr : cRight X.conf = none) (M : Nat) (hm : mostN X.rc = M) : wrongP X (textP 128 noneN s) = none ∧ takeP X (textP 128 noneN s) = ([(pieceP (sentZ X v M) 1).1], (pieceP (sentZ X v M) 1).2) := by
  have hr : rightP [(stB, v)] := fun p hp => by rw [List.mem_singleton.1 hp]; exact ⟨st_key, hv⟩
  have hz : s.size ≤ 8192 := by
    have e : (ba (pairsB [(stB, v)])).size = (pairsB [(stB, v)]).length := size_mkl _
    have := pairsB_len_le _ hr
    rw [hs, e]
    simp only [List.length_singleton] at this
    omega
  obtain ⟨hw, ht⟩ := text_pairs X hc ht [(stB, v)] s hs hr (by simp) hz
  refine ⟨hw, ht.trans ?_⟩
  have h := send_says { X with pcs := [], txt := ⟨#[]⟩ } v 1 (headS (textP 128 noneN s)) hcr
  rw [h]
  have e : mostN ({ X with pcs := [], txt := ⟨#[]⟩ } : FP).rc = M := hm
  rw [e]
  rfl
theorem sent_good {X : FP} {v : ByteArray} {M : Nat} (hcr : cRight X.conf = none) (hM : 512 ≤ M) : PcGood (sentZ X v M).pcs M ∧ catB (sentZ X v M).pcs = sentT X v ∧ (sentZ X v M).pcs.length = cntN (sentT X v) M ∧ (sentT X v).size ≤ 12800 := by
  have hz : (sentT X v).size ≤ 12800 := send_size X v hcr
  have hc := cnt_few (sentT X v) M hM (by omega)
  exact ⟨pieces_good _ _ (by omega) (by omega), cat_pieces _ _ (by omega), piecesN_len _ _ _, hz⟩
theorem sent_parse {X : FP} {v : ByteArray} (hcr : cRight X.conf = none) : parseGo ((sentT X v).size + 1) (sentT X v).data.toList 0 = .inr (sendL X v) := by
  have e : (sentT X v).size = (pairsB (sendL X v)).length := size_mkl _
  rw [e]
  exact parse_pairsB _ _ (sendL_right X v hcr) (Nat.le_trans (sendL_len X v hcr) (by decide)) (Nat.lt_succ_self _)
theorem cright_lens {c : Cfg} (h : cRight c = none) : c.tg.length ≤ 8 ∧ c.po.length ≤ 4 := by
  unfold cRight at h
  split at h
  · cases h
  · omega
theorem mr_sess (c : Cfg) (DM : ByteArray) (M : Nat) (h : ba (dgs M) = DM) (h0 : 512 ≤ M) (h1 : M < 2512) (disc : Bool) : mostN (sessP c [(mrB, DM)] disc 0 0).rc = M := by
  have e : (sessP c [(mrB, DM)] disc 0 0).rc = addB [] mrB (dgs M) := by
    rw [← h]
    exact mr_rc c.own disc M h0 h1
  rw [e]
  exact most_told [] M h0 (by omega)
theorem send_all {X : FP} (hd : X.disc = true) : sendL X allB = listG X.conf.po [] true X.conf.tg := by
  have e : ∀ x, listG X.conf.po x true X.conf.tg = listG X.conf.po [] true X.conf.tg := fun x => by
    unfold listG
    simp
  unfold sendL
  have h1 : decide (allB = allB) = true := by decide
  rw [h1]
  unfold tlistP
  rw [if_neg (by simp)]
  show (if allB = allB ∧ X.disc = false then _ else _) = _
  rw [if_neg (by simp [hd])]
  exact e _
end Go.Proofs.YtamlepacljjpiaaGreatDoor
