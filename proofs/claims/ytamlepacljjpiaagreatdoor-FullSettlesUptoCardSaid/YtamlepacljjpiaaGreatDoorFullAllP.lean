/- Plain laws on the pieces of a text, and on who is there. -/
import Derived.Test.YtamlepacljjpiaaGreatDoorFullTextP
import Derived.Test.YtamlepacljjpiaaGreatDoorGff
namespace Go.Proofs.YtamlepacljjpiaaGreatDoor
set_option linter.unusedVariables false
set_option linter.unusedSimpArgs false
theorem cnt_lowerF (s : ByteArray) (n k : Nat) (hn : 1 ≤ n) (h : k + 1 < cntN s n) : (k + 1) * n < s.size := by
  unfold cntN at h
  have h1 : k + 1 < (s.size + n - 1) / n := by omega
  have h2 : k + 2 ≤ (s.size + n - 1) / n := h1
  rw [Nat.le_div_iff_mul_le (by omega)] at h2
  have : (k + 2) * n = (k + 1) * n + n := Nat.succ_mul _ _
  omega
theorem cnt_allF (s : ByteArray) (n : Nat) (hn : 1 ≤ n) : s.size ≤ cntN s n * n := by
  unfold cntN
  have h := Nat.lt_div_mul_add (a := s.size + n - 1) (b := n) (by omega)
  have h2 : (s.size + n - 1) / n * n ≤ max 1 ((s.size + n - 1) / n) * n := Nat.mul_le_mul_right _ (Nat.le_max_right _ _)
  omega
theorem cnt_few (s : ByteArray) (m : Nat) (hm : 512 ≤ m) (hs : s.size ≤ 20480) : cntN s m ≤ 41 := by
  unfold cntN
  have : (s.size + m - 1) / m ≤ 41 := by
    refine Nat.div_le_of_le_mul ?_
    have : m * 41 = 40 * m + m := by omega
    omega
  omega
theorem cnt_one (s : ByteArray) (m : Nat) (hm : 1 ≤ m) (hs : s.size ≤ m) : cntN s m = 1 := by
  unfold cntN
  have : (s.size + m - 1) / m < 2 := (Nat.div_lt_iff_lt_mul (by omega)).2 (by omega)
  omega
theorem cnt_intF (s : ByteArray) (n : Nat) (h1 : 1 ≤ n) : ((cntN s n : Nat) : Int) = max 1 (((s.size : Int) + n - 1) / n) := by
  have e : (s.size : Int) + n - 1 = ((s.size + n - 1 : Nat) : Int) := by omega
  rw [e, ← Int.natCast_ediv]
  unfold cntN
  omega
theorem join_piecesF (s : ByteArray) (n : Nat) : ∀ k, ((piecesN s n k).map (·.data.toList)).flatten = s.data.toList.take (k * n)
  | 0 => by simp [piecesN]
  | k + 1 => by
    rw [piecesN_succ, List.map_append, List.flatten_append, join_piecesF s n k]
    have e : (s.extract (k * n) ((k + 1) * n)).data.toList = (s.data.toList.drop (k * n)).take n := by
      rw [ext_of, Nat.succ_mul, Nat.add_sub_cancel_left]
    simp only [List.map_cons, List.map_nil, List.flatten_cons, List.flatten_nil, List.append_nil, e]
    rw [Nat.succ_mul, List.take_add]
theorem piece_atF (s : ByteArray) (n k c : Nat) (hk : k < c) : (piecesN s n c)[k]? = some (s.extract (k * n) ((k + 1) * n)) := by
  simp [piecesN, hk]
def catB (L : List ByteArray) : ByteArray := ba (L.map (·.data.toList)).flatten
theorem catB_snoc (L : List ByteArray) (x : ByteArray) : catB (L ++ [x]) = catB L ++ x := by
  rw [← ba_of (catB L ++ x)]
  unfold catB
  congr 1
  simp [ba]
theorem cat_pieces (s : ByteArray) (n : Nat) (hn : 1 ≤ n) : catB (piecesN s n (cntN s n)) = s := by
  unfold catB
  rw [join_piecesF, List.take_of_length_le (by rw [len_of]; exact cnt_allF s n hn), ba_of]
structure PcGood (L : List ByteArray) (m : Nat) : Prop where
  ne : 0 < L.length
  few : L.length ≤ 199
  full : ∀ i x, L[i]? = some x → i + 1 < L.length → x.size = m
  le : ∀ x ∈ L, x.size ≤ m
theorem pieces_good (s : ByteArray) (m : Nat) (hm : 1 ≤ m) (hc : cntN s m ≤ 199) : PcGood (piecesN s m (cntN s m)) m where
  ne := by rw [piecesN_len]; unfold cntN; omega
  few := by rw [piecesN_len]; exact hc
  full i x hx hi := by
    rw [piecesN_len] at hi
    rw [piece_atF s m i _ (by omega)] at hx
    cases hx
    have := cnt_lowerF s m i hm hi
    rw [ByteArray.size_extract]
    rw [Nat.add_mul, Nat.one_mul] at this ⊢
    omega
  le := pieces_le s m _
/- the sessions of a whole answer -/
def atP (Z : FP) (k : Nat) : FP := { Z with pcs := Z.pcs.drop k, stat := aft Z.stat k }
theorem aft_aft (a j k : Nat) : aft (aft a j) k = aft a (j + k) := by
  unfold aft
  omega
theorem atP_next (Z : FP) (k i : Nat) : (pieceP (atP Z k) i).2 = atP Z (k + 1) := by
  show ({ atP Z k with stat := aft (aft Z.stat k) 1, pcs := (Z.pcs.drop k).tail } : FP) = _
  rw [aft_aft, List.tail_drop]
  rfl
theorem atP_zero {Z : FP} (h : Z.stat < 4294967296) : atP Z 0 = Z := by
  unfold atP
  rw [aft_zero h]
  rfl
theorem piece_nth (Z : FP) (k i : Nat) (s : ByteArray) (hs : Z.pcs[k]? = some s) : (pieceP (atP Z k) i).1 = txtA (atP Z k) (if k + 1 = Z.pcs.length then 128 else 64) i (if k + 1 = Z.pcs.length then noneN else 1) s := by
  have hk : k < Z.pcs.length := (List.getElem?_eq_some_iff.1 hs).1
  have e : (atP Z k).pcs.tail = [] ↔ k + 1 = Z.pcs.length := by
    show (Z.pcs.drop k).tail = [] ↔ _
    rw [List.tail_drop, List.drop_eq_nil_iff]
    omega
  have e2 : (atP Z k).pcs.headD ⟨#[]⟩ = s := by
    show (Z.pcs.drop k).headD ⟨#[]⟩ = s
    rw [List.headD_eq_head?_getD, List.head?_drop, hs]
    rfl
  unfold pieceP
  rw [e2]
  by_cases h : k + 1 = Z.pcs.length
  · rw [if_pos (e.2 h), if_pos (e.2 h), if_pos h, if_pos h]
  · rw [if_neg (fun h2 => h (e.1 h2)), if_neg (fun h2 => h (e.1 h2)), if_neg h, if_neg h]
theorem piece_take {X : FP} (hc : X.closed = false) (hne : X.pcs ≠ []) : wrongP X (textP 128 1 ⟨#[]⟩) = none ∧ takeP X (textP 128 1 ⟨#[]⟩) = ([(pieceP X 1).1], (pieceP X 1).2) := by
  have hw := text_wrong (X := X) (fl := 128) (tag := 1) (s := ⟨#[]⟩) hc (by simp) (by decide) (by decide)
  refine ⟨hw, (text_take hw).trans ?_⟩
  have e : askP X (textP 128 1 ⟨#[]⟩) (headS (textP 128 1 ⟨#[]⟩)) = pieceP X 1 := by
    unfold askP
    rw [if_neg (show ¬ fN (textP 128 1 ⟨#[]⟩).vals 2 = noneN by show ¬ (1 : Nat) = 4294967295; decide)]
    exact if_pos ⟨rfl, hne, rfl, by show moreB 128 = false; decide⟩
  rw [e]
/- who is there -/
theorem valB_app {a b : List UInt8} (ha : valB a = true) (hb : valB b = true) (hl : a.length + b.length ≤ 255) : valB (a ++ b) = true := by
  rw [valB_iff] at *
  refine ⟨fun c hc => ?_, by rw [List.length_append]; exact hl⟩
  rcases List.mem_append.1 hc with h | h
  · exact ha.1 c h
  · exact hb.1 c h
theorem txt_val {l : List UInt8} (h : txtB l = true) : valB l = true := by
  unfold txtB at h
  simp only [Bool.and_eq_true] at h
  exact h.2.2
theorem tn_key : keyB tnB.data.toList = true := by decide
theorem ta_key : keyB taB.data.toList = true := by decide
theorem st_key : keyB stB.data.toList = true := by decide
theorem listG_right {c : Cfg} (h : cRight c = none) (x : List UInt8) (all : Bool) : rightP (listG c.po x all c.tg) := by
  obtain ⟨h1, h2⟩ := cright_txt h
  intro p hp
  unfold listG at hp
  obtain ⟨t, ht, hp⟩ := List.mem_flatMap.1 hp
  split at hp
  · unfold oneT at hp
    rcases List.mem_cons.1 hp with rfl | hp
    · exact ⟨tn_key, txt_val (h1 t ht)⟩
    · obtain ⟨q, hq, rfl⟩ := List.mem_map.1 hp
      obtain ⟨g1, g2, g3⟩ := h2 q hq
      refine ⟨ta_key, ?_⟩
      obtain ⟨n, hn⟩ := Int.eq_ofNat_of_zero_le g2
      have g4 := txt_len g1
      have g5 : valB (Lib.itoa q.2) = true := by rw [hn, dgs_itoa n (by omega)]; exact dgs_val n
      have g6 := itoa_small g2 g3
      have e : (adr q).2.data.toList = (q.1.data.toList ++ [44]) ++ Lib.itoa q.2 := by simp [adr]
      show valB (adr q).2.data.toList = true
      rw [e]
      have g7 : valB (q.1.data.toList ++ [44]) = true := valB_app (txt_val g1) (by decide) (by rw [List.length_singleton]; omega)
      exact valB_app g7 g5 (by rw [List.length_append, List.length_singleton]; omega)
  · cases hp
theorem tlist_val {c : Cfg} {x : List UInt8} {all : Bool} {l : PairL} (h : tlistP c x all = some l) : l = listG c.po x all c.tg := by
  unfold tlistP at h
  split at h
  · cases h
  · cases h
    rfl
theorem sendL_right (X : FP) (v : ByteArray) (h : cRight X.conf = none) : rightP (sendL X v) := by
  have hrej : rightP [(stB, ba rejB)] := fun p hp => by rw [List.mem_singleton.1 hp]; exact ⟨st_key, by show valB rejB = true; decide⟩
  unfold sendL
  split
  · exact hrej
  · rename_i l hl
    split
    · exact hrej
    · rw [tlist_val hl]
      exact listG_right h _ _
theorem send_says (X : FP) (v : ByteArray) (i : Nat) (h : ByteArray) (hc : cRight X.conf = none) : saysP X [(stB, v)] i h = pieceP { X with pcs := piecesN (ba (pairsB (sendL X v))) (mostN X.rc) (cntN (ba (pairsB (sendL X v))) (mostN X.rc)) } i := by
  have e1 : restL [(stB, v)] = [] := by
    have : isST (stB, v) = true := by show decide (stB = stB) = true; decide
    unfold restL
    rw [List.filter_cons, this]
    rfl
  have e2 : saidS X [(stB, v)] = sendL X v := by
    have : isST (stB, v) = true := by show decide (stB = stB) = true; decide
    unfold saidS
    rw [List.filter_cons, this]
    show sendL X v ++ [] = _
    rw [List.append_nil]
  have e3 : ansE X.rc [] false = none := (ansE_none _ _ _).2 ⟨by simp, (fun p hp => by cases hp), (fun h => by cases h), by simp [KD]⟩
  have e4 : saidL X.own false X.disc [] = [] := rfl
  have e5 : recL X.own false X.disc X.rc [] = X.rc := rfl
  have e6 : pRightR (sendL X v) = none := (pRightR_iff _).2 ⟨Nat.le_trans (sendL_len X v hc) (by decide), sendL_right X v hc⟩
  unfold saysP
  rw [e1, e2, e3, e4, e5, List.append_nil]
  show (match pRightR (sendL X v) with | some _ => _ | none => _) = _
  rw [e6]
theorem send_size (X : FP) (v : ByteArray) (h : cRight X.conf = none) : (ba (pairsB (sendL X v))).size ≤ 12800 := by
  have e : (ba (pairsB (sendL X v))).size = (pairsB (sendL X v)).length := size_mkl _
  have h1 := pairsB_len_le (sendL X v) (sendL_right X v h)
  have h2 := sendL_len X v h
  omega
/- how much may be sent, as a login told -/
set_option maxRecDepth 100000 in
theorem mr_fits : ∀ k : Fin 2000, fitsE mrB.data.toList (dgs (512 + k.val)) = 0 ∧ keyB mrB.data.toList = true ∧ valB (dgs (512 + k.val)) = true := by decide +kernel
theorem mrk_row : ∃ r, keyRow mrB.data.toList = some r ∧ r.kind = 7 ∧ r.noth = false := ⟨⟨[77, 97, 120, 82, 101, 99, 118, 68, 97, 116, 97, 83, 101, 103, 109, 101, 110, 116, 76, 101, 110, 103, 116, 104], 7, 512, 16777215, [56, 49, 57, 50], false, false⟩, by kernel_rfl, rfl, rfl⟩
theorem mr_rc (own : PairL) (disc : Bool) (n : Nat) (h0 : 512 ≤ n) (h1 : n < 2512) : ansRc own [] [(mrB, ba (dgs n))] true disc = addB [] mrB (dgs n) := by
  have h2 := mr_fits ⟨n - 512, by omega⟩
  simp only at h2
  rw [show 512 + (n - 512) = n by omega] at h2
  obtain ⟨hf, hk, hv⟩ := h2
  obtain ⟨r, hr, hk7, hn⟩ := mrk_row
  have ha : ansP own true disc (mrB, ba (dgs n)) = ([], dgs n) := by
    unfold ansP
    have e : keyRow (kB (mrB, ba (dgs n))) = some r := hr
    rw [e]
    have g1 : ¬ (r.lonly = true ∧ true = false) := fun h => by cases h.2
    have g2 : ¬ (r.noth = true ∧ disc = true) := fun h => by rw [hn] at h; cases h.1
    have g3 : ¬ fitsE (kB (mrB, ba (dgs n))) (vB (mrB, ba (dgs n))) ≠ 0 := fun h => h hf
    show ansR own true disc r (mrB, ba (dgs n)) = _
    unfold ansR
    rw [if_neg g1, if_neg g2, if_neg g3, if_pos (.inr hk7)]
    rfl
  have e3 : ansE [] [(mrB, ba (dgs n))] true = none := (ansE_none _ _ _).2 ⟨by simp, (fun p hp => by rw [List.mem_singleton.1 hp]; exact ⟨hk, hv⟩), (fun _ p hp => rfl), by simp [KD]⟩
  unfold ansRc
  rw [e3]
  show recL own true disc (addB [] mrB (ansP own true disc (mrB, ba (dgs n))).2) [] = _
  rw [ha]
  rfl
end Go.Proofs.YtamlepacljjpiaaGreatDoor
