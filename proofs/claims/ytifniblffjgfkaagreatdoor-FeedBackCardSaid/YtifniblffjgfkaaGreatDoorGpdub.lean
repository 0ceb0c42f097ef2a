/- PduRd PduSame PduFact PduBackW. -/
import Derived.Test.YtifniblffjgfkaaGreatDoorGpdu
import Derived.Test.YtifniblffjgfkaaGreatDoorGheadb
/- The contract of pdu.Read. -/
namespace Go.Proofs.YtifniblffjgfkaaGreatDoor
open Go.ChangeShapes Go.WideShapes Go.ChangeAt Go.RowKit Go.Shelf
set_option linter.unusedVariables false
def zeroP : Value := .agg #[.int .i64 0, .bool false, .int .i64 0, .slice none 0 0, .slice none 0 0, .string ⟨#[]⟩]
def bodyS (l : List UInt8) (hd : Bool) : List UInt8 := (l.drop (atN l hd)).take (dataN l)
def moreS (l : List UInt8) : List UInt8 := (l.take (48 + 4 * rB l 4)).drop 48
def pduIsQ (Q : Option Nat) (w : World) (base : Nat) (l : List UInt8) (hd dd : Bool) (e : Ending) : Prop :=
  match Q with
  | some c => e = .returned (.tuple #[zeroP, .int .i64 0, .iface 43 (.int .i64 c)])
  | none => ∃ r A cap al B bcap, headRow ((rB l 0 % 64 : Nat) : Int) = some r ∧ readGo 1021 (moreS l) 0 = .inr al ∧
      e = .returned (.tuple #[.agg #[.int .i64 ((rB l 0 % 64 : Nat) : Int), .bool (decide (64 ≤ rB l 0)), .int .i64 (rB l 1), .slice A (readV r.2.2.2 (l.take 48)).length cap, .slice B al.length bcap, .string ⟨(bodyS l hd).toArray⟩], .int .i64 (allN l hd dd), .nilIface]) ∧
      SRd w (.slice A (readV r.2.2.2 (l.take 48)).length cap) 1 (readV r.2.2.2 (l.take 48)).length ((readV r.2.2.2 (l.take 48)).map u64V) ∧ ARow w base (.slice B al.length bcap) al ∧ (∀ a, A = some a → base ≤ a.block)
def pduIs (w : World) (base : Nat) (l : List UInt8) (hd dd : Bool) (e : Ending) : Prop := pduIsQ (prE l hd dd) w base l hd dd e
theorem results_s3 {P : Program} {fn : Func} {p a b : Tmp} {ty : TypeId} (h : fn.results = #[.cell p ty, .tmp a, .tmp b]) (tmps : Array Value) (w : World) (g : Nat) (t : TypeId) (cs : Array Value) (d : TypeDesc) (va vb : Value)
    (hp : tmps.getD p undef = .pointer (some ⟨g, 0, none⟩)) (ha : tmps.getD a undef = va) (hb : tmps.getD b undef = vb) (hg : Blk w g t cs)
    (hu : P.underlying ty = some d) (hd : (match d with | .struct _ | .array _ _ => true | _ => false) = true) (hi : (P.info? ty).map (·.size) = some cs.size) :
    (results fn tmps).run P w = .ok (.tuple #[.agg cs, va, vb]) w := by
  have e : (results fn tmps).run P w = ((asAddr (tmps.getD p undef)).run P w).andThen fun x w₁ => ((loadVar ty x).run P w₁).andThen fun v w₂ => .ok (.tuple #[v, tmps.getD a undef, tmps.getD b undef]) w₂ := by
    simp only [results, h]
    simp [Sem.run_bind, Result.andThen]
  rw [e, hp, ha, hb]
  have := run_loadVar_row (P := P) w g t ty cs (0, 0) d hg hu hd hi
  simp [asAddr, this]
def put6 (w : World) (g : Nat) (a b c d e f : Value) : World := (((((w.setCell ⟨g, 0, none⟩ a).setCell ⟨g, 1, none⟩ b).setCell ⟨g, 2, none⟩ c).setCell ⟨g, 3, none⟩ d).setCell ⟨g, 4, none⟩ e).setCell ⟨g, 5, none⟩ f
theorem put6_blk {w : World} {g : Nat} {t : TypeId} {a0 b0 c0 d0 e0 f0 : Value} (h : Blk w g t #[a0, b0, c0, d0, e0, f0]) (a b c d e f : Value) : Blk (put6 w g a b c d e f) g t #[a, b, c, d, e, f] :=
  (((((h.put 0 a).put 1 b).put 2 c).put 3 d).put 4 e).put 5 f
theorem put6_step (w : World) (g : Nat) (a b c d e f : Value) : Step g w (put6 w g a b c d e f) :=
  ((((((Step.setCell g 0 _ a).trans (Step.setCell g 1 _ b)).trans (Step.setCell g 2 _ c)).trans (Step.setCell g 3 _ d)).trans (Step.setCell g 4 _ e)).trans (Step.setCell g 5 _ f))
theorem put6_below {w w1 : World} {g n : Nat} (h : Below n w w1) (hn : n ≤ g) (a b c d e f : Value) : Below n w (put6 w1 g a b c d e f) :=
  (((((h.setCell hn a).setCell hn b).setCell hn c).setCell hn d).setCell hn e).setCell hn f
def q4 (l : List UInt8) (hd dd : Bool) : Option Nat :=
  if dd = true ∧ 0 < dataN l ∧ digB (crcN ((l.drop (atN l hd)).take (dataN l + padN (dataN l)))) ≠ (l.take (allN l hd dd)).drop (atN l hd + (dataN l + padN (dataN l))) then some 13 else if 100000 < dataN l then some 4 else none
def q3 (l : List UInt8) (hd dd : Bool) : Option Nat :=
  if unpadE ((l.take (allN l hd dd)).drop (atN l hd)) (dataN l) ≠ 0 then some (unpadE ((l.take (allN l hd dd)).drop (atN l hd)) (dataN l)) else q4 l hd dd
def q2 (l : List UInt8) (hd dd : Bool) : Option Nat :=
  match readGo 1021 (moreS l) 0 with
  | .inl c => some c.1
  | .inr _ => q3 l hd dd
def q1 (l : List UInt8) (hd dd : Bool) : Option Nat :=
  match readE (l.take 48) with
  | some c => some c.1
  | none => q2 l hd dd
def bodyQ (l : List UInt8) (hd dd : Bool) : Option Nat :=
  if hd = true ∧ digB (crcN (l.take (48 + 4 * rB l 4))) ≠ (l.drop (48 + 4 * rB l 4)).take 4 then some 15 else q1 l hd dd
theorem if_congr_dec {α : Type} {p q : Prop} [Decidable p] [Decidable q] (h : p ↔ q) (a b : α) : (if p then a else b) = (if q then a else b) := by
  by_cases hp : p
  · rw [if_pos hp, if_pos (h.1 hp)]
  · rw [if_neg hp, if_neg (fun hq => hp (h.2 hq))]
theorem ErrAt.store {w : World} {base g i : Nat} {v u : Value} {E : Option (Nat × Nat)} (h : ErrAt w base v E) (hg : g < base) : ErrAt (w.setCell ⟨g, i, none⟩ u) base v E := by
  rcases E with _ | E
  · exact h
  · obtain ⟨k, h1, h2, h3⟩ := h
    exact ⟨k, h1, h2, h3.far (by simp only; omega) _⟩
theorem no_u64 (a : Int) (b : Bool) (c : Int) (A B : Option Addr) (n m cap bcap : Nat) (s : ByteArray) : ∀ (i k : Nat), (#[.int .i64 a, .bool b, .int .i64 c, .slice A n cap, .slice B m bcap, .string s] : Array Value)[i]? ≠ some (u64V k) := by
  intro i k
  rcases i with _ | _ | _ | _ | _ | _ | i <;> simp [u64V]
def put4 (w : World) (g : Nat) (a b c d : Value) : World := (((w.setCell ⟨g, 0, none⟩ a).setCell ⟨g, 1, none⟩ b).setCell ⟨g, 2, none⟩ c).setCell ⟨g, 3, none⟩ d
theorem put4_step (w : World) (g : Nat) (a b c d : Value) : Step g w (put4 w g a b c d) :=
  (((Step.setCell g 0 _ a).trans (Step.setCell g 1 _ b)).trans (Step.setCell g 2 _ c)).trans (Step.setCell g 3 _ d)
theorem put4_blk {w : World} {g : Nat} {t : TypeId} {a0 b0 c0 d0 e0 f0 : Value} (h : Blk w g t #[a0, b0, c0, d0, e0, f0]) (a b c d : Value) : Blk (put4 w g a b c d) g t #[a, b, c, d, e0, f0] :=
  (((h.put 0 a).put 1 b).put 2 c).put 3 d
theorem Blk.step {w w' : World} {g k : Nat} {t : TypeId} {cs : Array Value} (h : Blk w k t cs) (hs : Step g w w') (hne : k ≠ g) : Blk w' k t cs := (hs.block k hne h.lt).trans h
theorem SRd.step_u64 {w w' : World} {v : Value} {l : List Nat} {g : Nat} {t : TypeId} {cs : Array Value} (h : SRd w v 1 l.length (l.map u64V)) (hB : Blk w g t cs) (hc : ∀ (i n : Nat), cs[i]? ≠ some (u64V n)) (hst : Step g w w') : SRd w' v 1 l.length (l.map u64V) := by
  obtain ⟨h1, A, cap, hv, h2, h3, h4⟩ := h
  refine ⟨h1, A, cap, hv, h2, h3, fun hn => ?_⟩
  obtain ⟨b, o, hA, hb, hcell⟩ := h4 hn
  have hne : b ≠ g := by
    rintro rfl
    have e0 : (l.map u64V)[0]? = some (u64V (l[0]'hn)) := by rw [List.getElem?_map, List.getElem?_eq_getElem hn]; rfl
    have := hcell 0 _ e0
    rw [hB.cell] at this
    exact hc _ _ this
  refine ⟨b, o, hA, Nat.lt_of_lt_of_le hb hst.size, fun j u hu => ?_⟩
  rw [← hcell j u hu]
  exact World.cell?_of_block (hst.block b hne hb)
theorem prE_eq (l : List UInt8) (hd dd : Bool) (h0 : 48 ≤ l.length) (h : allN l hd dd ≤ l.length) : prE l hd dd = bodyQ l hd dd := by
  have e1 : l.take 48 ++ (l.take (48 + 4 * rB l 4)).drop 48 = l.take (48 + 4 * rB l 4) := by
    have h1 : l.take 48 = (l.take (48 + 4 * rB l 4)).take 48 := by rw [List.take_take, Nat.min_eq_left (by omega)]
    rw [h1, List.take_append_drop]
  have hN : allN l hd dd = atN l hd + (dataN l + padN (dataN l)) + ddN dd (dataN l) := by unfold allN atN; omega
  have e2 : (l.drop (atN l hd)).take (dataN l + padN (dataN l)) ++ (l.take (allN l hd dd)).drop (atN l hd + (dataN l + padN (dataN l))) = (l.take (allN l hd dd)).drop (atN l hd) := by
    have h1 : (l.drop (atN l hd)).take (dataN l + padN (dataN l)) = ((l.take (allN l hd dd)).drop (atN l hd)).take (dataN l + padN (dataN l)) := by
      rw [List.drop_take, List.take_take, Nat.min_eq_left (by omega)]
    rw [h1, ← List.drop_drop, List.take_append_drop]
  unfold prE bodyE bodyQ q1 q2 q3 q4 moreS
  rw [if_neg (by omega), if_neg (by omega), e1, e2]
  have hc : (hd = true ∧ digB (crcN (l.take (48 + 4 * rB l 4))) ≠ (l.drop (48 + 4 * rB l 4)).take (hdN hd)) ↔ (hd = true ∧ digB (crcN (l.take (48 + 4 * rB l 4))) ≠ (l.drop (48 + 4 * rB l 4)).take 4) := by
    cases hd <;> simp [hdN]
  exact if_congr_dec hc _ _
set_option maxRecDepth 20000 in
set_option maxHeartbeats 2000000 in
theorem pduRead_any (s : ByteArray) (k : Nat) (w : World) (hk : k < 4) (hs : s.size ≤ 1000000) (hL : LaidE w) (T : Tabs w) (hS : w.ShapedOpen Tryz.prog) :
    Calls Tryz.prog 52 #[.string s, .int .i64 k] w fun e w' => pduIs w' w.heap.size s.data.toList (hdM k) (ddM k) e ∧ Below w.heap.size w w' := by
  obtain ⟨g, hg⟩ : ∃ g, w.heap.size = g := ⟨_, rfl⟩
  have hb0 : Below w.heap.size w (w.alloc (.cells #[.int .i64 0, .bool false, .int .i64 0, .slice none 0 0, .slice none 0 0, .string ⟨#[]⟩] 38)) := (Below.refl _ _).alloc (Nat.le_refl _) _
  have hP0 := Blk.new w 38 #[.int .i64 0, .bool false, .int .i64 0, .slice none 0 0, .slice none 0 0, .string ⟨#[]⟩]
  rw [hg] at hP0
  by_cases h48 : s.size < 48
  · have hE : prE s.data.toList (hdM k) (ddM k) = some 7 := by unfold prE; rw [if_pos (by rw [len_of]; exact h48)]
    unfold pduIs
    rw [hE]
    go_enter Tryz.func52, Tryz.ntmps52
    go_wp2_with fail
    refine (size_short s k _ hk h48).mono ?_
    rintro e w1 ⟨rfl, hb1⟩
    have hP1 := hP0.below hb1 hP0.lt
    have k0 := hP1.cell 0
    have k1 := hP1.cell 1
    have k2 := hP1.cell 2
    have k3 := hP1.cell 3
    have k4 := hP1.cell 4
    have k5 := hP1.cell 5
    have f0 := hP1.frozen 0
    have f1 := hP1.frozen 1
    have f2 := hP1.frozen 2
    have f3 := hP1.frozen 3
    have f4 := hP1.frozen 4
    have f5 := hP1.frozen 5
    go_wp2_with fail
    refine bodyPost_ret (results_s3 rfl _ _ g _ _ _ _ _ rfl rfl rfl (put6_blk hP1 _ _ _ _ _ _) Tryz.underlying38 rfl (by kernel_rfl)) rfl ⟨by unfold pduIsQ; rfl, ?_⟩
    exact put6_below (below_step hb0 hb1) (Nat.le_of_eq hg) _ _ _ _ _ _
  have hl48 : 48 ≤ s.data.toList.length := by rw [len_of]; omega
  by_cases hlen : s.size < allN s.data.toList (hdM k) (ddM k)
  · have hE : prE s.data.toList (hdM k) (ddM k) = some 7 := by unfold prE; rw [if_neg (by omega), if_pos (by rw [len_of]; exact hlen)]
    unfold pduIs
    rw [hE]
    obtain ⟨N, hN⟩ : ∃ N, allN s.data.toList (hdM k) (ddM k) = N := ⟨_, rfl⟩
    rw [hN] at hlen
    have HN := Lib.hid hN
    clear hN hE
    go_enter Tryz.func52, Tryz.ntmps52
    go_wp2_with fail
    refine (size_ok s k _ hk (by omega) hs).mono ?_
    rintro e w1 ⟨rfl, hb1⟩
    rw [HN.out]
    have hP1 := hP0.below hb1 hP0.lt
    have k0 := hP1.cell 0
    have k1 := hP1.cell 1
    have k2 := hP1.cell 2
    have k3 := hP1.cell 3
    have k4 := hP1.cell 4
    have k5 := hP1.cell 5
    have f0 := hP1.frozen 0
    have f1 := hP1.frozen 1
    have f2 := hP1.frozen 2
    have f3 := hP1.frozen 3
    have f4 := hP1.frozen 4
    have f5 := hP1.frozen 5
    go_wp2_with fail
    refine bodyPost_ret (results_s3 rfl _ _ g _ _ _ _ _ rfl rfl rfl (put6_blk hP1 _ _ _ _ _ _) Tryz.underlying38 rfl (by kernel_rfl)) rfl ⟨by unfold pduIsQ; rfl, ?_⟩
    exact put6_below (below_step hb0 hb1) (Nat.le_of_eq hg) _ _ _ _ _ _
  have hE := prE_eq s.data.toList (hdM k) (ddM k) hl48 (by rw [len_of]; omega)
  unfold pduIs
  rw [hE]
  have g4 : (4 : Int) < s.size := by omega
  have a4 : ((s[4]'(by omega)).toNat : Int) = ((rB s.data.toList 4 : Nat) : Int) := by rw [rB_at s 4 (by omega)]
  have hB4 := rB_lt s.data.toList 4
  have hk1 := and_1 ⟨k, hk⟩
  have hk2 := and_2 ⟨k, hk⟩
  simp only at hk1 hk2
  obtain ⟨N, hN⟩ : ∃ N, allN s.data.toList (hdM k) (ddM k) = N := ⟨_, rfl⟩
  rw [hN] at hlen
  have hNv : N = 48 + 4 * rB s.data.toList 4 + dataN s.data.toList + padN (dataN s.data.toList) + hdN (hdM k) + ddN (ddM k) (dataN s.data.toList) := by rw [← hN]; rfl
  obtain ⟨Q, hQ⟩ : ∃ Q, bodyQ s.data.toList (hdM k) (ddM k) = Q := ⟨_, rfl⟩
  rw [hQ]
  have HQ := Lib.hid hQ
  have HN := Lib.hid hN
  have hN1 : atN s.data.toList (hdM k) + (dataN s.data.toList + padN (dataN s.data.toList)) ≤ N := by rw [hNv]; unfold atN; omega
  unfold atN at hN1
  obtain ⟨B4, hb4⟩ : ∃ B, rB s.data.toList 4 = B := ⟨_, rfl⟩
  rw [hb4] at a4 hB4 hNv hN1
  have HB4 := Lib.hid hb4
  have HNV := Lib.hid hNv
  clear hE hQ hN hb4 hNv
  go_enter Tryz.func52, Tryz.ntmps52
  go_wp2_with fail
  refine (size_ok s k _ hk (by omega) hs).mono ?_
  rintro e w1 ⟨rfl, hb1⟩
  rw [HN.out]
  have hAh : (s.extract 0 (48 + 4 * B4)).data.toList = s.data.toList.take (48 + 4 * B4) := by rw [ext_of]; simp
  obtain ⟨AH, hAHe⟩ : ∃ AH : ByteArray, s.extract 0 (48 + 4 * B4) = AH := ⟨_, rfl⟩
  rw [hAHe] at hAh
  have hz0 : 48 + 4 * B4 ≤ s.size := by omega
  have hAHz : AH.size = 48 + 4 * B4 := by rw [← hAHe, ByteArray.size_extract]; omega
  have HAHZ := Lib.hid hAHz
  have hAH1 : 48 ≤ AH.size := by omega
  have HAH := Lib.hid hAh
  have hHl : (AH.extract 0 48).data.toList = s.data.toList.take 48 := by
    rw [ext_of, hAh]
    show ((s.data.toList.take (48 + 4 * B4)).drop 0).take 48 = _
    rw [List.drop_zero, List.take_take, Nat.min_eq_left (by omega)]
  obtain ⟨HB, hHB⟩ : ∃ HB : ByteArray, AH.extract 0 48 = HB := ⟨_, rfl⟩
  rw [hHB] at hHl
  have hHBz : HB.size ≤ 48 := by rw [← len_of, hHl]; exact List.length_take_le _ _
  have HHL := Lib.hid hHl
  have hMl : (AH.extract 48 AH.size).data.toList = moreS s.data.toList := by
    rw [hAHz, ext_of, hAh]
    unfold moreS
    rw [HB4.out]
    show ((s.data.toList.take (48 + 4 * B4)).drop 48).take (48 + 4 * B4 - 48) = _
    exact List.take_of_length_le (by rw [List.length_drop, List.length_take]; omega)
  obtain ⟨MB, hMB⟩ : ∃ MB : ByteArray, AH.extract 48 AH.size = MB := ⟨_, rfl⟩
  rw [hMB] at hMl
  have hMBz : MB.size ≤ 1020 := by rw [← hMB, ByteArray.size_extract]; omega
  have HML := Lib.hid hMl
  have hb01 := below_step hb0 hb1
  have hP1 := hP0.below hb1 hP0.lt
  have hgl : g < w1.heap.size := Nat.lt_of_lt_of_le hP0.lt hb1.size
  clear hAh hHl hMl hAHz hb1 hb0 hP0
  rcases hhd : hdM k with _ | _
  all_goals
    rw [hhd] at hk1 hN1 HQ HN HNV
    simp only [if_true, if_false, Bool.false_eq_true] at hk1
    simp only [hdN, if_true, if_false, Bool.false_eq_true] at hN1
  rotate_left
  have hDv : ∃ D : ByteArray, D = ⟨(digB (crcN (s.data.toList.take (48 + 4 * B4)))).toArray⟩ := ⟨_, rfl⟩
  obtain ⟨D, hD⟩ := hDv
  have hdig : ∀ W : World, Calls Tryz.prog 61 #[.string AH] W fun e w' => e = .returned (.string D) ∧ Below W.heap.size W w' := by
    intro W
    have := digest_any AH W (by rw [HAHZ.out]; omega)
    rw [HAH.out, ← hD] at this
    exact this
  have HDV := Lib.hid hD
  have HDIG := Lib.hid hdig
  have hb11 : Below w1.heap.size w1 w1.drew := (Below.refl _ _).drew
  clear hD hdig
  have hz1 : (48 + 4 * (B4 : Int)) + 4 ≤ s.size := by omega
  have hz2 : IntKind.i64.wrap (48 + 4 * (B4 : Int) + 4) = 48 + 4 * (B4 : Int) + 4 := wrap_nat _ (by omega) (by omega)
  have hz3 : (0 : Int) ≤ 48 + 4 * (B4 : Int) + 4 := by omega
  have hz4 : (48 + 4 * (B4 : Int)) ≤ 48 + 4 * (B4 : Int) + 4 := by omega
  have hz5 : (48 + 4 * (B4 : Int) + 4).toNat = 48 + 4 * B4 + 4 := by omega
  have hz6 : (48 + 4 * (B4 : Int)).toNat = 48 + 4 * B4 := by omega
  have hz7 : (0 : Int) ≤ 48 + 4 * (B4 : Int) := by omega
  have hGl : (s.extract (48 + 4 * B4) (48 + 4 * B4 + 4)).data.toList = (s.data.toList.drop (48 + 4 * B4)).take 4 := by
    rw [ext_of]
    show (s.data.toList.drop (48 + 4 * B4)).take (48 + 4 * B4 + 4 - (48 + 4 * B4)) = _
    rw [Nat.add_sub_cancel_left]
  obtain ⟨G4, hG4⟩ : ∃ G4 : ByteArray, s.extract (48 + 4 * B4) (48 + 4 * B4 + 4) = G4 := ⟨_, rfl⟩
  rw [hG4] at hGl
  by_cases hq : D.data.toList = G4.data.toList
  rotate_left
  · have hQ1 : Q = some 15 := by
      rw [← HQ.out, bodyQ, if_pos]
      refine ⟨rfl, fun hn => hq ?_⟩
      rw [hGl, ← HB4.out, ← hn, HDV.out, HB4.out]
    subst hQ1
    have e0 : (D.toList == G4.toList) = false := by rw [toList_of, toList_of]; simpa using hq
    have e1 : (D.toList != G4.toList) = true := by rw [bne, e0]; rfl
    have e2 : (D.toList = G4.toList) = False := by rw [toList_of, toList_of]; simpa using hq
    clear HQ hq hGl
    go_wp2_with fail
    go_region_held3 (fun _ => True) (trivial) ((go_at_call 61; refine (HDIG.out _).mono ?_; rintro e w2 ⟨rfl, hb2⟩))
    have hbd := below_step hb01 (hb11.trans hb2)
    have hP2 := hP1.below (hb11.trans hb2) hgl
    have hgl2 : g < w2.heap.size := Nat.lt_of_lt_of_le hgl (hb11.trans hb2).size
    clear hz2 hz5 hz6 hP1 hb2 hb11
    have k0 := hP2.cell 0
    have k1 := hP2.cell 1
    have k2 := hP2.cell 2
    have k3 := hP2.cell 3
    have k4 := hP2.cell 4
    have k5 := hP2.cell 5
    have f0 := hP2.frozen 0
    have f1 := hP2.frozen 1
    have f2 := hP2.frozen 2
    have f3 := hP2.frozen 3
    have f4 := hP2.frozen 4
    have f5 := hP2.frozen 5
    go_wp2_with fail
    refine bodyPost_ret (results_s3 rfl _ _ g _ _ _ _ _ rfl rfl rfl (put6_blk hP2 _ _ _ _ _ _) Tryz.underlying38 rfl (by kernel_rfl)) rfl ⟨by unfold pduIsQ; rfl, ?_⟩
    first | exact put6_below hbd (Nat.le_of_eq hg) _ _ _ _ _ _ | (rw [hg] at hbd; exact put6_below hbd (Nat.le_refl _) _ _ _ _ _ _)
  have hQ1 : q1 s.data.toList false (ddM k) = Q := by rw [← HQ.out, bodyQ, if_neg (by simp)]
  have HQ1 := Lib.hid hQ1
  obtain ⟨AT, hAT⟩ : ∃ AT : Nat, 48 + 4 * B4 = AT := ⟨_, rfl⟩
  have HAT := Lib.hid (show atN s.data.toList false = AT by rw [← hAT, ← HB4.out]; rfl)
  have hATi : (48 + 4 * (B4 : Int)) = ((AT : Nat) : Int) := by omega
  have HATI := Lib.hid hATi
  have HATN := Lib.hid hAT
  have hN2 : AT + (dataN s.data.toList + padN (dataN s.data.toList)) ≤ N := by omega
  clear HQ hQ1 hAT hATi hN1
  focus go_wp2_with fail
  rw [hAHe, HATI.out]
  obtain ⟨wd, hwd⟩ : ∃ wd : World, wd = w1 := ⟨_, rfl⟩
  subst hwd
  have hbd := hb01
  have hPd := hP1
  have hgd := hgl
  clear hb01 hP1 hgl
  refine ?_
  rotate_left
  have hQ1 : q1 s.data.toList true (ddM k) = Q := by
    rw [← HQ.out, bodyQ, if_neg]
    rintro ⟨_, hn⟩
    rw [HB4.out, ← hGl, ← hq, HDV.out] at hn
    exact hn rfl
  have HQ1 := Lib.hid hQ1
  have e0 : (D.toList == G4.toList) = true := by rw [toList_of, toList_of, hq]; simp
  have e1 : (D.toList != G4.toList) = false := by rw [bne, e0]; rfl
  have e2 : (D.toList = G4.toList) = True := by rw [toList_of, toList_of, hq]; simp
  obtain ⟨AT, hAT⟩ : ∃ AT : Nat, 48 + 4 * B4 + 4 = AT := ⟨_, rfl⟩
  have HAT := Lib.hid (show atN s.data.toList true = AT by rw [← hAT, ← HB4.out]; rfl)
  have hATi : (48 + 4 * (B4 : Int) + 4) = ((AT : Nat) : Int) := by omega
  have HATI := Lib.hid hATi
  have HATN := Lib.hid hAT
  have hN2 : AT + (dataN s.data.toList + padN (dataN s.data.toList)) ≤ N := by omega
  clear HQ hQ1 hAT hATi hq hGl
  focus go_wp2_with fail
  focus go_region_held3 (fun _ => True) (trivial) ((go_at_call 61; refine (HDIG.out _).mono ?_; rintro e w2 ⟨rfl, hb2⟩))
  have hbd := below_step hb01 (hb11.trans hb2)
  have hP2 := hP1.below (hb11.trans hb2) hgl
  have hgl2 : g < w2.heap.size := Nat.lt_of_lt_of_le hgl (hb11.trans hb2).size
  clear hz2 hz5 hz6 hP1 hb2 hb11 hN1
  focus go_wp2_with fail
  rw [HATI.out]
  obtain ⟨wd, hwd⟩ : ∃ wd : World, wd = w2 := ⟨_, rfl⟩
  subst hwd
  have hPd := hP2
  have hgd := hgl2
  clear hb01 hP2 hgl hgl2 HDV HDIG e0 e1 e2 hG4
  refine ?_
  all_goals
    obtain ⟨g1, hg1⟩ : ∃ g1, wd.heap.size = g1 := ⟨_, rfl⟩
    have hbp : Below w.heap.size w (wd.alloc (.cells #[.int .i64 0, .bool false, .int .i64 0, .slice none 0 0, .slice none 0 0, .string ⟨#[]⟩] 38)) := hbd.alloc hbd.size _
    have hPp := hPd.alloc (.cells #[.int .i64 0, .bool false, .int .i64 0, .slice none 0 0, .slice none 0 0, .string ⟨#[]⟩] 38)
    have hQp := Blk.new wd 38 #[.int .i64 0, .bool false, .int .i64 0, .slice none 0 0, .slice none 0 0, .string ⟨#[]⟩]
    rw [hg1] at hQp hgd ⊢
    obtain ⟨wp, hwp⟩ : ∃ wp : World, wd.alloc (.cells #[.int .i64 0, .bool false, .int .i64 0, .slice none 0 0, .slice none 0 0, .string ⟨#[]⟩] 38) = wp := ⟨_, rfl⟩
    rw [hwp] at hbp hPp hQp ⊢
    have hg1p : g1 < wp.heap.size := hQp.lt
    clear hwp hbd hPd hg1
    refine (read_any HB _ (by omega) (T.on hbp) (shaped_ons hS hbp)).mono ?_
    rintro e w3 ⟨⟨hv, wd', dt, er, rfl, her, hno, hok⟩, hb3⟩
    rw [HHL.out] at her hno hok
    have hb3w := below_step hbp hb3
    have hP3 := hPp.below hb3 hPp.lt
    have hQ3 := hQp.below hb3 hQp.lt
    have hgz3 := hb3.size
    have k0 := hQ3.cell 0
    have k1 := hQ3.cell 1
    have k2 := hQ3.cell 2
    have k3 := hQ3.cell 3
    have f0 := hQ3.frozen 0
    have f1 := hQ3.frozen 1
    have f2 := hQ3.frozen 2
    have f3 := hQ3.frozen 3
    rcases hre : readE (s.data.toList.take 48) with _ | ⟨c, o⟩
    rotate_left
    · rw [hre] at her hno
      obtain ⟨rfl, rfl, rfl⟩ := hno (by simp)
      obtain ⟨et, ex, rfl⟩ := her.iface
      have hQv : Q = some c := by rw [← HQ1.out, q1, hre]
      subst hQv
      have HER := Lib.hid her
      clear her hok hre hno HQ1
      unfold zeroH
      go_wp2_with fail
      obtain ⟨w4, hw4⟩ : ∃ w4, put4 w3 g1 (.int .i64 0) (.bool false) (.int .i64 0) (.slice none 0 0) = w4 := ⟨_, rfl⟩
      have hst4 : Step g1 w3 w4 := by rw [← hw4]; exact put4_step _ _ _ _ _ _
      have hE4 : HErr w4 wp.heap.size (.iface et ex) (some (c, o)) := by rw [← hw4]; exact (((HER.out.store hg1p).store hg1p).store hg1p).store hg1p
      have hP4 := hP3.step hst4 (by omega)
      have hb4w : Below w.heap.size w w4 := hb3w.trans (hst4.below (by omega) (by omega))
      unfold put4 at hw4
      rw [hw4]
      clear hw4 k0 k1 k2 k3 f0 f1 f2 f3
      refine (tell_herr (c, o) _ _ _ (hL.on hb4w) hE4).mono ?_
      rintro e w5 ⟨rfl, hb5⟩
      have hP5 := hP4.below hb5 hP4.lt
      have hb5w := below_step hb4w hb5
      have k0 := hP5.cell 0
      have k1 := hP5.cell 1
      have k2 := hP5.cell 2
      have k3 := hP5.cell 3
      have k4 := hP5.cell 4
      have k5 := hP5.cell 5
      have f0 := hP5.frozen 0
      have f1 := hP5.frozen 1
      have f2 := hP5.frozen 2
      have f3 := hP5.frozen 3
      have f4 := hP5.frozen 4
      have f5 := hP5.frozen 5
      go_wp2_with fail
      refine bodyPost_ret (results_s3 rfl _ _ g _ _ _ _ _ rfl rfl rfl (put6_blk hP5 _ _ _ _ _ _) Tryz.underlying38 rfl (by kernel_rfl)) rfl ⟨by unfold pduIsQ; rfl, ?_⟩
      first | exact put6_below hb5w (Nat.le_of_eq hg) _ _ _ _ _ _ | (rw [hg] at hb5w; exact put6_below hb5w (Nat.le_refl _) _ _ _ _ _ _)
    have hR0 := rB_take s.data.toList 48 0 (by omega)
    have hR1 := rB_take s.data.toList 48 1 (by omega)
    have hR4 := rB_take s.data.toList 48 4 (by omega)
    have hR5 := rB_take s.data.toList 48 5 (by omega)
    have hR6 := rB_take s.data.toList 48 6 (by omega)
    have hR7 := rB_take s.data.toList 48 7 (by omega)
    rw [hR0, hR1, hR4, hR5, hR6, hR7] at hok
    rw [hre] at her
    obtain rfl : er = .nilIface := her
    obtain ⟨OP, hOP⟩ : ∃ OP, rB s.data.toList 0 % 64 = OP := ⟨_, rfl⟩
    obtain ⟨NOW, hNOW⟩ : ∃ NOW, decide (64 ≤ rB s.data.toList 0) = NOW := ⟨_, rfl⟩
    obtain ⟨FL, hFL⟩ : ∃ FL, rB s.data.toList 1 = FL := ⟨_, rfl⟩
    rw [hOP, hNOW, hFL] at hok
    obtain ⟨r, v, hrow, rfl, hsv, hwd, hdt, hfr⟩ := hok hre
    obtain ⟨DN, hDN⟩ : ∃ DN, dataN s.data.toList = DN := ⟨_, rfl⟩
    have hdt2 : dt = ((DN : Nat) : Int) := by rw [← hDN]; exact hdt
    subst hdt2
    have hDNl : DN < 16777216 := by rw [← hDN]; exact dataN_lt _
    obtain ⟨PD, hPD⟩ : ∃ PD, padN DN = PD := ⟨_, rfl⟩
    have hPDi : padI DN = (PD : Int) := by have := padI_rng DN; rw [← hPD]; unfold padN; omega
    have hPDl : PD ≤ 3 := by have := padI_rng DN; omega
    rw [hDN, hPD] at hN2
    obtain ⟨VL, hVL⟩ : ∃ VL, readV r.2.2.2 (s.data.toList.take 48) = VL := ⟨_, rfl⟩
    rw [hVL] at hsv
    have hQ2 := HQ1.out
    simp only [q1, hre] at hQ2
    have HQ2 := Lib.hid hQ2
    have HROW := Lib.hid hrow
    have HV := Lib.hid hVL
    have HDN := Lib.hid hDN
    have HPD := Lib.hid hPD
    have HPI := Lib.hid hPDi
    have HOP := Lib.hid hOP
    have HNOW := Lib.hid hNOW
    have HFL := Lib.hid hFL
    obtain ⟨A, cap, rfl⟩ : ∃ A cap, v = .slice A VL.length cap := by obtain ⟨_, A, cap, hv, _⟩ := hsv; exact ⟨A, cap, hv⟩
    have hfr2 : ∀ a, A = some a → w.heap.size ≤ a.block := fun a ha => Nat.le_trans hbp.size (hfr _ _ _ rfl a ha)
    have HFR := Lib.hid hfr2
    clear hfr hfr2
    clear hR0 hR1 hR4 hR5 hR6 hR7 hok hno hre hrow hVL hDN hPD hPDi hOP hNOW hFL hwd hdt HQ1 hQ2
    go_wp2_with fail
    obtain ⟨w4, hw4⟩ : ∃ w4, put4 w3 g1 (.int .i64 OP) (.bool NOW) (.int .i64 FL) (.slice A VL.length cap) = w4 := ⟨_, rfl⟩
    have hst4 : Step g1 w3 w4 := by rw [← hw4]; exact put4_step _ _ _ _ _ _
    have hQ4 : Blk w4 g1 38 #[.int .i64 OP, .bool NOW, .int .i64 FL, .slice A VL.length cap, .slice none 0 0, .string ⟨#[]⟩] := by rw [← hw4]; exact put4_blk hQ3 _ _ _ _
    have hP4 := hP3.step hst4 (by omega)
    have hb4w : Below w.heap.size w w4 := hb3w.trans (hst4.below (by omega) (by omega))
    have hv4 := hsv.step_u64 hQ3 (no_u64 _ _ _ _ _ _ _ _ _ _) hst4
    unfold put4 at hw4
    rw [hw4]
    have hg14 := hQ4.lt
    clear hw4 k0 k1 k2 k3 f0 f1 f2 f3 hsv hP3 hQ3 hst4 hb3 hb3w hPp hQp hgz3
    refine (ahsRead_any MB _ (hL.on hb4w) hMBz).mono ?_
    rintro e w5 ⟨r2, er2, rfl, hres, hb5⟩
    rw [HML.out] at hres
    have hb5w := below_step hb4w hb5
    have hP5 := hP4.below hb5 hP4.lt
    have hQ5 := hQ4.below hb5 hQ4.lt
    have hv5 := hv4.on hb5
    have k4 := hQ5.cell 4
    have f4 := hQ5.frozen 4
    rcases hrd : readGo 1021 (moreS s.data.toList) 0 with ⟨c, o⟩ | al
    · rw [hrd] at hres
      obtain ⟨rfl, her2⟩ := hres
      obtain ⟨et, ex, rfl⟩ := her2.iface
      have hQv : Q = some c := by rw [← HQ2.out, q2, hrd]
      subst hQv
      have HER := Lib.hid her2
      clear her2 hrd HQ2
      go_wp2_with fail
      obtain ⟨w6, hw6⟩ : ∃ w6, w5.setCell ⟨g1, 4, none⟩ (.slice none 0 0) = w6 := ⟨_, rfl⟩
      have hE6 : ErrAt w6 w4.heap.size (.iface et ex) (some (c, o)) := by rw [← hw6]; exact HER.out.store hg14
      have hst6 : Step g1 w5 w6 := by rw [← hw6]; exact Step.setCell g1 4 _ _
      have hP6 := hP5.step hst6 (by omega)
      have hb6w : Below w.heap.size w w6 := by rw [← hw6]; exact hb5w.setCell (by simp only; omega) _
      rw [hw6]
      clear hw6 k4 f4
      refine (tell_aerr (c, o) _ _ _ (hL.on hb6w) hE6).mono ?_
      rintro e w7 ⟨rfl, hb7⟩
      have hP7 := hP6.below hb7 hP6.lt
      have hb7w := below_step hb6w hb7
      have k0 := hP7.cell 0
      have k1 := hP7.cell 1
      have k2 := hP7.cell 2
      have k3 := hP7.cell 3
      have k4 := hP7.cell 4
      have k5 := hP7.cell 5
      have f0 := hP7.frozen 0
      have f1 := hP7.frozen 1
      have f2 := hP7.frozen 2
      have f3 := hP7.frozen 3
      have f4 := hP7.frozen 4
      have f5 := hP7.frozen 5
      go_wp2_with fail
      refine bodyPost_ret (results_s3 rfl _ _ g _ _ _ _ _ rfl rfl rfl (put6_blk hP7 _ _ _ _ _ _) Tryz.underlying38 rfl (by kernel_rfl)) rfl ⟨by unfold pduIsQ; rfl, ?_⟩
      first | exact put6_below hb7w (Nat.le_of_eq hg) _ _ _ _ _ _ | (rw [hg] at hb7w; exact put6_below hb7w (Nat.le_refl _) _ _ _ _ _ _)
    rw [hrd] at hres
    obtain ⟨rfl, hal⟩ := hres
    obtain ⟨B, bcap, rfl⟩ : ∃ B bcap, r2 = .slice B al.length bcap := by
      obtain ⟨A, cap, hv, _⟩ := MRow.form hal
      exact ⟨A, cap, hv⟩
    have hSl : (s.extract AT N).data.toList = (s.data.toList.take N).drop AT := by
      rw [ext_of, List.drop_take]
    obtain ⟨SX, hSX⟩ : ∃ SX : ByteArray, s.extract AT N = SX := ⟨_, rfl⟩
    rw [hSX] at hSl
    have hSXz : SX.size ≤ 1000000 := by rw [← hSX]; exact Nat.le_trans (size_ext _ _ _) hs
    have hQ3' := HQ2.out
    simp only [q2, hrd] at hQ3'
    have HQ3 := Lib.hid hQ3'
    have HRD := Lib.hid hrd
    have HSX := Lib.hid hSl
    have hATN : (AT : Int) ≤ (N : Int) := by omega
    clear hQ3' hrd hSl HQ2
    go_wp2_with fail
    obtain ⟨w6, hw6⟩ : ∃ w6, w5.setCell ⟨g1, 4, none⟩ (.slice B al.length bcap) = w6 := ⟨_, rfl⟩
    have hst6 : Step g1 w5 w6 := by rw [← hw6]; exact Step.setCell g1 4 _ _
    have hQ6 : Blk w6 g1 38 #[.int .i64 OP, .bool NOW, .int .i64 FL, .slice A VL.length cap, .slice B al.length bcap, .string ⟨#[]⟩] := by rw [← hw6]; exact hQ5.put 4 _
    have hP6 := hP5.step hst6 (by omega)
    have hb6w : Below w.heap.size w w6 := hb5w.trans (hst6.below (by omega) hb5w.size)
    have hv6 := hv5.step_u64 hQ5 (no_u64 _ _ _ _ _ _ _ _ _ _) hst6
    have hal6 : ARow w6 w4.heap.size (.slice B al.length bcap) al := hst6.mrow hal (fun e => by have := (MRow.lt hal _ e).1; omega)
    have hb4s : w.heap.size ≤ w4.heap.size := hb4w.size
    rw [hw6]
    clear hw6 k4 f4 hal hv5 hQ5 hP5 hst6 hb5w hb5 hv4 hP4 hQ4
    refine (unpad_any SX DN _ (by omega) (by omega)).mono ?_
    rintro e w' ⟨rfl, kq, rfl⟩
    have hP7 := hP6.drewN kq
    have hQ7 := hQ6.drewN kq
    have hb7w : Below w.heap.size w (w6.drewN kq) := hb6w.trans ⟨rfl, rfl, rfl, Nat.le_refl _, fun _ _ => rfl⟩
    have hv7 : SRd (w6.drewN kq) (.slice A VL.length cap) 1 VL.length (VL.map u64V) := hv6
    have hal7 : ARow (w6.drewN kq) w4.heap.size (.slice B al.length bcap) al := hal6
    obtain ⟨w7, hw7⟩ : ∃ w7, w6.drewN kq = w7 := ⟨_, rfl⟩
    rw [hw7] at hP7 hQ7 hb7w hv7 hal7 ⊢
    have hQ4' := HQ3.out
    rw [q3, HN.out, HAT.out, HDN.out, ← HSX.out] at hQ4'
    clear hw7 hal6 hv6 hP6 hQ6 hb6w
    by_cases hU : unpadE SX.data.toList DN = 0
    rotate_left
    · rw [if_pos hU] at hQ4'
      have hER : errv (unpadE SX.data.toList DN) = .iface 43 (.int .i64 (unpadE SX.data.toList DN : Nat)) := if_neg hU
      rw [hER]
      obtain ⟨U, hUU⟩ : ∃ U, unpadE SX.data.toList DN = U := ⟨_, rfl⟩
      rw [hUU] at hQ4' ⊢
      subst hQ4'
      clear hU hUU hER
      have k0 := hP7.cell 0
      have k1 := hP7.cell 1
      have k2 := hP7.cell 2
      have k3 := hP7.cell 3
      have k4 := hP7.cell 4
      have k5 := hP7.cell 5
      have f0 := hP7.frozen 0
      have f1 := hP7.frozen 1
      have f2 := hP7.frozen 2
      have f3 := hP7.frozen 3
      have f4 := hP7.frozen 4
      have f5 := hP7.frozen 5
      go_wp2_with fail
      refine bodyPost_ret (results_s3 rfl _ _ g _ _ _ _ _ rfl rfl rfl (put6_blk hP7 _ _ _ _ _ _) Tryz.underlying38 rfl (by kernel_rfl)) rfl ⟨by unfold pduIsQ; rfl, ?_⟩
      first | exact put6_below hb7w (Nat.le_of_eq hg) _ _ _ _ _ _ | (rw [hg] at hb7w; exact put6_below hb7w (Nat.le_refl _) _ _ _ _ _ _)
    rw [if_neg (fun h => h hU)] at hQ4'
    rw [show errv (unpadE SX.data.toList DN) = .nilIface by rw [hU]; rfl]
    have hS1 : unpadS SX.data.toList DN = SX.data.toList.take DN := by unfold unpadS; rw [if_pos hU, Int.toNat_natCast]
    have hS2 : unpadN SX.data.toList DN = ((DN + PD : Nat) : Int) := by unfold unpadN; rw [if_pos hU, HPI.out]; omega
    rw [hS1, hS2]
    have hBl : SX.data.toList.take DN = (s.data.toList.drop AT).take DN := by
      rw [HSX.out, List.drop_take, List.take_take, Nat.min_eq_left (by omega)]
    rw [hBl]
    have HQ4 := Lib.hid hQ4'
    have hNW := HNV.out
    rw [HDN.out, HPD.out] at hNW
    have HNW := Lib.hid hNW
    obtain ⟨SZ, hSZ⟩ : ∃ SZ, DN + PD = SZ := ⟨_, rfl⟩
    rw [hSZ] at hN2 ⊢
    have HSZ := Lib.hid hSZ
    have hSZl : DN ≤ SZ ∧ SZ ≤ DN + 3 := by omega
    clear hBl hS1 hS2 hU hQ4' hNW hSZ
    obtain ⟨BD, hBD⟩ : ∃ BD : ByteArray, (⟨((s.data.toList.drop AT).take DN).toArray⟩ : ByteArray) = BD := ⟨_, rfl⟩
    rw [hBD]
    have HBD := Lib.hid hBD
    clear hBD
    by_cases hdg : ddM k = true ∧ 0 < DN
    rotate_left
    · -- no digest of data
      have hQ5 : (if 100000 < DN then some 4 else none) = Q := by
        have := HQ4.out
        rw [q4, HDN.out, if_neg (by rintro ⟨h1, h2, _⟩; exact hdg ⟨h1, h2⟩)] at this
        exact this
      have HQ5 := Lib.hid hQ5
      clear hQ5 HQ4
      have hr7 : Below w7.heap.size w7 w7.drew := (Below.refl _ _).drew
      rcases hdd : ddM k with _ | _
      · rw [hdd] at hk2
        simp only [if_false, Bool.false_eq_true] at hk2
        clear hdg hdd
        focus go_wp2_with fail
        focus go_region
        obtain ⟨w8, hw8⟩ : ∃ w8 : World, w7.drew = w8 := ⟨_, rfl⟩
        rw [hw8] at hr7 ⊢
        clear hw8
        have hP8 := hP7.below hr7 hP7.lt
        have hQ8 := hQ7.below hr7 hQ7.lt
        have hb8w := below_step hb7w hr7
        have hv8 := hv7.on hr7
        have hal8 := MRow.below hal7 hr7 (Nat.le_refl _)
        by_cases hbig : 100000 < DN
        · have hQv : Q = some 4 := by rw [← HQ5.out, if_pos hbig]
          subst hQv
          have k0 := hP8.cell 0
          have k1 := hP8.cell 1
          have k2 := hP8.cell 2
          have k3 := hP8.cell 3
          have k4 := hP8.cell 4
          have k5 := hP8.cell 5
          have f0 := hP8.frozen 0
          have f1 := hP8.frozen 1
          have f2 := hP8.frozen 2
          have f3 := hP8.frozen 3
          have f4 := hP8.frozen 4
          have f5 := hP8.frozen 5
          go_wp2_with fail
          refine bodyPost_ret (results_s3 rfl _ _ g _ _ _ _ _ rfl rfl rfl (put6_blk hP8 _ _ _ _ _ _) Tryz.underlying38 rfl (by kernel_rfl)) rfl ⟨by unfold pduIsQ; rfl, ?_⟩
          first | exact put6_below hb8w (Nat.le_of_eq hg) _ _ _ _ _ _ | (rw [hg] at hb8w; exact put6_below hb8w (Nat.le_refl _) _ _ _ _ _ _)
        · have hQv : Q = none := by rw [← HQ5.out, if_neg hbig]
          subst hQv
          have j0 := hQ8.cell 0
          have j1 := hQ8.cell 1
          have j2 := hQ8.cell 2
          have j3 := hQ8.cell 3
          have j4 := hQ8.cell 4
          have j5 := hQ8.cell 5
          have j6 := hQ8.frozen 5
          have k0 := hP8.cell 0
          have k1 := hP8.cell 1
          have k2 := hP8.cell 2
          have k3 := hP8.cell 3
          have k4 := hP8.cell 4
          have k5 := hP8.cell 5
          have f0 := hP8.frozen 0
          have f1 := hP8.frozen 1
          have f2 := hP8.frozen 2
          have f3 := hP8.frozen 3
          have f4 := hP8.frozen 4
          have f5 := hP8.frozen 5
          go_wp2_with fail
          refine bodyPost_ret (results_s3 rfl _ _ g _ _ _ _ _ rfl rfl rfl (put6_blk (hP8.far (p := ⟨g1, 5, none⟩) (by simp only; omega) (.string BD)) _ _ _ _ _ _) Tryz.underlying38 rfl (by kernel_rfl)) rfl ⟨?_, ?_⟩
          · have hb9 := MRow.more (((Step.setCell g1 5 w8 (.string BD)).mrow hal8 (fun e => by have := (MRow.lt hal8 _ e).1; omega))) hb4s
            have hP9 := hP8.far (p := ⟨g1, 5, none⟩) (by simp only; omega) (.string BD)
            refine ⟨r, A, cap, al, B, bcap, by rw [HOP.out]; exact HROW.out, HRD.out, ?_, ?_, ?_, by first | exact HFR.out | (rw [← hg]; exact HFR.out)⟩
            · show Ending.returned (.tuple #[.agg #[.int .i64 (OP : Int), .bool NOW, .int .i64 (FL : Int), .slice A VL.length cap, .slice B al.length bcap, .string BD], .int .i64 (N : Int), .nilIface]) = _
              rw [HOP.out, HNOW.out, HFL.out, HV.out, hhd, HN.out, bodyS, HAT.out, HDN.out, HBD.out]
            · rw [HV.out]
              exact (hv8.step_u64 hQ8 (no_u64 _ _ _ _ _ _ _ _ _ _) (Step.setCell g1 5 _ _)).step_u64 hP9 (no_u64 _ _ _ _ _ _ _ _ _ _) (put6_step _ g _ _ _ _ _ _)
            · first | exact (put6_step _ g _ _ _ _ _ _).mrow hb9 (fun e => by have := (MRow.lt hb9 _ e).1; have := (MRow.lt hal8 _ e).1; omega) | (rw [hg] at hb9; exact (put6_step _ g _ _ _ _ _ _).mrow hb9 (fun e => by have := (MRow.lt hb9 _ e).1; have := (MRow.lt hal8 _ e).1; omega))
          · have hb9w : Below w.heap.size w (w8.setCell ⟨g1, 5, none⟩ (.string BD)) := hb8w.setCell (by simp only; omega) _
            first | exact put6_below hb9w (Nat.le_of_eq hg) _ _ _ _ _ _ | (rw [hg] at hb9w; exact put6_below hb9w (Nat.le_refl _) _ _ _ _ _ _)
      · rw [hdd] at hk2 hdg
        simp only [if_true] at hk2
        have hD0 : DN = 0 := by
          rcases Nat.eq_zero_or_pos DN with h | h
          · exact h
          · exact absurd ⟨rfl, h⟩ hdg
        clear hdg hdd
        subst hD0
        focus go_wp2_with fail
        focus go_region
        obtain ⟨w8, hw8⟩ : ∃ w8 : World, w7.drew = w8 := ⟨_, rfl⟩
        rw [hw8] at hr7 ⊢
        clear hw8
        have hP8 := hP7.below hr7 hP7.lt
        have hQ8 := hQ7.below hr7 hQ7.lt
        have hb8w := below_step hb7w hr7
        have hv8 := hv7.on hr7
        have hal8 := MRow.below hal7 hr7 (Nat.le_refl _)
        · have hQv : Q = none := by rw [← HQ5.out, if_neg (by omega)]
          subst hQv
          have j0 := hQ8.cell 0
          have j1 := hQ8.cell 1
          have j2 := hQ8.cell 2
          have j3 := hQ8.cell 3
          have j4 := hQ8.cell 4
          have j5 := hQ8.cell 5
          have j6 := hQ8.frozen 5
          have k0 := hP8.cell 0
          have k1 := hP8.cell 1
          have k2 := hP8.cell 2
          have k3 := hP8.cell 3
          have k4 := hP8.cell 4
          have k5 := hP8.cell 5
          have f0 := hP8.frozen 0
          have f1 := hP8.frozen 1
          have f2 := hP8.frozen 2
          have f3 := hP8.frozen 3
          have f4 := hP8.frozen 4
          have f5 := hP8.frozen 5
          go_wp2_with fail
          refine bodyPost_ret (results_s3 rfl _ _ g _ _ _ _ _ rfl rfl rfl (put6_blk (hP8.far (p := ⟨g1, 5, none⟩) (by simp only; omega) (.string BD)) _ _ _ _ _ _) Tryz.underlying38 rfl (by kernel_rfl)) rfl ⟨?_, ?_⟩
          · have hb9 := MRow.more (((Step.setCell g1 5 w8 (.string BD)).mrow hal8 (fun e => by have := (MRow.lt hal8 _ e).1; omega))) hb4s
            have hP9 := hP8.far (p := ⟨g1, 5, none⟩) (by simp only; omega) (.string BD)
            refine ⟨r, A, cap, al, B, bcap, by rw [HOP.out]; exact HROW.out, HRD.out, ?_, ?_, ?_, by first | exact HFR.out | (rw [← hg]; exact HFR.out)⟩
            · show Ending.returned (.tuple #[.agg #[.int .i64 (OP : Int), .bool NOW, .int .i64 (FL : Int), .slice A VL.length cap, .slice B al.length bcap, .string BD], .int .i64 (N : Int), .nilIface]) = _
              rw [HOP.out, HNOW.out, HFL.out, HV.out, hhd, HN.out, bodyS, HAT.out, HDN.out, HBD.out]
            · rw [HV.out]
              exact (hv8.step_u64 hQ8 (no_u64 _ _ _ _ _ _ _ _ _ _) (Step.setCell g1 5 _ _)).step_u64 hP9 (no_u64 _ _ _ _ _ _ _ _ _ _) (put6_step _ g _ _ _ _ _ _)
            · first | exact (put6_step _ g _ _ _ _ _ _).mrow hb9 (fun e => by have := (MRow.lt hb9 _ e).1; have := (MRow.lt hal8 _ e).1; omega) | (rw [hg] at hb9; exact (put6_step _ g _ _ _ _ _ _).mrow hb9 (fun e => by have := (MRow.lt hb9 _ e).1; have := (MRow.lt hal8 _ e).1; omega))
          · have hb9w : Below w.heap.size w (w8.setCell ⟨g1, 5, none⟩ (.string BD)) := hb8w.setCell (by simp only; omega) _
            first | exact put6_below hb9w (Nat.le_of_eq hg) _ _ _ _ _ _ | (rw [hg] at hb9w; exact put6_below hb9w (Nat.le_refl _) _ _ _ _ _ _)
    · obtain ⟨hdd, hD0⟩ := hdg
      rw [hdd] at hk2
      simp only [if_true] at hk2
      have hNv : N = AT + SZ + 4 := by
        have h1 := HNW.out
        have h2 := HSZ.out
        have h3 := HATN.out
        simp only [hdd, ddN, hdN, hD0, decide_true, Bool.and_true, if_true, if_false, Bool.false_eq_true] at h1
        omega
      have hXl : (s.extract AT (AT + SZ)).data.toList = (s.data.toList.drop AT).take SZ := by
        rw [ext_of]
        show (s.data.toList.drop AT).take (AT + SZ - AT) = _
        rw [Nat.add_sub_cancel_left]
      have hYl : (s.extract (AT + SZ) N).data.toList = (s.data.toList.take N).drop (AT + SZ) := by rw [ext_of, List.drop_take]
      obtain ⟨X, hX⟩ : ∃ X : ByteArray, s.extract AT (AT + SZ) = X := ⟨_, rfl⟩
      obtain ⟨Y, hY⟩ : ∃ Y : ByteArray, s.extract (AT + SZ) N = Y := ⟨_, rfl⟩
      rw [hX] at hXl
      rw [hY] at hYl
      obtain ⟨D2, hD2⟩ : ∃ D : ByteArray, D = ⟨(digB (crcN ((s.data.toList.drop AT).take SZ))).toArray⟩ := ⟨_, rfl⟩
      have hXz : X.size ≤ 1000000 := by rw [← hX]; exact Nat.le_trans (size_ext _ _ _) hs
      have hdig : ∀ W : World, Calls Tryz.prog 61 #[.string X] W fun e w' => e = .returned (.string D2) ∧ Below W.heap.size W w' := by
        intro W
        have := digest_any X W (by omega)
        rw [hXl, ← hD2] at this
        exact this
      have HDIG2 := Lib.hid hdig
      have hQ5 := HQ4.out
      have hr7 : Below w7.heap.size w7 w7.drew := (Below.refl _ _).drew
      have hz1 : (AT : Int) + (SZ : Int) ≤ (N : Int) := by omega
      have hz2 : IntKind.i64.wrap ((AT : Int) + (SZ : Int)) = (AT : Int) + (SZ : Int) := wrap_nat _ (by omega) (by omega)
      have hz3 : (0 : Int) ≤ (AT : Int) + (SZ : Int) := by omega
      have hz4 : (AT : Int) ≤ (AT : Int) + (SZ : Int) := by omega
      have hz5 : ((AT : Int) + (SZ : Int)).toNat = AT + SZ := by omega
      have hz8 : (AT : Int) + (SZ : Int) ≤ s.size := by omega
      have hz9 : (N : Int) ≤ s.size := by omega
      have hzD : decide ((0 : Int) < (DN : Int)) = true := decide_eq_true (by omega)
      rw [q4, HDN.out, HAT.out, HN.out, HPD.out, HSZ.out, ← hYl] at hQ5
      by_cases hq : D2.data.toList = Y.data.toList
      rotate_left
      · rw [if_pos ⟨hdd, hD0, fun h => hq (by rw [hD2]; exact h)⟩] at hQ5
        subst hQ5
        have e0 : (D2.toList == Y.toList) = false := by rw [toList_of, toList_of]; simpa using hq
        have e1 : (D2.toList != Y.toList) = true := by rw [bne, e0]; rfl
        have e2 : (D2.toList = Y.toList) = False := by rw [toList_of, toList_of]; simpa using hq
        have HNV2 := Lib.hid hNv
        clear hq hXl hYl hD2 hdig hdd hNv
        focus go_wp2_with fail
        focus go_region_held3 (fun _ => True) (trivial) ((go_at_call 61; refine (HDIG2.out _).mono ?_; rintro e w8 ⟨rfl, hb8⟩))
        have hr8 := hr7.trans hb8
        have hP8 := hP7.below hr8 hP7.lt
        have hb8w := below_step hb7w hr8
        clear hz2 hz5
        have k0 := hP8.cell 0
        have k1 := hP8.cell 1
        have k2 := hP8.cell 2
        have k3 := hP8.cell 3
        have k4 := hP8.cell 4
        have k5 := hP8.cell 5
        have f0 := hP8.frozen 0
        have f1 := hP8.frozen 1
        have f2 := hP8.frozen 2
        have f3 := hP8.frozen 3
        have f4 := hP8.frozen 4
        have f5 := hP8.frozen 5
        go_wp2_with fail
        refine bodyPost_ret (results_s3 rfl _ _ g _ _ _ _ _ rfl rfl rfl (put6_blk hP8 _ _ _ _ _ _) Tryz.underlying38 rfl (by kernel_rfl)) rfl ⟨by unfold pduIsQ; rfl, ?_⟩
        first | exact put6_below hb8w (Nat.le_of_eq hg) _ _ _ _ _ _ | (rw [hg] at hb8w; exact put6_below hb8w (Nat.le_refl _) _ _ _ _ _ _)
      · rw [if_neg (by rintro ⟨_, _, h⟩; exact h (by rw [← hq, hD2]))] at hQ5
        have e0 : (D2.toList == Y.toList) = true := by rw [toList_of, toList_of, hq]; simp
        have e1 : (D2.toList != Y.toList) = false := by rw [bne, e0]; rfl
        have e2 : (D2.toList = Y.toList) = True := by rw [toList_of, toList_of, hq]; simp
        have HNV2 := Lib.hid hNv
        have HQ5 := Lib.hid hQ5
        clear hq hXl hYl hD2 hdig hdd hNv hQ5
        focus go_wp2_with fail
        focus go_region_held3 (fun _ => True) (trivial) ((go_at_call 61; refine (HDIG2.out _).mono ?_; rintro e w8 ⟨rfl, hb8⟩))
        have hr8 := hr7.trans hb8
        clear hz2 hz5
        have hP8 := hP7.below hr8 hP7.lt
        have hQ8 := hQ7.below hr8 hQ7.lt
        have hb8w := below_step hb7w hr8
        have hv8 := hv7.on hr8
        have hal8 := MRow.below hal7 hr8 (Nat.le_refl _)
        by_cases hbig : 100000 < DN
        · have hQv : Q = some 4 := by rw [← HQ5.out, if_pos hbig]
          subst hQv
          have k0 := hP8.cell 0
          have k1 := hP8.cell 1
          have k2 := hP8.cell 2
          have k3 := hP8.cell 3
          have k4 := hP8.cell 4
          have k5 := hP8.cell 5
          have f0 := hP8.frozen 0
          have f1 := hP8.frozen 1
          have f2 := hP8.frozen 2
          have f3 := hP8.frozen 3
          have f4 := hP8.frozen 4
          have f5 := hP8.frozen 5
          go_wp2_with fail
          refine bodyPost_ret (results_s3 rfl _ _ g _ _ _ _ _ rfl rfl rfl (put6_blk hP8 _ _ _ _ _ _) Tryz.underlying38 rfl (by kernel_rfl)) rfl ⟨by unfold pduIsQ; rfl, ?_⟩
          first | exact put6_below hb8w (Nat.le_of_eq hg) _ _ _ _ _ _ | (rw [hg] at hb8w; exact put6_below hb8w (Nat.le_refl _) _ _ _ _ _ _)
        · have hQv : Q = none := by rw [← HQ5.out, if_neg hbig]
          subst hQv
          have j0 := hQ8.cell 0
          have j1 := hQ8.cell 1
          have j2 := hQ8.cell 2
          have j3 := hQ8.cell 3
          have j4 := hQ8.cell 4
          have j5 := hQ8.cell 5
          have j6 := hQ8.frozen 5
          have k0 := hP8.cell 0
          have k1 := hP8.cell 1
          have k2 := hP8.cell 2
          have k3 := hP8.cell 3
          have k4 := hP8.cell 4
          have k5 := hP8.cell 5
          have f0 := hP8.frozen 0
          have f1 := hP8.frozen 1
          have f2 := hP8.frozen 2
          have f3 := hP8.frozen 3
          have f4 := hP8.frozen 4
          have f5 := hP8.frozen 5
          go_wp2_with fail
          refine bodyPost_ret (results_s3 rfl _ _ g _ _ _ _ _ rfl rfl rfl (put6_blk (hP8.far (p := ⟨g1, 5, none⟩) (by simp only; omega) (.string BD)) _ _ _ _ _ _) Tryz.underlying38 rfl (by kernel_rfl)) rfl ⟨?_, ?_⟩
          · have hb9 := MRow.more (((Step.setCell g1 5 w8 (.string BD)).mrow hal8 (fun e => by have := (MRow.lt hal8 _ e).1; omega))) hb4s
            have hP9 := hP8.far (p := ⟨g1, 5, none⟩) (by simp only; omega) (.string BD)
            refine ⟨r, A, cap, al, B, bcap, by rw [HOP.out]; exact HROW.out, HRD.out, ?_, ?_, ?_, by first | exact HFR.out | (rw [← hg]; exact HFR.out)⟩
            · show Ending.returned (.tuple #[.agg #[.int .i64 (OP : Int), .bool NOW, .int .i64 (FL : Int), .slice A VL.length cap, .slice B al.length bcap, .string BD], .int .i64 (N : Int), .nilIface]) = _
              rw [HOP.out, HNOW.out, HFL.out, HV.out, hhd, HN.out, bodyS, HAT.out, HDN.out, HBD.out]
            · rw [HV.out]
              exact (hv8.step_u64 hQ8 (no_u64 _ _ _ _ _ _ _ _ _ _) (Step.setCell g1 5 _ _)).step_u64 hP9 (no_u64 _ _ _ _ _ _ _ _ _ _) (put6_step _ g _ _ _ _ _ _)
            · first | exact (put6_step _ g _ _ _ _ _ _).mrow hb9 (fun e => by have := (MRow.lt hb9 _ e).1; have := (MRow.lt hal8 _ e).1; omega) | (rw [hg] at hb9; exact (put6_step _ g _ _ _ _ _ _).mrow hb9 (fun e => by have := (MRow.lt hb9 _ e).1; have := (MRow.lt hal8 _ e).1; omega))
          · have hb9w : Below w.heap.size w (w8.setCell ⟨g1, 5, none⟩ (.string BD)) := hb8w.setCell (by simp only; omega) _
            first | exact put6_below hb9w (Nat.le_of_eq hg) _ _ _ _ _ _ | (rw [hg] at hb9w; exact put6_below hb9w (Nat.le_refl _) _ _ _ _ _ _)
end Go.Proofs.YtifniblffjgfkaaGreatDoor

/- The contracts of what the laws on PDUs ask: Read of what was written, same, large. -/
namespace Go.Proofs.YtifniblffjgfkaaGreatDoor
open Go.ChangeShapes Go.WideShapes Go.ChangeAt Go.RowKit Go.Shelf
set_option linter.unusedVariables false
theorem rightR_parts {op : Int} {now : Bool} {fl : Int} {vals : List Nat} {l : AhsL} {n : Nat} (h : pduR op now fl vals l n = none) : rightR op now fl vals = none ∧ rightGo l 0 0 = none ∧ n ≤ 100000 := by
  unfold pduR at h
  rcases h1 : rightR op now fl vals with _ | E
  · rw [h1] at h
    rcases h2 : rightGo l 0 0 with _ | E2
    · rw [h2] at h
      simp only at h
      split at h
      · cases h
      · exact ⟨rfl, rfl, by omega⟩
    · rw [h2] at h
      cases h
  · rw [h1] at h
    cases h
/- what a PDU that is right is as bytes, with its parts -/
theorem pdu_parts (r : HeadR) (now : Bool) (F : Nat) (vals : List Nat) (l : AhsL) (data R : List UInt8) (hd dd : Bool) (hrow : headRow (r.1 : Int) = some r) (hF : F < 256) (hl : ∀ x ∈ vals, x < 18446744073709551616) (h1 : rightR (r.1 : Int) now F vals = none) (h2 : rightGo l 0 0 = none) (h5 : data.length ≤ 100000) :
    ∃ X, X = pduB (layAll (headB r.1 now F ((ahsB l).length / 4) data.length) r.2.2.2 vals) (ahsB l) data hd dd ++ R ∧ prE X hd dd = none ∧ allN X hd dd = (pduB (layAll (headB r.1 now F ((ahsB l).length / 4) data.length) r.2.2.2 vals) (ahsB l) data hd dd).length ∧
      rB X 0 % 64 = r.1 ∧ decide (64 ≤ rB X 0) = now ∧ rB X 1 = F ∧ readV r.2.2.2 (X.take 48) = vals ∧ readGo 1021 (moreS X) 0 = .inr l ∧ bodyS X hd = data ∧ 48 ≤ X.length := by
  have hall := right_none l 0 0 (by omega) h2
  have hml : (ahsB l).length = sumLen l := ahsB_len l
  have hmod := sumLen_mod l
  have hrd := readGo_ahsB l 1021 0 hall.1 (by omega)
  obtain ⟨e1, e2, e3, e4, e5, e6, e7⟩ := write_read r now F ((ahsB l).length / 4) data.length vals hrow hF (by omega) (by omega) hl h1
  obtain ⟨hb, hhb⟩ : ∃ hb, layAll (headB r.1 now F ((ahsB l).length / 4) data.length) r.2.2.2 vals = hb := ⟨_, rfl⟩
  rw [hhb] at e1 e2 e3 e4 e5 e6 e7 ⊢
  have hlen := readE_len e1
  obtain ⟨p1, p2, p3⟩ := pdu_back hb (ahsB l) data R l hd dd e1 (by omega) e7 hrd h5
  have hX : pduB hb (ahsB l) data hd dd ++ R = hb ++ (ahsB l ++ (dg4 hd (hb ++ ahsB l) ++ (padded data ++ (dg4 (dd && decide (0 < data.length)) (padded data) ++ R)))) := by unfold pduB; simp
  have r0 : ∀ j, j < 48 → rB (pduB hb (ahsB l) data hd dd ++ R) j = rB hb j := fun j hj => by rw [hX]; exact rB_append hb _ j (by omega)
  have ht : (pduB hb (ahsB l) data hd dd ++ R).take 48 = hb := by rw [hX]; exact take_at hlen
  have hdl : dataN (pduB hb (ahsB l) data hd dd ++ R) = data.length := by unfold dataN; rw [r0 5 (by omega), r0 6 (by omega), r0 7 (by omega)]; exact e7
  refine ⟨_, rfl, p1, p2, ?_, ?_, ?_, ?_, ?_, ?_, ?_⟩
  · rw [r0 0 (by omega)]; exact e3
  · rw [r0 0 (by omega)]; exact e4
  · rw [r0 1 (by omega)]; exact e5
  · rw [ht]; exact e2
  · have : moreS (pduB hb (ahsB l) data hd dd ++ R) = ahsB l := by
      unfold moreS
      rw [r0 4 (by omega), e6, hX, take_2 hlen (by omega)]
      exact drop_at hlen
    rw [this]; exact hrd
  · unfold bodyS
    have h3 := congrArg (List.take (dataN (pduB hb (ahsB l) data hd dd ++ R))) p3
    rw [List.take_take, Nat.min_eq_left (by omega)] at h3
    rw [h3, hdl, padded, List.take_left]
  · rw [hX]; simp; omega
theorem pduRead_back (s : ByteArray) (r : HeadR) (now : Bool) (F : Nat) (vals : List Nat) (l : AhsL) (d : ByteArray) (R : List UInt8) (k : Nat) (w : World) (hk : k < 4) (hrow : headRow (r.1 : Int) = some r) (hF : F < 256) (hl : ∀ x ∈ vals, x < 18446744073709551616) (h1 : rightR (r.1 : Int) now F vals = none) (h2 : rightGo l 0 0 = none) (h5 : d.size ≤ 100000)
    (hs : s.data.toList = pduB (layAll (headB r.1 now F ((ahsB l).length / 4) d.size) r.2.2.2 vals) (ahsB l) d.data.toList (hdM k) (ddM k) ++ R) (hz : s.size ≤ 1000000) (hL : LaidE w) (T : Tabs w) (hS : w.ShapedOpen Tryz.prog) :
    Calls Tryz.prog 52 #[.string s, .int .i64 k] w fun e w' => ∃ A cap B bcap, e = .returned (.tuple #[.agg #[.int .i64 r.1, .bool now, .int .i64 F, .slice A vals.length cap, .slice B l.length bcap, .string d], .int .i64 ((pduB (layAll (headB r.1 now F ((ahsB l).length / 4) d.size) r.2.2.2 vals) (ahsB l) d.data.toList (hdM k) (ddM k)).length : Nat), .nilIface]) ∧
      SRd w' (.slice A vals.length cap) 1 vals.length (vals.map u64V) ∧ SRd w' (.slice B l.length bcap) 2 l.length (ahsCells l) ∧ Below w.heap.size w w' := by
  obtain ⟨X, hX, p1, p2, p3, p4, p5, p6, p7, p8, _⟩ := pdu_parts r now F vals l d.data.toList R (hdM k) (ddM k) hrow hF hl h1 h2 (by rw [len_of]; exact h5)
  rw [len_of] at hX p2
  have hsX : s.data.toList = X := by rw [hX]; exact hs
  refine (pduRead_any s k w hk hz hL T hS).mono ?_
  rintro e w' ⟨hp, hb⟩
  unfold pduIs at hp
  rw [hsX, p1] at hp
  obtain ⟨r2, A, cap, al, B, bcap, q1, q2, rfl, q4, q5, _⟩ := hp
  rw [p3] at q1
  obtain rfl : r = r2 := Option.some.inj (hrow.symm.trans q1)
  rw [p7] at q2
  obtain rfl : l = al := Sum.inr.inj q2
  rw [p6] at q4
  refine ⟨A, cap, B, bcap, ?_, q4, SRd.of_m q5, hb⟩
  rw [p2, p3, p4, p5, p6, p8]
def LargeIs (n m : Nat) (e : Ending) : Prop := ∃ b : Bool, e = .returned (.bool b) ∧ (b = false → n ≤ 50 ∧ m ≤ 2500)
set_option maxRecDepth 20000 in
set_option maxHeartbeats 2000000 in
theorem large_any (op : Int) (now : Bool) (fl : Int) (vals : List Nat) (v : Value) (l : AhsL) (av : Value) (s : ByteArray) (w : World) (hv : SRd w v 1 vals.length (vals.map u64V))
    (ha : SRd w av 2 l.length (ahsCells l)) (hd : ∀ p ∈ l, p.2.size ≤ 140737488351232) (hs : s.size ≤ 140737488351232) :
    Calls Tryz.prog 24 #[.agg #[.int .i64 op, .bool now, .int .i64 fl, v, av, .string s]] w fun e w' => LargeIs vals.length s.size e ∧ Below w.heap.size w w' := by
  obtain ⟨A, cap, rfl⟩ : ∃ A cap, v = .slice A vals.length cap := by obtain ⟨_, A, cap, hv, _⟩ := hv; exact ⟨A, cap, hv⟩
  obtain ⟨B, bcap, rfl⟩ : ∃ A cap, av = .slice A l.length cap := by obtain ⟨_, A, cap, hv, _⟩ := ha; exact ⟨A, cap, hv⟩
  have hmax : vals.length ≤ 9223372036854775807 := by
    obtain ⟨_, A2, cap2, hv, h1, h2, _⟩ := hv
    injection hv with k1 k2 k3
    unfold maxLen at h2
    omega
  have hB0 := Blk.new w 38 #[.int .i64 op, .bool now, .int .i64 fl, .slice A vals.length cap, .slice B l.length bcap, .string s]
  have hb0 : Below w.heap.size w (w.alloc (.cells #[.int .i64 op, .bool now, .int .i64 fl, .slice A vals.length cap, .slice B l.length bcap, .string s] 38)) := (Below.refl _ _).alloc (Nat.le_refl _) _
  obtain ⟨g, hg⟩ : ∃ g, w.heap.size = g := ⟨_, rfl⟩
  go_enter Tryz.func24, Tryz.ntmps24
  go_wp2_with fail
  obtain ⟨w0, hw0⟩ : ∃ w0 : World, w.alloc (.cells #[.int .i64 op, .bool now, .int .i64 fl, .slice A vals.length cap, .slice B l.length bcap, .string s] 38) = w0 := ⟨_, rfl⟩
  rw [hw0] at hb0 hB0 ⊢
  rw [hg] at hB0
  try rw [hg]
  clear hw0
  refine (wide_any l _ _ (ha.on hb0) hd).mono ?_
  rintro e w1 ⟨b, rfl, hb1⟩
  have hbw1 := below_step hb0 hb1
  have hbg : Below g w w1 := by rw [← hg]; exact hbw1
  have hB1 := hB0.below hb1 hB0.lt
  have c3 := hB1.cell 3
  have c5 := hB1.cell 5
  rcases b with _ | _
  · by_cases h1 : 50 < vals.length
    · go_wp2_with fail
      go_ret
      first | exact ⟨⟨true, rfl, fun h => by cases h⟩, hbw1⟩ | exact ⟨⟨true, rfl, fun h => by cases h⟩, hbg⟩
    · by_cases h2 : 2500 < s.size
      · go_wp2_with fail
        go_ret
        exact ⟨⟨true, by simp; omega, fun h => by cases h⟩, by first | exact hbw1 | exact hbg⟩
      · go_wp2_with fail
        go_ret
        exact ⟨⟨false, by simp; omega, fun _ => ⟨by omega, by omega⟩⟩, by first | exact hbw1 | exact hbg⟩
  · go_wp2_with fail
    go_ret
    first | exact ⟨⟨true, rfl, fun h => by cases h⟩, hbw1⟩ | exact ⟨⟨true, rfl, fun h => by cases h⟩, hbg⟩
set_option maxRecDepth 20000 in
set_option maxHeartbeats 2000000 in
theorem samePdu_yes (op : Int) (now : Bool) (fl : Int) (vals : List Nat) (l : AhsL) (x y u v : Value) (s : ByteArray) (w : World) (hx : SRd w x 1 vals.length (vals.map u64V)) (hy : SRd w y 1 vals.length (vals.map u64V))
    (hu : SRd w u 2 l.length (ahsCells l)) (hv : SRd w v 2 l.length (ahsCells l)) :
    Calls Tryz.prog 21 #[.agg #[.int .i64 op, .bool now, .int .i64 fl, x, u, .string s], .agg #[.int .i64 op, .bool now, .int .i64 fl, y, v, .string s]] w fun e w' => e = .returned (.bool true) ∧ Below w.heap.size w w' := by
  obtain ⟨A, cap, rfl⟩ : ∃ A cap, x = .slice A vals.length cap := by obtain ⟨_, A, cap, hv, _⟩ := hx; exact ⟨A, cap, hv⟩
  obtain ⟨A2, cap2, rfl⟩ : ∃ A cap, y = .slice A vals.length cap := by obtain ⟨_, A, cap, hv, _⟩ := hy; exact ⟨A, cap, hv⟩
  obtain ⟨B, bcap, rfl⟩ : ∃ A cap, u = .slice A l.length cap := by obtain ⟨_, A, cap, hv, _⟩ := hu; exact ⟨A, cap, hv⟩
  obtain ⟨B2, bcap2, rfl⟩ : ∃ A cap, v = .slice A l.length cap := by obtain ⟨_, A, cap, hv, _⟩ := hv; exact ⟨A, cap, hv⟩
  have hb0 : Below w.heap.size w ((w.alloc (.cells #[.int .i64 op, .bool now, .int .i64 fl, .slice A vals.length cap, .slice B l.length bcap, .string s] 38)).alloc (.cells #[.int .i64 op, .bool now, .int .i64 fl, .slice A2 vals.length cap2, .slice B2 l.length bcap2, .string s] 38)) := ((Below.refl _ _).alloc (Nat.le_refl _) _).alloc (by simp) _
  have hB1 := (Blk.new w 38 #[.int .i64 op, .bool now, .int .i64 fl, .slice A vals.length cap, .slice B l.length bcap, .string s]).alloc (.cells #[.int .i64 op, .bool now, .int .i64 fl, .slice A2 vals.length cap2, .slice B2 l.length bcap2, .string s] 38)
  have hB2 : Blk ((w.alloc (.cells #[.int .i64 op, .bool now, .int .i64 fl, .slice A vals.length cap, .slice B l.length bcap, .string s] 38)).alloc (.cells #[.int .i64 op, .bool now, .int .i64 fl, .slice A2 vals.length cap2, .slice B2 l.length bcap2, .string s] 38)) (w.heap.size + 1) 38 #[.int .i64 op, .bool now, .int .i64 fl, .slice A2 vals.length cap2, .slice B2 l.length bcap2, .string s] := by
    have := Blk.new (w.alloc (.cells #[.int .i64 op, .bool now, .int .i64 fl, .slice A vals.length cap, .slice B l.length bcap, .string s] 38)) 38 #[.int .i64 op, .bool now, .int .i64 fl, .slice A2 vals.length cap2, .slice B2 l.length bcap2, .string s]
    simpa using this
  go_enter Tryz.func21, Tryz.ntmps21
  go_wp2_with fail
  obtain ⟨w0, hw0⟩ : ∃ w0 : World, (w.alloc (.cells #[.int .i64 op, .bool now, .int .i64 fl, .slice A vals.length cap, .slice B l.length bcap, .string s] 38)).alloc (.cells #[.int .i64 op, .bool now, .int .i64 fl, .slice A2 vals.length cap2, .slice B2 l.length bcap2, .string s] 38) = w0 := ⟨_, rfl⟩
  obtain ⟨g, hg⟩ : ∃ g, w.heap.size = g := ⟨_, rfl⟩
  rw [hw0] at hb0 hB1 hB2 ⊢
  rw [hg] at hB1 hB2
  try rw [hg]
  clear hw0
  refine (same_yes op now fl vals _ _ _ (hx.on hb0) (hy.on hb0)).mono ?_
  rintro e w1 ⟨rfl, hb1⟩
  have hbw1 := below_step hb0 hb1
  have hB11 := hB1.below hb1 hB1.lt
  have hB21 := hB2.below hb1 hB2.lt
  have c4 := hB11.cell 4
  have c5 := hB11.cell 5
  have d4 := hB21.cell 4
  have d5 := hB21.cell 5
  go_wp2_with fail
  refine (equal_same l _ _ _ (hu.on hbw1) (hv.on hbw1)).mono ?_
  rintro e w' ⟨rfl, kq, rfl⟩
  have hbw2 : Below w.heap.size w (w1.drewN kq) := below_dN hbw1 kq
  obtain ⟨w2, hw2⟩ : ∃ w2, w1.drewN kq = w2 := ⟨_, rfl⟩
  have hB12 := hB11.drewN kq
  have hB22 := hB21.drewN kq
  rw [hw2] at hbw2 hB12 hB22 ⊢
  clear c4 c5 d4 d5 hw2
  have c5 := hB12.cell 5
  have d5 := hB22.cell 5
  have e1 : (s.toList == s.toList) = true := by simp
  go_wp2_with fail
  all_goals
    try go_region
    try go_wp2_with fail
    go_ret
    exact ⟨by simp, by first | exact hbw2 | (rw [hg] at hbw2; exact hbw2) | exact hbw2.drew⟩
end Go.Proofs.YtifniblffjgfkaaGreatDoor

/- The fact wrapped. -/
namespace Go.Proofs.YtifniblffjgfkaaGreatDoor
open Go.ChangeShapes Go.WideShapes Go.ChangeAt Go.RowKit Go.Shelf
set_option linter.unusedVariables false
def helloB : ByteArray := ⟨#[104, 101, 108, 108, 111]⟩
theorem nilS (w : World) (size : Nat) : SRd w (.slice none 0 0) size 0 [] := ⟨by simp, none, 0, rfl, Nat.le_refl _, by unfold maxLen; omega, fun h => absurd h (Nat.lt_irrefl _)⟩
set_option maxRecDepth 20000 in
set_option maxHeartbeats 2000000 in
theorem wrapped_fact (w : World) (hL : LaidE w) (T : Tabs w) (hS : w.ShapedOpen Tryz.prog) : Calls Tryz.prog 23 #[] w fun e w' => e = .returned (.bool true) ∧ Below w.heap.size w w' := by
  obtain ⟨r, hr, hrr, hlay, hE, hV⟩ := nop_facts
  have hr0 : r.1 = 0 := by have := headRow_op hr; omega
  go_enter Tryz.func23, Tryz.ntmps23
  go_wp2_with fail
  refine (nop_any _).mono ?_
  rintro e w1 ⟨v, rfl, hv, hb1⟩
  obtain ⟨A, cap, rfl⟩ : ∃ A cap, v = .slice A nopL.length cap := by obtain ⟨_, A, cap, hv, _⟩ := hv; exact ⟨A, cap, hv⟩
  have HR := Lib.hid hr
  have HRR := Lib.hid hrr
  have HR0 := Lib.hid hr0
  clear hr hrr hr0 hlay hE hV
  go_wp2_with fail
  rw [show (⟨#[104, 101, 108, 108, 111]⟩ : ByteArray) = helloB from rfl]
  obtain ⟨w2, hw2⟩ : ∃ w2 : World, w1.alloc (.cells #[.int .i64 0, .bool true, .int .i64 128, .slice A nopL.length cap, .slice none 0 0, .string helloB] 38) = w2 := ⟨_, rfl⟩
  obtain ⟨g, hg⟩ : ∃ g, w1.heap.size = g := ⟨_, rfl⟩
  have hB2 : Blk w2 g 38 #[.int .i64 0, .bool true, .int .i64 128, .slice A nopL.length cap, .slice none 0 0, .string helloB] := by rw [← hw2, ← hg]; exact Blk.new w1 _ _
  have hb12 : Below w1.heap.size w1 w2 := by rw [← hw2]; exact (Below.refl _ _).alloc (Nat.le_refl _) _
  have hbw2 := below_step hb1 hb12
  have hv2 := hv.on hb12
  rw [hw2]
  try rw [hg]
  clear hw2 hb12 hv hg
  refine (pduWrite_ok 0 true 128 nopL _ [] _ helloB 3 r _ (by decide) HR.out (by decide) HRR.out rfl (by decide) (by decide) hv2 (by decide) (nilS _ 2) (fun p hp => (List.not_mem_nil hp).elim) (hL.on hbw2) (T.on hbw2) (shaped_ons hS hbw2)).mono ?_
  rintro e w3 ⟨rfl, hb3⟩
  have hbw3 := below_step hbw2 hb3
  have hB3 := hB2.below hb3 hB2.lt
  have hv3 := hv2.on hb3
  have hHl : (layAll (headB r.1 true 128 ((ahsB []).length / 4) helloB.size) r.2.2.2 nopL).length = 48 := layAll_len r.2.2.2 nopL _ (headT_ok r (headRow_mem HR.out)) rfl
  obtain ⟨L, hLL⟩ : ∃ L, pduB (layAll (headB r.1 true 128 ((ahsB []).length / 4) helloB.size) r.2.2.2 nopL) (ahsB []) helloB.data.toList (hdM 3) (ddM 3) = L := ⟨_, rfl⟩
  have hLz : L.length = 64 := by
    rw [← hLL]
    unfold pduB
    rw [List.length_append, List.length_append, List.length_append, List.length_append, dg4_len, dg4_len, hHl]
    rfl
  rw [hLL]
  obtain ⟨W, hW⟩ : ∃ W : ByteArray, (⟨L.toArray⟩ : ByteArray) = W := ⟨_, rfl⟩
  have hWl : W.data.toList = L := by rw [← hW]
  have hWz : W.size = 64 := by rw [← len_of, hWl, hLz]
  have HWL := Lib.hid hWl
  have HLL := Lib.hid hLL
  rw [hW]
  have hRd : (W ++ ⟨#[120]⟩).data.toList = L ++ [120] := by rw [cat_of, hWl]
  have HRD := Lib.hid hRd
  have c0 := hB3.cell 0
  have c1 := hB3.cell 1
  have c2 := hB3.cell 2
  have c3 := hB3.cell 3
  have c4 := hB3.cell 4
  have c5 := hB3.cell 5
  have hgl := hB3.lt
  clear hWl hLL hW hRd hb3 hv2 hB2 hHl hb1
  obtain ⟨X, hX⟩ : ∃ X : ByteArray, W ++ ⟨#[120]⟩ = X := ⟨_, rfl⟩
  rw [hX] at HRD
  have hXz : X.size = 65 := by rw [← len_of, HRD.out]; simp; omega
  go_wp2_with fail
  refine (pduRead_back X r true 128 nopL [] helloB [120] 3 _ (by decide) (by rw [HR0.out]; exact HR.out) (by decide) (by decide) (by rw [HR0.out]; exact HRR.out) rfl (by decide) (by rw [HRD.out, ← HLL.out]) (by omega) (hL.on hbw3) (T.on hbw3) (shaped_ons hS hbw3)).mono ?_
  rintro e w4 ⟨A4, cap4, B4, bcap4, rfl, hv4, ha4, hb4⟩
  rw [HLL.out, hLz, HR0.out]
  have hbw4 := below_step hbw3 hb4
  have hB4 := hB3.below hb4 hgl
  have hv4' := hv3.on hb4
  rw [show ((0 : Nat) : Int) = 0 from rfl, show ((128 : Nat) : Int) = 128 from rfl, show ((64 : Nat) : Int) = 64 from rfl, show ([] : AhsL).length = 0 from rfl]
  have c0 := hB4.cell 0
  have c1 := hB4.cell 1
  have c2 := hB4.cell 2
  have c3 := hB4.cell 3
  have c4 := hB4.cell 4
  have c5 := hB4.cell 5
  have e64 : ((W.size : Int) == 64) = true := by rw [hWz]; rfl
  have hgl4 : g < w4.heap.size := hB4.lt
  clear hb4 hB3
  go_wp2_with fail
  have hb45 : Below w4.heap.size w4 (w4.alloc (.cells #[.int .i64 0, .bool true, .int .i64 128, .slice A4 nopL.length cap4, .slice B4 0 bcap4, .string helloB] 38)) := (Below.refl _ _).alloc (Nat.le_refl _) _
  have hbw5 := below_step hbw4 hb45
  refine (samePdu_yes 0 true 128 nopL [] _ _ _ _ helloB _ (hv4'.on hb45) (hv4.on hb45) (nilS _ 2) (ha4.on hb45)).mono ?_
  rintro e w6 ⟨rfl, hb6⟩
  go_wp2_with fail
  go_ret
  exact ⟨rfl, below_step hbw5 hb6⟩
end Go.Proofs.YtifniblffjgfkaaGreatDoor

/- The walks of the laws PduBack and PduCut. -/
namespace Go.Proofs.YtifniblffjgfkaaGreatDoor
open Go.ChangeShapes Go.WideShapes Go.ChangeAt Go.RowKit Go.Shelf
set_option linter.unusedVariables false
theorem pdu_row {op : Int} {now : Bool} {fl : Int} {vals : List Nat} {l : AhsL} {n : Nat} (h : pduR op now fl vals l n = none) (hf : fl ≤ 9223372036854775807) :
    ∃ (r : HeadR) (F : Nat), op = (r.1 : Int) ∧ headRow (r.1 : Int) = some r ∧ fl = (F : Int) ∧ F < 256 ∧ rightR (r.1 : Int) now F vals = none ∧ rightGo l 0 0 = none ∧ n ≤ 100000 := by
  obtain ⟨h1, h2, h3⟩ := rightR_parts h
  obtain ⟨r, hrow⟩ := right_row h1
  obtain ⟨F, rfl, hF⟩ := right_flags hrow h1 hf
  have ho := headRow_op hrow
  subst ho
  exact ⟨r, F, rfl, hrow, rfl, hF, h1, h2, h3⟩
def PB (r : HeadR) (now : Bool) (F : Nat) (vals : List Nat) (l : AhsL) (d : ByteArray) (k : Nat) : List UInt8 := pduB (layAll (headB r.1 now F ((ahsB l).length / 4) d.size) r.2.2.2 vals) (ahsB l) d.data.toList (hdM k) (ddM k)
theorem PB_len (r : HeadR) (now : Bool) (F : Nat) (vals : List Nat) (l : AhsL) (d : ByteArray) (k : Nat) (hrow : headRow (r.1 : Int) = some r) : (PB r now F vals l d k).length = 48 + sumLen l + hdN (hdM k) + (d.size + padN d.size) + ddN (ddM k) d.size := by
  have hHl : (layAll (headB r.1 now F ((ahsB l).length / 4) d.size) r.2.2.2 vals).length = 48 := layAll_len r.2.2.2 vals _ (headT_ok r (headRow_mem hrow)) rfl
  unfold PB pduB
  rw [List.length_append, List.length_append, List.length_append, List.length_append, dg4_len, dg4_len, hHl, ahsB_len, padded_len, len_of]
  unfold hdN ddN
  omega
theorem PB_bound (r : HeadR) (now : Bool) (F : Nat) (vals : List Nat) (l : AhsL) (d : ByteArray) (k : Nat) (hrow : headRow (r.1 : Int) = some r) (h2 : rightGo l 0 0 = none) : 48 ≤ (PB r now F vals l d k).length ∧ (PB r now F vals l d k).length ≤ 1200 + d.size ∧ (PB r now F vals l d k).length % 4 = 0 := by
  have hall := right_none l 0 0 (by omega) h2
  have hmod := sumLen_mod l
  have hp := padI_rng d.size
  have hm : (d.size + padN d.size) % 4 = 0 := by
    have : padI d.size = (-(d.size : Int)) % 4 := by unfold padI; rw [if_neg (by omega)]
    unfold padN
    omega
  have h4 : padN d.size ≤ 3 := by unfold padN; omega
  have h5 : hdN (hdM k) = 0 ∨ hdN (hdM k) = 4 := by unfold hdN; split <;> simp
  have h6 : ddN (ddM k) d.size = 0 ∨ ddN (ddM k) d.size = 4 := by unfold ddN; split <;> simp
  rw [PB_len r now F vals l d k hrow]
  refine ⟨by omega, by omega, by omega⟩
theorem pickN (a : Int) (n : Nat) (hn : 0 < n) : ∃ k : Nat, pickI a n = k ∧ k < n := by
  have := pick_rng a n (by omega)
  obtain ⟨k, hk⟩ := Int.eq_ofNat_of_zero_le this.1
  exact ⟨k, hk, by omega⟩
theorem pick_to (a : Int) (n : Nat) (k : Nat) (hk : pickI a n = k) (hn : 0 < n) (hn2 : n < 9223372036854775808) (w : World) : Calls Tryz.prog 15 #[.int .i64 a, .int .i64 n] w fun e w' => e = .returned (.int .i64 k) ∧ w = w' := by
  rw [← hk]
  exact pick_any a n w (by omega) (by omega)
theorem sizes_to (s : ByteArray) (n : Nat) (k : Nat) (w : World) (hk : k < 4) (h48 : 48 ≤ s.size) (hs : s.size ≤ 1000000) (hn : allN s.data.toList (hdM k) (ddM k) = n) : Calls Tryz.prog 51 #[.string s, .int .i64 k] w fun e w' => e = .returned (.tuple #[.int .i64 n, .nilIface]) ∧ Below w.heap.size w w' := by
  rw [← hn]
  exact size_ok s k w hk h48 hs
theorem pduRight_nil (op : Int) (now : Bool) (fl : Int) (vals : List Nat) (v : Value) (l : AhsL) (av : Value) (s : ByteArray) (w : World) (hr : pduR op now fl vals l s.size = none) (h0 : -9223372036854775808 ≤ op ∧ op ≤ 9223372036854775807) (hf : -9223372036854775808 ≤ fl ∧ fl ≤ 9223372036854775807) (hv : SRd w v 1 vals.length (vals.map u64V)) (hl : ∀ x ∈ vals, x < 18446744073709551616)
    (ha : SRd w av 2 l.length (ahsCells l)) (hd : ∀ p ∈ l, p.2.size ≤ 140737488351232) (hs : s.size ≤ 140737488351232) (hL : LaidE w) (T : Tabs w) (hS : w.ShapedOpen Tryz.prog) :
    Calls Tryz.prog 25 #[.agg #[.int .i64 op, .bool now, .int .i64 fl, v, av, .string s]] w fun e w' => e = .returned .nilIface ∧ Below w.heap.size w w' := by
  have := pduRight_any op now fl vals v l av s w h0 hf hv hl ha hd hs hL T hS
  rw [hr] at this
  exact this
theorem pduRight_bad (op : Int) (now : Bool) (fl : Int) (vals : List Nat) (v : Value) (l : AhsL) (av : Value) (s : ByteArray) (c : Nat) (w : World) (hr : pduR op now fl vals l s.size = some c) (h0 : -9223372036854775808 ≤ op ∧ op ≤ 9223372036854775807) (hf : -9223372036854775808 ≤ fl ∧ fl ≤ 9223372036854775807) (hv : SRd w v 1 vals.length (vals.map u64V)) (hl : ∀ x ∈ vals, x < 18446744073709551616)
    (ha : SRd w av 2 l.length (ahsCells l)) (hd : ∀ p ∈ l, p.2.size ≤ 140737488351232) (hs : s.size ≤ 140737488351232) (hL : LaidE w) (T : Tabs w) (hS : w.ShapedOpen Tryz.prog) :
    Calls Tryz.prog 25 #[.agg #[.int .i64 op, .bool now, .int .i64 fl, v, av, .string s]] w fun e w' => e = .returned (.iface 43 (.int .i64 c)) ∧ Below w.heap.size w w' := by
  have := pduRight_any op now fl vals v l av s w h0 hf hv hl ha hd hs hL T hS
  rw [hr] at this
  exact this
theorem pduWrite_to (W : ByteArray) (now : Bool) (F : Nat) (vals : List Nat) (v : Value) (l : AhsL) (av : Value) (s : ByteArray) (k : Nat) (r : HeadR) (w : World) (hk : k < 4) (hrow : headRow (r.1 : Int) = some r) (hF : F < 256) (h1 : rightR (r.1 : Int) now F vals = none) (h2 : rightGo l 0 0 = none) (hsz : s.size ≤ 100000) (hW : W = ⟨(PB r now F vals l s k).toArray⟩) (hv : SRd w v 1 vals.length (vals.map u64V)) (hl : ∀ x ∈ vals, x < 18446744073709551616)
    (ha : SRd w av 2 l.length (ahsCells l)) (hd : ∀ p ∈ l, p.2.size ≤ 140737488351232) (hL : LaidE w) (T : Tabs w) (hS : w.ShapedOpen Tryz.prog) :
    Calls Tryz.prog 26 #[.agg #[.int .i64 r.1, .bool now, .int .i64 F, v, av, .string s], .int .i64 k] w fun e w' => e = .returned (.tuple #[.string W, .nilIface]) ∧ Below w.heap.size w w' := by
  have h64 := headT_small r (headRow_mem hrow)
  have := pduWrite_ok (r.1 : Int) now F vals v l av s k r w hk hrow hF h1 h2 hsz (by omega) hv hl ha hd hL T hS
  rw [hW]
  exact this
end Go.Proofs.YtifniblffjgfkaaGreatDoor
