/- What is said to offers, and what comes of them: plain functions and their laws. -/
import Derived.Test.YtadhlnpegigadaaGreatDoorGkeys
import Derived.Test.YtadhlnpegigadaaGreatDoorGpairs
namespace Go.Proofs.YtadhlnpegigadaaGreatDoor
set_option linter.unusedVariables false
def ba (l : List UInt8) : ByteArray := ⟨l.toArray⟩
def kB (p : ByteArray × ByteArray) : List UInt8 := p.1.data.toList
def vB (p : ByteArray × ByteArray) : List UInt8 := p.2.data.toList
theorem ba_list (l : List UInt8) : (ba l).data.toList = l := rfl
theorem ba_of (x : ByteArray) : ba x.data.toList = x := by unfold ba; simp
def notU : List UInt8 := [78, 111, 116, 85, 110, 100, 101, 114, 115, 116, 111, 111, 100]
def rejB : List UInt8 := [82, 101, 106, 101, 99, 116]
def irrB : List UInt8 := [73, 114, 114, 101, 108, 101, 118, 97, 110, 116]
def dflOf (k : List UInt8) : List UInt8 := match keyRow k with
  | none => []
  | some r => dfl r
def ownL (own : PairL) (k : ByteArray) : List UInt8 := match findB own k with
  | some v => v.data.toList
  | none => dflOf k.data.toList
/- what is said to an offer, and what comes of it -/
def ansR (own : PairL) (login disc : Bool) (r : KeyR) (p : ByteArray × ByteArray) : List UInt8 × List UInt8 :=
  if r.lonly = true ∧ login = false then (rejB, []) else
  if r.noth = true ∧ disc = true then (irrB, []) else
  if fitsE (kB p) (vB p) ≠ 0 then (rejB, []) else
  if r.kind = 6 ∨ r.kind = 7 then ([], vB p) else
  match resE (kB p) (vB p) (ownL own p.1) with
  | .inl _ => (rejB, [])
  | .inr s => (s, s)
def ansP (own : PairL) (login disc : Bool) (p : ByteArray × ByteArray) : List UInt8 × List UInt8 := match keyRow (kB p) with
  | none => (notU, [])
  | some r => ansR own login disc r p
def one (k : ByteArray) (v : List UInt8) : PairL := if v = [] then [] else [(k, ba v)]
def addB (rc : PairL) (k : ByteArray) (v : List UInt8) : PairL := if v = [] then rc else rc.filter (fun q => decide (kB q ≠ k.data.toList)) ++ [(k, ba v)]
def saidP (own : PairL) (login disc : Bool) (p : ByteArray × ByteArray) : PairL := one p.1 (ansP own login disc p).1
def recP (own : PairL) (login disc : Bool) (p : ByteArray × ByteArray) : PairL := one p.1 (ansP own login disc p).2
def saidL (own : PairL) (login disc : Bool) (l : PairL) : PairL := l.flatMap (saidP own login disc)
def recN (own : PairL) (login disc : Bool) (l : PairL) : PairL := l.flatMap (recP own login disc)
def recL (own : PairL) (login disc : Bool) : PairL → PairL → PairL
  | rc, [] => rc
  | rc, p :: l => recL own login disc (addB rc p.1 (ansP own login disc p).2) l
def twiceGo (rc : PairL) (login : Bool) : PairL → PairL → Option Nat
  | _, [] => none
  | pre, p :: l => if (findB pre p.1).isSome = true ∨ ((findB rc p.1).isSome = true ∧ login = true) then some pre.length else twiceGo rc login (pre ++ [p]) l
def ansE (rc offers : PairL) (login : Bool) : Option (Nat × Option Nat) := match pRightR offers with
  | some e => some e
  | none => (twiceGo rc login [] offers).map fun i => (9, some i)
/- keys -/
def KD (l : PairL) : Prop := (l.map kB).Nodup
theorem findB_none {l : PairL} {k : ByteArray} : findB l k = none ↔ ∀ q ∈ l, kB q ≠ k.data.toList := by
  induction l with
  | nil => simp [findB]
  | cons q l ih =>
    rw [findB]
    by_cases h : q.1.data.toList = k.data.toList
    · rw [if_pos h]
      constructor
      · intro hh; cases hh
      · intro hh; exact absurd h (hh q (by simp))
    · rw [if_neg h, ih]
      constructor
      · intro hh x hx
        rcases List.mem_cons.1 hx with rfl | hx
        · exact h
        · exact hh x hx
      · intro hh x hx
        exact hh x (List.mem_cons_of_mem _ hx)
theorem findB_some {l : PairL} {k v : ByteArray} (h : findB l k = some v) : ∃ q ∈ l, kB q = k.data.toList ∧ q.2 = v := by
  induction l with
  | nil => cases h
  | cons q l ih =>
    rw [findB] at h
    by_cases hq : q.1.data.toList = k.data.toList
    · rw [if_pos hq] at h
      cases h
      exact ⟨q, by simp, hq, rfl⟩
    · rw [if_neg hq] at h
      obtain ⟨x, hx, h1⟩ := ih h
      exact ⟨x, List.mem_cons_of_mem _ hx, h1⟩
theorem findB_app (l m : PairL) (k : ByteArray) : findB (l ++ m) k = match findB l k with | some v => some v | none => findB m k := by
  induction l with
  | nil => rfl
  | cons q l ih =>
    rw [List.cons_append, findB, findB]
    split
    · rfl
    · exact ih
theorem findB_key (l : PairL) {k k' : ByteArray} (h : k.data.toList = k'.data.toList) : findB l k = findB l k' := by
  have : k = k' := by rw [← ba_of k, ← ba_of k', h]
  rw [this]
theorem findB_mem {l : PairL} (hd : KD l) {q : ByteArray × ByteArray} (hq : q ∈ l) : findB l q.1 = some q.2 := by
  induction l with
  | nil => cases hq
  | cons x l ih =>
    unfold KD at hd
    rw [List.map_cons, List.nodup_cons] at hd
    rw [findB]
    rcases List.mem_cons.1 hq with rfl | hq
    · rw [if_pos rfl]
    · rw [if_neg (fun e => hd.1 (List.mem_map.2 ⟨q, hq, e.symm⟩))]
      exact ih hd.2 hq
theorem twiceGo_none (rc : PairL) (login : Bool) : ∀ (l pre : PairL), twiceGo rc login pre l = none ↔ (login = true → ∀ p ∈ l, findB rc p.1 = none) ∧ (∀ p ∈ l, ∀ q ∈ pre, kB q ≠ kB p) ∧ KD l
  | [], pre => by simp [twiceGo, KD]
  | p :: l, pre => by
    have ih := twiceGo_none rc login l (pre ++ [p])
    rw [twiceGo]
    by_cases h : (findB pre p.1).isSome = true ∨ ((findB rc p.1).isSome = true ∧ login = true)
    · rw [if_pos h]
      refine ⟨fun hh => by (cases hh), fun hh => ?_⟩
      exfalso
      rcases h with h | ⟨h, hl⟩
      · obtain ⟨v, hv⟩ := Option.isSome_iff_exists.1 h
        obtain ⟨q, hq, hk, _⟩ := findB_some hv
        exact hh.2.1 p (by simp) q hq hk
      · rw [hh.1 hl p (by simp)] at h
        cases h
    · rw [if_neg h, ih]
      have hp : findB pre p.1 = none := by
        rcases hx : findB pre p.1 with _ | v
        · rfl
        · exact absurd (.inl (by rw [hx]; rfl)) h
      have hr : login = true → findB rc p.1 = none := fun hl => by
        rcases hx : findB rc p.1 with _ | v
        · rfl
        · exact absurd (.inr ⟨by rw [hx]; rfl, hl⟩) h
      have hpn := findB_none.1 hp
      unfold KD
      rw [List.map_cons, List.nodup_cons]
      constructor
      · rintro ⟨h1, h2, h3⟩
        refine ⟨fun hl x hx => ?_, fun x hx q hq => ?_, fun hm => ?_, h3⟩
        · rcases List.mem_cons.1 hx with rfl | hx
          · exact hr hl
          · exact h1 hl x hx
        · rcases List.mem_cons.1 hx with rfl | hx
          · exact hpn q hq
          · exact h2 x hx q (by simp [hq])
        · obtain ⟨x, hx, e⟩ := List.mem_map.1 hm
          exact h2 x hx p (by simp) e.symm
      · rintro ⟨h1, h2, h3, h4⟩
        refine ⟨fun hl x hx => h1 hl x (List.mem_cons_of_mem _ hx), fun x hx q hq => ?_, h4⟩
        rcases List.mem_append.1 hq with hq | hq
        · exact h2 x (List.mem_cons_of_mem _ hx) q hq
        · obtain rfl := List.mem_singleton.1 hq
          exact fun e => h3 (List.mem_map.2 ⟨x, hx, e.symm⟩)
theorem pRightGo_iff : ∀ (l : PairL) (i : Nat), pRightGo l i = none ↔ rightP l
  | [], i => by simp [pRightGo, rightP]
  | p :: l, i => by
    have ih := pRightGo_iff l (i + 1)
    rw [pRightGo]
    constructor
    · intro h
      split at h
      · cases h
      · split at h
        · cases h
        · rename_i h1 h2
          intro x hx
          rcases List.mem_cons.1 hx with rfl | hx
          · exact ⟨by simpa using h1, by simpa using h2⟩
          · exact ih.1 h x hx
    · intro h
      have hp := h p (by simp)
      rw [if_neg (by simp [hp.1]), if_neg (by simp [hp.2])]
      exact ih.2 fun x hx => h x (List.mem_cons_of_mem _ hx)
theorem pRightR_iff (l : PairL) : pRightR l = none ↔ l.length ≤ 60 ∧ rightP l := by
  unfold pRightR
  by_cases h : 60 < l.length
  · rw [if_pos h]
    exact ⟨fun hh => by (cases hh), fun hh => by omega⟩
  · rw [if_neg h, Option.map_eq_none_iff, pRightGo_iff]
    exact ⟨fun hh => ⟨by omega, hh⟩, fun hh => hh.2⟩
theorem ansE_none (rc l : PairL) (login : Bool) : ansE rc l login = none ↔ l.length ≤ 60 ∧ rightP l ∧ (login = true → ∀ p ∈ l, findB rc p.1 = none) ∧ KD l := by
  unfold ansE
  rcases h : pRightR l with _ | e
  · have := (pRightR_iff l).1 h
    show (twiceGo rc login [] l).map _ = none ↔ _
    rw [Option.map_eq_none_iff, twiceGo_none]
    exact ⟨fun hh => ⟨this.1, this.2, hh.1, hh.2.2⟩, fun hh => ⟨hh.2.2.1, by simp, hh.2.2.2⟩⟩
  · refine ⟨fun hh => by (cases hh), fun hh => ?_⟩
    rw [(pRightR_iff l).2 ⟨hh.1, hh.2.1⟩] at h
    cases h
/- what comes of an offer -/
theorem fits_ne {k x : List UInt8} (h : fitsE k x = 0) : x ≠ [] := by
  rintro rfl
  unfold fitsE at h
  split at h
  · cases h
  · unfold fitsR at h
    have h1 : isYN [] = false := rfl
    have h2 : numeralE [] = fun _ _ => 3 := by funext a b; rfl
    have h3 : listP [] = none := rfl
    rw [h1, h2, h3] at h
    split at h
    · simp at h
    · split at h
      · simp at h
      · split at h
        · simp at h
        · simp at h
theorem one_nil (k : ByteArray) : one k [] = [] := rfl
theorem one_mem {k : ByteArray} {v : List UInt8} {q : ByteArray × ByteArray} (h : q ∈ one k v) : q = (k, ba v) ∧ v ≠ [] := by
  unfold one at h
  split at h
  · cases h
  · rename_i hv
    exact ⟨List.mem_singleton.1 h, hv⟩
/- the ways of an answer -/
theorem ans_cases (own : PairL) (login disc : Bool) (p : ByteArray × ByteArray) : (keyRow (kB p) = none ∧ ansP own login disc p = (notU, [])) ∨ (∃ r, keyRow (kB p) = some r ∧ ((ansP own login disc p = (rejB, []) ∧ (fitsE (kB p) (vB p) = 0 → (r.lonly = true → login = true) → ¬ (r.kind = 6 ∨ r.kind = 7))) ∨
    (r.noth = true ∧ disc = true ∧ ansP own login disc p = (irrB, [])) ∨ (fitsE (kB p) (vB p) = 0 ∧ (r.lonly = true → login = true) ∧ (r.noth = true → disc = false) ∧ ((r.kind = 6 ∨ r.kind = 7) ∧ ansP own login disc p = ([], vB p) ∨ ¬ (r.kind = 6 ∨ r.kind = 7) ∧ ∃ s, resE (kB p) (vB p) (ownL own p.1) = .inr s ∧ ansP own login disc p = (s, s))))) := by
  rcases h : keyRow (kB p) with _ | r
  · refine .inl ⟨rfl, ?_⟩
    unfold ansP
    rw [h]
  · refine .inr ⟨r, rfl, ?_⟩
    have e0 : ansP own login disc p = ansR own login disc r p := by unfold ansP; rw [h]
    rw [e0]
    clear e0
    unfold ansR
    by_cases h1 : r.lonly = true ∧ login = false
    · rw [if_pos h1]
      refine .inl ⟨rfl, fun _ h3 => ?_⟩
      have := h3 h1.1
      rw [h1.2] at this
      cases this
    · rw [if_neg h1]
      have g1 : r.lonly = true → login = true := fun hl => by
        cases login
        · exact absurd ⟨hl, rfl⟩ h1
        · rfl
      by_cases h2 : r.noth = true ∧ disc = true
      · rw [if_pos h2]
        exact .inr (.inl ⟨h2.1, h2.2, rfl⟩)
      · rw [if_neg h2]
        have g2 : r.noth = true → disc = false := fun hl => by
          cases disc
          · rfl
          · exact absurd ⟨hl, rfl⟩ h2
        by_cases h3 : fitsE (kB p) (vB p) = 0
        · rw [if_neg (by simp [h3])]
          by_cases h4 : r.kind = 6 ∨ r.kind = 7
          · rw [if_pos h4]
            exact .inr (.inr ⟨h3, g1, g2, .inl ⟨h4, rfl⟩⟩)
          · rw [if_neg h4]
            rcases h5 : resE (kB p) (vB p) (ownL own p.1) with c | s
            · exact .inl ⟨rfl, fun _ _ => h4⟩
            · exact .inr (.inr ⟨h3, g1, g2, .inr ⟨h4, s, rfl, rfl⟩⟩)
        · rw [if_pos h3]
          exact .inl ⟨rfl, fun h => absurd h h3⟩
theorem valB_iff (l : List UInt8) : valB l = true ↔ (∀ c ∈ l, valC c = true) ∧ l.length ≤ 255 := by unfold valB; simp
theorem dgs_val (n : Nat) : valB (dgs n) = true := by
  rw [valB_iff]
  refine ⟨?_, by have := dgF_len 20 n; unfold dgs; omega⟩
  unfold dgs
  have : ∀ (f n : Nat), ∀ c ∈ dgF f n, 48 ≤ c.toNat ∧ c.toNat ≤ 57 := by
    intro f
    induction f with
    | zero => intro n c hc; rw [dgF] at hc; obtain rfl := List.mem_singleton.1 hc; have := dig_ten ⟨n % 10, by omega⟩; exact ⟨this.2.1, this.2.2.1⟩
    | succ f ih =>
      intro n c hc
      rw [dgF] at hc
      have hd := dig_ten ⟨n % 10, by omega⟩
      split at hc
      · rename_i hlt
        obtain rfl := List.mem_singleton.1 hc
        have := dig_ten ⟨n, hlt⟩
        exact ⟨this.2.1, this.2.2.1⟩
      · rcases List.mem_append.1 hc with hc | hc
        · exact ih _ c hc
        · obtain rfl := List.mem_singleton.1 hc
          exact ⟨hd.2.1, hd.2.2.1⟩
  intro c hc
  have := this 20 n c hc
  unfold valC
  simp
  omega
theorem yesB_val (t : Bool) : valB (yesB t) = true := by cases t <;> decide
theorem splitC_mem (c : UInt8) : ∀ (l : List UInt8), ∀ x ∈ splitC c l, ∀ y ∈ x, y ∈ l
  | [], x, hx, y, hy => by simp [splitC] at hx; subst hx; cases hy
  | b :: l, x, hx, y, hy => by
    have ih := splitC_mem c l
    rw [splitC] at hx
    split at hx
    · rcases List.mem_cons.1 hx with rfl | hx
      · cases hy
      · exact List.mem_cons_of_mem _ (ih x hx y hy)
    · rcases hs : splitC c l with _ | ⟨p, ps⟩ <;> rw [hs] at hx
      · simp at hx
        subst hx
        simp at hy
        subst hy
        simp
      · rcases List.mem_cons.1 hx with rfl | hx
        · rcases List.mem_cons.1 hy with rfl | hy
          · simp
          · exact List.mem_cons_of_mem _ (ih p (by rw [hs]; simp) y hy)
        · exact List.mem_cons_of_mem _ (ih x (by rw [hs]; exact List.mem_cons_of_mem _ hx) y hy)
theorem res_val {k a b s : List UInt8} (h : resE k a b = .inr s) (ha : valB a = true) : valB s = true := by
  obtain ⟨r, hk, h1, h2, h3⟩ := resE_inv h
  unfold resR at h3
  split at h3
  · cases h3; exact yesB_val _
  · split at h3
    · cases h3; exact yesB_val _
    · split at h3
      · cases h3; exact dgs_val _
      · split at h3
        · cases h3; exact dgs_val _
        · split at h3
          · split at h3
            · rename_i x hx
              cases h3
              have hm := (firstBoth_mem hx).1
              have ha' := (valB_iff a).1 ha
              rw [valB_iff]
              have := splitC_short 44 a s hm
              exact ⟨fun c hc => ha'.1 c (splitC_mem 44 a s hm c hc), by omega⟩
            · cases h3
          · cases h3; exact ha
theorem ans_is (own : PairL) (login disc : Bool) (p : ByteArray × ByteArray) (s : List UInt8) (h : (ansP own login disc p).2 = s) (hs : s ≠ []) : ∃ r, keyRow (kB p) = some r ∧ fitsE (kB p) s = 0 ∧ fitsE (kB p) (vB p) = 0 ∧ (r.lonly = true → login = true) ∧ (r.noth = true → disc = false) ∧ (valB (vB p) = true → valB s = true) := by
  rcases ans_cases own login disc p with ⟨_, e⟩ | ⟨r, hr, ⟨e, _⟩ | ⟨_, _, e⟩ | ⟨h1, h2, h3, ⟨_, e⟩ | ⟨_, x, hx, e⟩⟩⟩
  · rw [e] at h; exact absurd h.symm hs
  · rw [e] at h; exact absurd h.symm hs
  · rw [e] at h; exact absurd h.symm hs
  · rw [e] at h
    obtain rfl : vB p = s := h
    exact ⟨r, hr, h1, h1, h2, h3, fun h => h⟩
  · rw [e] at h
    obtain rfl : x = s := h
    exact ⟨r, hr, (resE_again hx).1, h1, h2, h3, fun h => res_val hx h⟩
theorem recP_mem {own : PairL} {login disc : Bool} {p q : ByteArray × ByteArray} (h : q ∈ recP own login disc p) : q.1 = p.1 ∧ vB q = (ansP own login disc p).2 ∧ vB q ≠ [] := by
  obtain ⟨rfl, hn⟩ := one_mem h
  exact ⟨rfl, rfl, hn⟩
theorem recN_mem {own : PairL} {login disc : Bool} {l : PairL} {q : ByteArray × ByteArray} (h : q ∈ recN own login disc l) : ∃ p ∈ l, q.1 = p.1 ∧ vB q = (ansP own login disc p).2 ∧ vB q ≠ [] := by
  obtain ⟨p, hp, hq⟩ := List.mem_flatMap.1 h
  exact ⟨p, hp, recP_mem hq⟩
theorem recN_keys (own : PairL) (login disc : Bool) : ∀ (l : PairL), KD l → KD (recN own login disc l)
  | [], _ => by simp [recN, KD]
  | p :: l, h => by
    unfold KD at h
    rw [List.map_cons, List.nodup_cons] at h
    have ih := recN_keys own login disc l h.2
    show ((recP own login disc p ++ recN own login disc l).map kB).Nodup
    rw [List.map_append, List.nodup_append]
    refine ⟨?_, ih, ?_⟩
    · unfold recP one
      split <;> simp
    · intro a ha b hb
      obtain ⟨x, hx, rfl⟩ := List.mem_map.1 ha
      obtain ⟨y, hy, rfl⟩ := List.mem_map.1 hb
      obtain ⟨z, hz, e, _⟩ := recN_mem hy
      have e1 := (recP_mem hx).1
      intro e2
      apply h.1
      refine List.mem_map.2 ⟨z, hz, ?_⟩
      unfold kB at e2 ⊢
      rw [← e, ← e2, e1]
theorem addB_fresh {rc : PairL} {k : ByteArray} {v : List UInt8} (h : findB rc k = none) : addB rc k v = rc ++ one k v := by
  unfold addB one
  split
  · simp
  · rw [List.filter_eq_self.2 (fun q hq => by simpa using findB_none.1 h q hq)]
theorem findB_one {k k' : ByteArray} (h : k.data.toList ≠ k'.data.toList) (v : List UInt8) : findB (one k v) k' = none := by
  rw [findB_none]
  intro q hq
  obtain ⟨rfl, _⟩ := one_mem hq
  exact h
theorem recL_fresh (own : PairL) (login disc : Bool) : ∀ (l rc : PairL), KD l → (∀ p ∈ l, findB rc p.1 = none) → recL own login disc rc l = rc ++ recN own login disc l
  | [], rc, _, _ => by simp [recL, recN]
  | p :: l, rc, h, hf => by
    unfold KD at h
    rw [List.map_cons, List.nodup_cons] at h
    rw [recL, addB_fresh (hf p (by simp))]
    rw [recL_fresh own login disc l _ h.2]
    · show _ = rc ++ (recP own login disc p ++ recN own login disc l)
      rw [List.append_assoc]
      rfl
    · intro x hx
      rw [findB_app, hf x (List.mem_cons_of_mem _ hx)]
      exact findB_one (fun e => h.1 (List.mem_map.2 ⟨x, hx, e.symm⟩)) _
theorem recL_app (own : PairL) (login disc : Bool) : ∀ (l m rc : PairL), recL own login disc rc (l ++ m) = recL own login disc (recL own login disc rc l) m
  | [], m, rc => rfl
  | p :: l, m, rc => recL_app own login disc l m _
end Go.Proofs.YtadhlnpegigadaaGreatDoor
