/- Offers: what the claims say, in plain words. -/
import Derived.Test.YtadhlnpegigadaaGreatDoorNegoP
import Derived.Test.YtadhlnpegigadaaGreatDoorNegoNew
namespace Go.Proofs.YtadhlnpegigadaaGreatDoor
set_option linter.unusedVariables false
theorem KD.sub {l m : PairL} (h : KD l) (hs : m.Sublist l) : KD m := (hs.map kB).nodup h
theorem KD.ne {l m : PairL} (h : KD (l ++ m)) {p q : ByteArray × ByteArray} (hp : p ∈ l) (hq : q ∈ m) : kB p ≠ kB q := by
  unfold KD at h
  rw [List.map_append, List.nodup_append] at h
  exact h.2.2 _ (List.mem_map.2 ⟨p, hp, rfl⟩) _ (List.mem_map.2 ⟨q, hq, rfl⟩)
theorem findB_nil (k : ByteArray) : findB [] k = none := rfl
theorem recL_nil {own : PairL} {login disc : Bool} {l : PairL} (h : KD l) : recL own login disc [] l = recN own login disc l := by
  rw [recL_fresh own login disc l [] h (fun _ _ => rfl)]
  rfl
theorem ansE_nil {l : PairL} {login : Bool} (h : ansE [] l login = none) : l.length ≤ 60 ∧ rightP l ∧ KD l := by
  have := (ansE_none [] l login).1 h
  exact ⟨this.1, this.2.1, this.2.2.2⟩
theorem ans_parts (own : PairL) (disc : Bool) (l : PairL) (k : Nat) (h : ansE [] l true = none) : ansE [] (l.take k) true = none ∧ ansE (recL own true disc [] (l.take k)) (l.drop k) true = none ∧
    saidL own true disc (l.take k) ++ saidL own true disc (l.drop k) = saidL own true disc l ∧ recL own true disc (recL own true disc [] (l.take k)) (l.drop k) = recL own true disc [] l := by
  obtain ⟨h1, h2, h3⟩ := ansE_nil h
  have ht := h3.sub (List.take_sublist k l)
  refine ⟨(ansE_none _ _ _).2 ⟨by rw [List.length_take]; omega, fun p hp => h2 p (List.mem_of_mem_take hp), fun _ _ _ => rfl, ht⟩, (ansE_none _ _ _).2 ⟨by rw [List.length_drop]; omega, fun p hp => h2 p (List.mem_of_mem_drop hp), fun _ p hp => ?_, h3.sub (List.drop_sublist k l)⟩, ?_, ?_⟩
  · rw [recL_nil ht, findB_none]
    intro q hq
    obtain ⟨x, hx, e, _⟩ := recN_mem hq
    rw [← List.take_append_drop k l] at h3
    have := h3.ne hx hp
    unfold kB at this ⊢
    rw [e]
    exact this
  · unfold saidL
    rw [← List.flatMap_append, List.take_append_drop]
  · rw [← recL_app, List.take_append_drop]
theorem ans_twice (own : PairL) (disc : Bool) (l : PairL) (h : ansE [] l true = none) (q : ByteArray × ByteArray) (hq : q ∈ recL own true disc [] l) : ansE (recL own true disc [] l) [q] true = some (9, some 0) := by
  obtain ⟨h1, h2, h3⟩ := ansE_nil h
  have hq' := hq
  rw [recL_nil h3] at hq'
  obtain ⟨p, hp, e1, e2, e3⟩ := recN_mem hq'
  obtain ⟨r, _, _, _, _, _, hv⟩ := ans_is own true disc p (vB q) e2.symm e3
  have hr : pRightR [q] = none := by
    rw [pRightR_iff]
    refine ⟨by simp, fun x hx => ?_⟩
    obtain rfl := List.mem_singleton.1 hx
    refine ⟨by rw [e1]; exact (h2 p hp).1, hv (h2 p hp).2⟩
  unfold ansE
  rw [hr]
  show (twiceGo _ true [] [q]).map _ = _
  rw [twiceGo, if_pos]
  · rfl
  · refine .inr ⟨?_, rfl⟩
    rcases hf : findB (recL own true disc [] l) q.1 with _ | v
    · exact absurd rfl (findB_none.1 hf q hq)
    · rfl
/- which offers nothing is said to -/
def quietB (login disc : Bool) (p : ByteArray × ByteArray) : Bool := match keyRow (kB p) with
  | none => false
  | some r => (decide (r.kind = 6) || decide (r.kind = 7)) && decide (fitsE (kB p) (vB p) = 0) && (login || !r.lonly) && (!disc || !r.noth)
theorem notU_ne : notU ≠ [] := by decide
theorem rejB_ne : rejB ≠ [] := by decide
theorem irrB_ne : irrB ≠ [] := by decide
theorem one_some (k : ByteArray) {v : List UInt8} (h : v ≠ []) : one k v = [(k, ba v)] := by unfold one; rw [if_neg h]
theorem said_quiet {own : PairL} {login disc : Bool} {p : ByteArray × ByteArray} (h : quietB login disc p = true) : saidP own login disc p = [] := by
  unfold quietB at h
  unfold saidP
  rcases ans_cases own login disc p with ⟨hk, e⟩ | ⟨r, hr, ⟨e, hn⟩ | ⟨g1, g2, e⟩ | ⟨h1, h2, h3, ⟨_, e⟩ | ⟨h4, x, hx, e⟩⟩⟩
  · rw [hk] at h; cases h
  · rw [hr] at h
    simp at h
    exfalso
    refine hn h.1.1.2 (fun hl => ?_) h.1.1.1
    rcases h.1.2 with h | h
    · exact h
    · rw [hl] at h; cases h
  · rw [hr] at h
    simp at h
    rw [g1, g2] at h
    simp at h
  · rw [e]; rfl
  · rw [hr] at h
    simp at h
    exact absurd h.1.1.1 h4
theorem said_loud {own : PairL} {login disc : Bool} {p : ByteArray × ByteArray} (h : quietB login disc p = false) : ∃ v, saidP own login disc p = [(p.1, ba v)] ∧ v ≠ [] ∧ (keyRow (kB p) = none → v = notU) := by
  unfold quietB at h
  unfold saidP
  rcases ans_cases own login disc p with ⟨hk, e⟩ | ⟨r, hr, ⟨e, hn⟩ | ⟨g1, g2, e⟩ | ⟨h1, h2, h3, ⟨h4, e⟩ | ⟨h4, x, hx, e⟩⟩⟩
  · exact ⟨notU, by rw [e]; exact one_some _ notU_ne, notU_ne, fun _ => rfl⟩
  · exact ⟨rejB, by rw [e]; exact one_some _ rejB_ne, rejB_ne, fun hh => by rw [hr] at hh; cases hh⟩
  · exact ⟨irrB, by rw [e]; exact one_some _ irrB_ne, irrB_ne, fun hh => by rw [hr] at hh; cases hh⟩
  · exfalso
    rw [hr] at h
    have : ((decide (r.kind = 6) || decide (r.kind = 7)) && decide (fitsE (kB p) (vB p) = 0) && (login || !r.lonly) && (!disc || !r.noth)) = true := by
      simp
      refine ⟨⟨⟨h4, h1⟩, ?_⟩, ?_⟩
      · rcases hl : r.lonly with _ | _
        · exact .inr rfl
        · exact .inl (h2 hl)
      · rcases hl : r.noth with _ | _
        · exact .inr rfl
        · exact .inl (h3 hl)
    exact absurd (this.symm.trans h) (by simp)
  · have hne := fits_ne (resE_again hx).1
    exact ⟨x, by rw [e]; exact one_some _ hne, hne, fun hh => by rw [hr] at hh; cases hh⟩
/- in a discovery -/
def countsB (q : ByteArray × ByteArray) : Bool := match keyRow (kB q) with
  | none => false
  | some r => !r.noth
theorem rec_disc (own : PairL) (p : ByteArray × ByteArray) : (recP own true false p).filter countsB = recP own true true p := by
  unfold recP
  unfold ansP
  rcases hk : keyRow (kB p) with _ | r
  · rfl
  · show (one p.1 (ansR own true false r p).2).filter countsB = one p.1 (ansR own true true r p).2
    rcases hn : r.noth with _ | _
    · have e : ansR own true true r p = ansR own true false r p := by unfold ansR; rw [hn]; simp
      rw [e, List.filter_eq_self]
      intro q hq
      obtain ⟨rfl, _⟩ := one_mem hq
      unfold countsB
      show (match keyRow (kB p) with | none => false | some r => !r.noth) = true
      rw [hk]
      simp [hn]
    · have e : (ansR own true true r p).2 = [] := by unfold ansR; rw [hn]; simp
      rw [e, one_nil, List.filter_eq_nil_iff]
      intro q hq
      obtain ⟨rfl, _⟩ := one_mem hq
      unfold countsB
      show ¬ (match keyRow (kB p) with | none => false | some r => !r.noth) = true
      rw [hk]
      simp [hn]
theorem ans_disc (own : PairL) (l : PairL) (h : ansE [] l true = none) : (recL own true false [] l).filter countsB = recL own true true [] l := by
  obtain ⟨_, _, h3⟩ := ansE_nil h
  rw [recL_nil h3, recL_nil h3]
  unfold recN
  induction l with
  | nil => rfl
  | cons p l ih =>
    rw [List.flatMap_cons, List.flatMap_cons, List.filter_append, rec_disc]
    congr 1
    have : ∀ l : PairL, (l.flatMap (recP own true false)).filter countsB = l.flatMap (recP own true true) := by
      intro l
      induction l with
      | nil => rfl
      | cons p l ih => rw [List.flatMap_cons, List.flatMap_cons, List.filter_append, rec_disc, ih]
    exact this l
/- what is recorded is so -/
def RecOk (rc : PairL) : Prop := KD rc ∧ ∀ q ∈ rc, (∃ r, keyRow (kB q) = some r) ∧ fitsE (kB q) (vB q) = 0 ∧ vB q ≠ [] ∧ keyB (kB q) = true ∧ valB (vB q) = true
theorem RecOk.nil : RecOk [] := ⟨by simp [KD], fun q hq => by cases hq⟩
theorem RecOk.add {own rc : PairL} {login disc : Bool} {p : ByteArray × ByteArray} (h : RecOk rc) (hk : keyB (kB p) = true) (hv : valB (vB p) = true) : RecOk (addB rc p.1 (ansP own login disc p).2) := by
  unfold addB
  split
  · exact h
  · rename_i hs
    obtain ⟨r, h1, h2, _, _, _, h3⟩ := ans_is own login disc p _ rfl hs
    refine ⟨?_, fun q hq => ?_⟩
    · unfold KD
      rw [List.map_append, List.nodup_append]
      refine ⟨h.1.sub (List.filter_sublist), by simp, fun a ha b hb => ?_⟩
      obtain ⟨x, hx, rfl⟩ := List.mem_map.1 ha
      simp at hb
      subst hb
      have := (List.mem_filter.1 hx).2
      exact of_decide_eq_true this
    · rcases List.mem_append.1 hq with hq | hq
      · exact h.2 q (List.mem_filter.1 hq).1
      · obtain rfl := List.mem_singleton.1 hq
        exact ⟨⟨r, h1⟩, h2, hs, hk, h3 hv⟩
theorem RecOk.all (own : PairL) (login disc : Bool) : ∀ (l rc : PairL), RecOk rc → rightP l → RecOk (recL own login disc rc l)
  | [], rc, h, _ => h
  | p :: l, rc, h, hr => by
    rw [recL]
    exact RecOk.all own login disc l _ (h.add (hr p (by simp)).1 (hr p (by simp)).2) fun x hx => hr x (List.mem_cons_of_mem _ hx)
theorem addB_lonly {own rc : PairL} {disc : Bool} {p : ByteArray × ByteArray} (h : ∀ q ∈ rc, ∃ r, keyRow (kB q) = some r ∧ r.lonly = false) : ∀ q ∈ addB rc p.1 (ansP own false disc p).2, ∃ r, keyRow (kB q) = some r ∧ r.lonly = false := by
  intro q hq
  unfold addB at hq
  split at hq
  · exact h q hq
  · rename_i hs
    obtain ⟨r, h1, _, _, h4, _⟩ := ans_is own false disc p _ rfl hs
    rcases List.mem_append.1 hq with hq | hq
    · exact h q (List.mem_filter.1 hq).1
    · obtain rfl := List.mem_singleton.1 hq
      refine ⟨r, h1, ?_⟩
      rcases hl : r.lonly with _ | _
      · rfl
      · cases h4 hl
theorem recL_lonly (own : PairL) (disc : Bool) : ∀ (l rc : PairL), (∀ q ∈ rc, ∃ r, keyRow (kB q) = some r ∧ r.lonly = false) → ∀ q ∈ recL own false disc rc l, ∃ r, keyRow (kB q) = some r ∧ r.lonly = false
  | [], rc, h => h
  | p :: l, rc, h => by
    rw [recL]
    exact recL_lonly own disc l _ (addB_lonly h)
theorem findB_add (rc : PairL) (k : ByteArray) {v : List UInt8} (h : v ≠ []) : findB (addB rc k v) k = some (ba v) := by
  unfold addB
  rw [if_neg h, findB_app, findB_none.2 (fun q hq => by simpa using (List.mem_filter.1 hq).2)]
  show (if _ then _ else _) = _
  rw [if_pos rfl]
/- in whichever order -/
theorem KD.rev {l : PairL} (h : KD l) : KD l.reverse := by
  unfold KD
  rw [List.map_reverse]
  exact List.pairwise_reverse.2 (h.imp fun hab => fun e => hab e.symm)
theorem ansE_rev (l : PairL) : ansE [] l.reverse true = none ↔ ansE [] l true = none := by
  have h : ∀ l : PairL, ansE [] l true = none → ansE [] l.reverse true = none := fun l h => by
    obtain ⟨h1, h2, h3⟩ := ansE_nil h
    exact (ansE_none _ _ _).2 ⟨by rw [List.length_reverse]; exact h1, fun p hp => h2 p (List.mem_reverse.1 hp), fun _ _ _ => rfl, h3.rev⟩
  exact ⟨fun hh => by have := h _ hh; rwa [List.reverse_reverse] at this, h l⟩
theorem findB_same {l m : PairL} (hl : KD l) (hm : KD m) (h : ∀ q, q ∈ l ↔ q ∈ m) (k : ByteArray) : findB l k = findB m k := by
  rcases h1 : findB l k with _ | v
  · symm
    rw [findB_none] at h1 ⊢
    exact fun q hq => h1 q ((h q).2 hq)
  · obtain ⟨q, hq, hk, hv⟩ := findB_some h1
    rw [← findB_key m hk, findB_mem hm ((h q).1 hq), hv]
theorem rec_rev (own : PairL) (disc : Bool) (l : PairL) (h : ansE [] l true = none) (k : ByteArray) : findB (recL own true disc [] l) k = findB (recL own true disc [] l.reverse) k := by
  obtain ⟨_, _, h3⟩ := ansE_nil h
  rw [recL_nil h3, recL_nil h3.rev]
  refine findB_same (recN_keys _ _ _ _ h3) (recN_keys _ _ _ _ h3.rev) (fun q => ?_) k
  unfold recN
  rw [List.mem_flatMap, List.mem_flatMap]
  simp
/- one behind what one has -/
theorem nNewGo_snoc (p : ByteArray × ByteArray) : ∀ (l pre : PairL), nNewGo pre l = none → nNewGo pre (l ++ [p]) = if (findB (pre ++ l) p.1).isSome = true then some (9, (pre ++ l).length) else if fitsB p ≠ 0 then some (fitsB p, (pre ++ l).length) else none
  | [], pre, _ => by simp [nNewGo]
  | x :: l, pre, h => by
    rw [List.cons_append, nNewGo]
    rw [nNewGo] at h
    split at h
    · cases h
    · split at h
      · cases h
      · rename_i h1 h2
        rw [if_neg h1, if_neg h2, nNewGo_snoc p l _ h, List.append_assoc]
        rfl
end Go.Proofs.YtadhlnpegigadaaGreatDoor
