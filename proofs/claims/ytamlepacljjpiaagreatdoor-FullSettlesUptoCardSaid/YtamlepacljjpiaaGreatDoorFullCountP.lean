/- Plain laws on the answers of a session: their numbers, and that they are right. -/
import Derived.Test.YtamlepacljjpiaaGreatDoorGfa
namespace Go.Proofs.YtamlepacljjpiaaGreatDoor
set_option linter.unusedVariables false
set_option linter.unusedSimpArgs false
def PcsOk (X : FP) : Prop := ∀ s ∈ X.pcs, s.size ≤ 20000
/- an answer of these numbers is right -/
structure AnsOk (st cm : Nat) (q : AP) : Prop where
  rt : rightR q.op false q.fl q.vals = none
  sz : q.data.size ≤ 100000
  op : q.op ≤ 63
  fl : q.fl ≤ 255
  vs : ∀ y ∈ q.vals, y < 18446744073709551616
  num : ∃ r, headRow q.op = some r ∧ valGo r.2.2.2 q.vals nStat.data.toList = .inr st ∧ valGo r.2.2.2 q.vals nExp.data.toList = .inr cm ∧ valGo r.2.2.2 q.vals nMax.data.toList = .inr (aft cm 31)
theorem aft_small (a k : Nat) : aft a k < 4294967296 := Nat.mod_lt _ (by decide)
theorem aft_zero {a : Nat} (h : a < 4294967296) : aft a 0 = a := Nat.mod_eq_of_lt h
theorem rej_ok {X : FP} {r : Nat} {h : ByteArray} (hr : r < 256) (hs : X.stat < 4294967296) (hc : X.cmd < 4294967296) (hh : h.size ≤ 100000) : AnsOk X.stat X.cmd (rejA X r h) :=
  ⟨right63 hr (by decide) hs hc (aft_small _ _) (by decide), hh, by show (63 : Nat) ≤ 63; decide, by show (128 : Nat) ≤ 255; decide, fun y hy => by
    have := aft_small X.cmd 31
    simp [rejA, noneN] at hy
    omega, ⟨r63, row63, rfl, rfl, rfl⟩⟩
theorem txt_ok {X : FP} {fl itt tag : Nat} {s : ByteArray} (hf : fl = 0 ∨ fl = 64 ∨ fl = 128) (hi : itt < 4294967296) (ht : tag < 4294967296) (hs : X.stat < 4294967296) (hc : X.cmd < 4294967296) (hh : s.size ≤ 100000) : AnsOk X.stat X.cmd (txtA X fl itt tag s) :=
  ⟨right36 hf hi ht hs hc (aft_small _ _), hh, by show (36 : Nat) ≤ 63; decide, by show fl ≤ 255; omega, fun y hy => by
    have := aft_small X.cmd 31
    simp [txtA] at hy
    omega, ⟨r36, row36, rfl, rfl, rfl⟩⟩
def Goes (X : FP) (r : List AP × FP) : Prop := r.1.length ≤ 1 ∧ r.2.cmd = X.cmd ∧ r.2.stat = aft X.stat r.1.length ∧ (∀ q ∈ r.1, AnsOk X.stat X.cmd q) ∧ PcsOk r.2
theorem goes1 {X Y : FP} {q : AP} (h : AnsOk X.stat X.cmd q) (hc : Y.cmd = X.cmd) (hs : Y.stat = aft X.stat 1) (hp : PcsOk Y) : Goes X ([q], Y) :=
  ⟨Nat.le_refl _, hc, hs, fun x hx => by rw [List.mem_singleton.1 hx]; exact h, hp⟩
theorem Goes.like {X Y : FP} {r : List AP × FP} (h : Goes Y r) (hs : Y.stat = X.stat) (hc : Y.cmd = X.cmd) : Goes X r := by
  obtain ⟨h1, h2, h3, h4, h5⟩ := h
  exact ⟨h1, h2.trans hc, by rw [h3, hs], by rw [← hs, ← hc]; exact h4, h5⟩
theorem pieces_le (s : ByteArray) (n k : Nat) : ∀ x ∈ piecesN s n k, x.size ≤ n := by
  intro x hx
  unfold piecesN at hx
  obtain ⟨i, _, rfl⟩ := List.mem_map.1 hx
  rw [ByteArray.size_extract, Nat.add_mul, Nat.one_mul]
  omega
theorem piece_goes {X : FP} {itt : Nat} (hs : X.stat < 4294967296) (hc : X.cmd < 4294967296) (hi : itt < 4294967296) (hp : PcsOk X) : Goes X ([(pieceP X itt).1], (pieceP X itt).2) := by
  have hd : (X.pcs.headD ⟨#[]⟩).size ≤ 100000 := by
    rcases h : X.pcs with _ | ⟨a, l⟩
    · show (⟨#[]⟩ : ByteArray).size ≤ 100000
      decide
    · have := hp a (by rw [h]; simp)
      show a.size ≤ 100000
      omega
  unfold pieceP
  refine goes1 (txt_ok ?_ hi ?_ hs hc hd) rfl rfl fun s h => hp s (List.mem_of_mem_tail h)
  · split
    · exact .inr (.inr rfl)
    · exact .inr (.inl rfl)
  · split
    · decide
    · decide
theorem says_goes {X : FP} {l : PairL} {itt : Nat} {h : ByteArray} (hs : X.stat < 4294967296) (hc : X.cmd < 4294967296) (hi : itt < 4294967296) (hh : h.size ≤ 100000) (hp : PcsOk X) : Goes X ([(saysP X l itt h).1], (saysP X l itt h).2) := by
  unfold saysP
  split
  · exact goes1 (rej_ok (by decide) hs hc hh) rfl rfl hp
  · split
    · exact goes1 (rej_ok (by decide) hs hc hh) rfl rfl hp
    · refine Goes.like (piece_goes ?_ ?_ hi ?_) rfl rfl
      · exact hs
      · exact hc
      intro s hm
      have := pieces_le _ _ _ s hm
      have := (mostN_rng (recL X.own false X.disc X.rc (restL l))).2
      omega
theorem add_goes {X : FP} {p : PD} {h : ByteArray} (hs : X.stat < 4294967296) (hc : X.cmd < 4294967296) (hi : fN p.vals 1 < 4294967296) (hh : h.size ≤ 100000) : Goes X ([(addPF X p h).1], (addPF X p h).2) := by
  have h0 : PcsOk ({ X with pcs := [] } : FP) := fun s hm => absurd hm (List.not_mem_nil)
  unfold addPF
  split
  · exact goes1 (rej_ok (by decide) hs hc hh) rfl rfl fun s hm => absurd hm (List.not_mem_nil)
  · split
    · refine goes1 ?_ rfl rfl fun s hm => absurd hm (List.not_mem_nil)
      split
      · exact rej_ok (by decide) hs hc hh
      · exact txt_ok (.inl rfl) hi (by decide) hs hc (by show (⟨#[]⟩ : ByteArray).size ≤ 100000; decide)
    · split
      · exact goes1 (rej_ok (by decide) hs hc hh) rfl rfl fun s hm => absurd hm (List.not_mem_nil)
      · split
        · exact goes1 (rej_ok (by decide) hs hc hh) rfl rfl fun s hm => absurd hm (List.not_mem_nil)
        · exact Goes.like (says_goes (X := { X with pcs := [], txt := ⟨#[]⟩ }) hs hc hi hh (fun s hm => absurd hm (List.not_mem_nil))) rfl rfl
theorem ask_goes {X : FP} {p : PD} {h : ByteArray} (hs : X.stat < 4294967296) (hc : X.cmd < 4294967296) (hi : fN p.vals 1 < 4294967296) (hh : h.size ≤ 100000) (hp : PcsOk X) : Goes X ([(askP X p h).1], (askP X p h).2) := by
  unfold askP
  split
  · exact add_goes hs hc hi hh
  · split
    · exact piece_goes hs hc hi hp
    · exact goes1 (rej_ok (by decide) hs hc hh) rfl rfl hp
theorem do_goes {X : FP} {p : PD} {h : ByteArray} (hs : X.stat < 4294967296) (hc : X.cmd < 4294967296) (hk : known p.op = true) (hr : rightR p.op p.now p.fl p.vals = none) (hv : ∀ y ∈ p.vals, y < 18446744073709551616) (hz : p.data.size ≤ 100000) (hh : h.size ≤ 100000) (hp : PcsOk X) : Goes X (doP X p h) := by
  have hm := aft_small X.cmd 31
  unfold doP
  split
  · rename_i h0
    obtain ⟨a, b, c, d, e, hvs, hb, _⟩ := vals0 (h0 ▸ hr)
    have hf0 : fN p.vals 0 = a := by rw [hvs]; rfl
    have hf1 : fN p.vals 1 = b := by rw [hvs]; rfl
    have ha := hv a (by rw [hvs]; simp)
    split
    · exact ⟨Nat.zero_le _, rfl, (aft_zero hs).symm, fun q hq => absurd hq (List.not_mem_nil), hp⟩
    · refine goes1 ?_ rfl rfl hp
      unfold nopA
      rw [hf0, hf1]
      refine ⟨right32 hb (by decide) hs hc hm, ?_, by show (32 : Nat) ≤ 63; decide, by show (128 : Nat) ≤ 255; decide, fun y hy => ?_, ⟨r32, row32, rfl, rfl, rfl⟩⟩
      · show (p.data.extract 0 _).size ≤ 100000
        rw [ByteArray.size_extract]
        omega
      · simp [noneN] at hy
        omega
  · split
    · rename_i _ h6
      obtain ⟨a, b, d, e, hvs, ha, _⟩ := vals6 (h6 ▸ hr)
      have hf0 : fN p.vals 0 = a := by rw [hvs]; rfl
      refine goes1 ?_ rfl rfl hp
      unfold outA
      rw [hf0]
      refine ⟨right38 (by decide) ha hs hc hm (by decide) (by decide), by show (⟨#[]⟩ : ByteArray).size ≤ 100000; decide, by show (38 : Nat) ≤ 63; decide, by show (128 : Nat) ≤ 255; decide, fun y hy => ?_, ⟨r38, row38, rfl, rfl, rfl⟩⟩
      simp at hy
      omega
    · rename_i h0 h6
      have h4 : p.op = 4 := by unfold known at hk; simp at hk; omega
      obtain ⟨a, b, c, d, e, hvs, hb, _⟩ := vals4 (h4 ▸ hr)
      have hf1 : fN p.vals 1 = b := by rw [hvs]; rfl
      exact ask_goes hs hc (by rw [hf1]; exact hb) hh hp
theorem take_goes {X : FP} {p : PD} (hs : X.stat < 4294967296) (hc : X.cmd < 4294967296) (hp : PcsOk X) (hv : ∀ y ∈ p.vals, y < 18446744073709551616) (hf : p.fl ≤ 9223372036854775807) (hw : wrongP X p = none) : Goes X (takeP X p) ∨ (p.now = false ∧ Goes { X with cmd := aft X.cmd 1 } (takeP X p)) := by
  obtain ⟨_, hr, hz⟩ := wrong_none hw
  obtain ⟨_, _, _, _, _, _, h48⟩ := headS_ok hr hf
  have hh : (headS p).size ≤ 100000 := by omega
  have ht : takeP X p = stepP X p (headS p) := by unfold takeP; rw [hw]
  rw [ht]
  unfold stepP
  split
  · exact .inl (goes1 (rej_ok (by decide) hs hc hh) rfl rfl hp)
  · rename_i hk
    have hk : known p.op = true := by simpa using hk
    split
    · exact .inl (do_goes hs hc hk hr hv hz hh hp)
    · rename_i hn
      split
      · exact .inl (goes1 (rej_ok (by decide) hs hc hh) rfl rfl hp)
      · split
        · exact .inl (do_goes hs hc hk hr hv hz hh hp)
        · exact .inr ⟨by simpa using hn, do_goes (X := { X with cmd := aft X.cmd 1 }) hs (aft_small _ _) hk hr hv hz hh hp⟩
end Go.Proofs.YtamlepacljjpiaaGreatDoor
