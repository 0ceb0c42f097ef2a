/- An answer, right or not, in one form; two things of one's own side by side. -/
import Derived.Test.YtamlepacljjpiaaGreatDoorNegoWk
namespace Go.Proofs.YtamlepacljjpiaaGreatDoor
open Go.ChangeShapes Go.WideShapes Go.ChangeAt Go.RowKit Go.Shelf
set_option linter.unusedVariables false
def codeE : Option (Nat × Option Nat) → Nat
  | none => 0
  | some (c, _) => c
def ansX (own rc offers : PairL) (login disc : Bool) : PairL := match ansE rc offers login with
  | none => saidL own login disc offers
  | some _ => []
def ansRc (own rc offers : PairL) (login disc : Bool) : PairL := match ansE rc offers login with
  | none => recL own login disc rc offers
  | some _ => rc
/- an error, or none, of which Tell tells a code -/
def erBlock : Value → Option Nat
  | .iface _ (.pointer (some a)) => some a.block
  | _ => none
def TellIs (w : World) (er : Value) (c : Nat) : Prop := (c = 0 ∧ er = .nilIface) ∨ (c ≠ 0 ∧ ((er = .iface 56 (.int .i64 c)) ∨ ∃ g q : Nat, er = .iface 121 (.pointer (some ⟨g, 0, none⟩)) ∧ Blk w g 123 #[.int .i64 c, .int .i64 q]))
theorem TellIs.keep {w w' : World} {er : Value} {c : Nat} (h : TellIs w er c) (hk : ∀ k, erBlock er = some k → w'.heap[k]? = w.heap[k]?) : TellIs w' er c := by
  rcases h with h | ⟨h, h1 | ⟨g, q, rfl, hB⟩⟩
  · exact .inl h
  · exact .inr ⟨h, .inl h1⟩
  · exact .inr ⟨h, .inr ⟨g, q, rfl, (hk g rfl).trans hB⟩⟩
theorem TellIs.lt {w : World} {er : Value} {c : Nat} (h : TellIs w er c) : ∀ k, erBlock er = some k → k < w.heap.size := by
  rcases h with ⟨_, rfl⟩ | ⟨h, rfl | ⟨g, q, rfl, hB⟩⟩
  · intro k hk; cases hk
  · intro k hk; cases hk
  · intro k hk
    cases hk
    exact hB.lt
theorem TellIs.on {w w' : World} {er : Value} {c : Nat} (h : TellIs w er c) (hb : Below w.heap.size w w') : TellIs w' er c := h.keep fun k hk => hb.block k (h.lt k hk)
theorem TellIs.calls {w : World} {er : Value} {c : Nat} (h : TellIs w er c) (hL : LaidE w) : Calls Tryz.prog 22 #[er] w fun e w' => e = .returned (.int .i64 c) ∧ Below w.heap.size w w' := by
  rcases h with ⟨rfl, rfl⟩ | ⟨h, rfl | ⟨g, q, rfl, hB⟩⟩
  · refine (tell_nil w).mono ?_
    rintro e w' ⟨rfl, rfl⟩
    exact ⟨rfl, Below.refl _ _⟩
  · exact tell_errno c w hL
  · exact tell_at g c q w hL hB
theorem TellIs.iface {w : World} {er : Value} {c : Nat} (h : TellIs w er c) (hc : c ≠ 0) : ∃ t x, er = .iface t x := by
  rcases h with ⟨h, _⟩ | ⟨h, rfl | ⟨g, q, rfl, hB⟩⟩
  · exact absurd h hc
  · exact ⟨_, _, rfl⟩
  · exact ⟨_, _, rfl⟩
theorem TellIs.nil {w : World} {er : Value} (h : TellIs w er 0) : er = .nilIface := by
  rcases h with ⟨_, h⟩ | ⟨h, _⟩
  · exact h
  · exact absurd rfl h
theorem perr_is {w : World} {base : Nat} {t : TypeId} {x : Value} {E : Nat × Option Nat} (h : PErr w base (.iface t x) (some E)) (h0 : E.1 ≠ 0) : TellIs w (.iface t x) E.1 ∧ ∀ k, erBlock (.iface t x) = some k → base ≤ k := by
  obtain ⟨c, q⟩ := E
  rcases q with _ | q
  · have he : .iface t x = errv c := h
    unfold errv at he
    rw [if_neg h0] at he
    rw [he]
    exact ⟨.inr ⟨h0, .inl rfl⟩, fun k hk => by cases hk⟩
  · obtain ⟨g, hg, he, hB⟩ := h
    rw [he]
    exact ⟨.inr ⟨h0, .inr ⟨g, q, rfl, hB⟩⟩, fun k hk => by cases hk; exact hg⟩
theorem pRightGo_nz : ∀ (l : PairL) (i : Nat) (c q : Nat), pRightGo l i = some (c, q) → c ≠ 0
  | [], i, c, q, h => by cases h
  | p :: l, i, c, q, h => by
    rw [pRightGo] at h
    split at h
    · cases h; decide
    · split at h
      · cases h; decide
      · exact pRightGo_nz l _ c q h
theorem ansE_nz {rc l : PairL} {login : Bool} {E : Nat × Option Nat} (h : ansE rc l login = some E) : E.1 ≠ 0 := by
  unfold ansE at h
  rcases hp : pRightR l with _ | E'
  · rw [hp] at h
    rcases ht : twiceGo rc login [] l with _ | k
    · rw [ht] at h; cases h
    · rw [ht] at h
      have h2 : ((9 : Nat), some k) = E := Option.some.inj h
      rw [← h2]
      show (9 : Nat) ≠ 0
      decide
  · rw [hp] at h
    have h2 : E' = E := Option.some.inj h
    subst h2
    unfold pRightR at hp
    split at hp
    · cases hp; decide
    · rcases hg : pRightGo l 0 with _ | ⟨a, b⟩
      · rw [hg] at hp; cases hp
      · rw [hg] at hp
        have h3 : (a, some b) = E' := Option.some.inj hp
        rw [← h3]
        exact pRightGo_nz l 0 a b hg
def AnsG (wi : World) (S : List Nat) (g : Nat) (own rc offers : PairL) (login disc : Bool) (e : Ending) (w' : World) : Prop := ∃ S' u er, e = .returned (.tuple #[u, er]) ∧ ORow w' wi.heap.size u (ansX own rc offers login disc) ∧ TellIs w' er (codeE (ansE rc offers login)) ∧ NegoH w' S' g own (ansRc own rc offers login disc) ∧ NF S wi w' ∧
  (∀ k ∈ S', k ∈ S ∨ wi.heap.size ≤ k) ∧ (∀ k, u.ownBlock = some k → k ∉ S') ∧ ∀ k, erBlock er = some k → wi.heap.size ≤ k ∧ k ∉ S'
theorem ans_gen {wi w' : World} {S : List Nat} {g : Nat} {own rc offers : PairL} {login disc : Bool} {e : Ending} (hN : NegoH wi S g own rc) (h : AnsIs wi S g own rc offers login disc e w' (ansE rc offers login)) : AnsG wi S g own rc offers login disc e w' := by
  unfold AnsG ansX ansRc
  rcases hE : ansE rc offers login with _ | E
  · rw [hE] at h
    obtain ⟨S', u, rfl, h1, h2, h3, h4, h5⟩ := h
    exact ⟨S', u, _, rfl, h1, .inl ⟨rfl, rfl⟩, h2, h3, h4, h5, fun k hk => by cases hk⟩
  · rw [hE] at h
    obtain ⟨⟨t, x, rfl, hp⟩, hb⟩ := h
    have hi := perr_is hp (ansE_nz hE)
    exact ⟨S, _, _, rfl, ORow.nil _ _, hi.1, hN.on hb, NF.of_below hb, fun k hk => .inl hk, fun k hk => (by cases hk), fun k hk => ⟨hi.2 k hk, fun hm => by have h1 := hN.lt k hm; have h2 := hi.2 k hk; omega⟩⟩
theorem ORow.nf {w w' : World} {base : Nat} {v : Value} {l : PairL} {S : List Nat} (h : ORow w base v l) (hf : NF S w w') (hd : ∀ k, v.ownBlock = some k → k ∉ S) : ORow w' base v l :=
  h.keep fun k hk => hf.block k (h.lt k hk).2 (hd k hk)
theorem disj_after {S S' T : List Nat} {n : Nat} (hd : ∀ k ∈ S, k ∉ T) (hS' : ∀ k ∈ S', k ∈ S ∨ n ≤ k) (hT : ∀ k ∈ T, k < n) : ∀ k ∈ S', k ∉ T := fun k hk hm => by
  rcases hS' k hk with h | h
  · exact hd k h hm
  · have := hT k hm; omega
theorem ansRc_len {own rc offers : PairL} {login disc : Bool} : (ansRc own rc offers login disc).length ≤ rc.length + 60 := by
  unfold ansRc
  rcases hE : ansE rc offers login with _ | E
  · have h1 := recL_len own login disc offers rc
    have h2 := ((ansE_none _ _ _).1 hE).1
    simp only
    omega
  · simp only
    omega
theorem ansX_len {own rc offers : PairL} {login disc : Bool} : (ansX own rc offers login disc).length ≤ 60 := by
  unfold ansX
  rcases hE : ansE rc offers login with _ | E
  · have h1 := saidL_len own login disc offers
    have h2 := ((ansE_none _ _ _).1 hE).1
    simp only
    omega
  · simp
/- two things of one's own, and what else is kept (the blocks of L) -/
structure Two (w0 w : World) (Sa Sb : List Nat) (ga gb : Nat) (own ra rb : PairL) (L : List Nat) : Prop where
  b : Below w0.heap.size w0 w
  na : NegoH w Sa ga own ra
  nb : NegoH w Sb gb own rb
  sa : ∀ k ∈ Sa, w0.heap.size ≤ k
  sb : ∀ k ∈ Sb, w0.heap.size ≤ k
  d : ∀ k ∈ Sa, k ∉ Sb
  l : ∀ k ∈ L, k < w.heap.size ∧ k ∉ Sa ∧ k ∉ Sb
theorem Two.swap {w0 w : World} {Sa Sb : List Nat} {ga gb : Nat} {own ra rb : PairL} {L : List Nat} (h : Two w0 w Sa Sb ga gb own ra rb L) : Two w0 w Sb Sa gb ga own rb ra L :=
  ⟨h.b, h.nb, h.na, h.sb, h.sa, fun k hk hm => h.d k hm hk, fun k hk => ⟨(h.l k hk).1, (h.l k hk).2.2, (h.l k hk).2.1⟩⟩
theorem Two.on {w0 w w' : World} {Sa Sb : List Nat} {ga gb : Nat} {own ra rb : PairL} {L : List Nat} (h : Two w0 w Sa Sb ga gb own ra rb L) (hb : Below w.heap.size w w') : Two w0 w' Sa Sb ga gb own ra rb L :=
  ⟨below_step h.b hb, h.na.on hb, h.nb.on hb, h.sa, h.sb, h.d, fun k hk => ⟨Nat.lt_of_lt_of_le (h.l k hk).1 hb.size, (h.l k hk).2⟩⟩
theorem Two.more {w0 w : World} {Sa Sb : List Nat} {ga gb : Nat} {own ra rb : PairL} {L : List Nat} (h : Two w0 w Sa Sb ga gb own ra rb L) {u : Option Nat} (hu : ∀ k, u = some k → k < w.heap.size ∧ k ∉ Sa ∧ k ∉ Sb) : Two w0 w Sa Sb ga gb own ra rb (u.toList ++ L) :=
  ⟨h.b, h.na, h.nb, h.sa, h.sb, h.d, fun k hk => by
    rcases List.mem_append.1 hk with hk | hk
    · exact hu k (by simpa using hk)
    · exact h.l k hk⟩
theorem Two.less {w0 w : World} {Sa Sb : List Nat} {ga gb : Nat} {own ra rb : PairL} {L L' : List Nat} (h : Two w0 w Sa Sb ga gb own ra rb L) (hs : ∀ k ∈ L', k ∈ L) : Two w0 w Sa Sb ga gb own ra rb L' :=
  ⟨h.b, h.na, h.nb, h.sa, h.sb, h.d, fun k hk => h.l k (hs k hk)⟩
theorem Two.ans {w0 w w' : World} {Sa Sb : List Nat} {ga gb : Nat} {own ra rb offers : PairL} {login disc : Bool} {L : List Nat} {e : Ending} (h : Two w0 w Sa Sb ga gb own ra rb L) (he : AnsIs w Sa ga own ra offers login disc e w' (ansE ra offers login)) :
    ∃ Sa' u er, e = .returned (.tuple #[u, er]) ∧ ORow w' 0 u (ansX own ra offers login disc) ∧ TellIs w' er (codeE (ansE ra offers login)) ∧ Two w0 w' Sa' Sb ga gb own (ansRc own ra offers login disc) rb (u.ownBlock.toList ++ ((erBlock er).toList ++ L)) ∧ ∀ k ∈ L, w'.heap[k]? = w.heap[k]? := by
  obtain ⟨S', u, er, rfl, h1, h2, h3, h4, h5, h6, h7⟩ := ans_gen h.na he
  have hnb := h.nb.other h4 fun k hk hm => h.d k hm hk
  have hsb := h.nb.lt
  have hT : Two w0 w' S' Sb ga gb own (ansRc own ra offers login disc) rb L :=
    ⟨below_nf h.b h4 h.sa, h3, hnb, (ans_after h.b h.sa h4 h5).2, h.sb, disj_after h.d h5 hsb, fun k hk => ⟨Nat.lt_of_lt_of_le (h.l k hk).1 h4.size, fun hm => by
      rcases h5 k hm with h8 | h8
      · exact (h.l k hk).2.1 h8
      · have := (h.l k hk).1; omega, (h.l k hk).2.2⟩⟩
  refine ⟨S', u, er, rfl, h1.more (Nat.zero_le _), h2, (hT.more (u := erBlock er) fun k hk => ⟨h2.lt k hk, (h7 k hk).2, fun hm => by have h8 := hsb k hm; have h9 := (h7 k hk).1; omega⟩).more (u := u.ownBlock) fun k hk => ⟨(h1.lt k hk).2, h6 k hk, fun hm => by have h8 := hsb k hm; have h9 := (h1.lt k hk).1; omega⟩, fun k hk => h4.block k (h.l k hk).1 (h.l k hk).2.1⟩
theorem Two.past {w0 w w' : World} {Sa Sb : List Nat} {ga gb : Nat} {own ra rb : PairL} {L : List Nat} {n : Nat} (h : Two w0 w Sa Sb ga gb own ra rb L) (hb : Below n w w') (h0 : w0.heap.size ≤ n) (hA : ∀ k ∈ Sa, k < n) (hB : ∀ k ∈ Sb, k < n) (hL : ∀ k ∈ L, k < n) : Two w0 w' Sa Sb ga gb own ra rb L :=
  ⟨h.b.trans (hb.mono h0), h.na.keep hb.size fun k hk => hb.block k (hA k hk), h.nb.keep hb.size fun k hk => hb.block k (hB k hk), h.sa, h.sb, h.d, fun k hk => ⟨Nat.lt_of_lt_of_le (h.l k hk).1 hb.size, (h.l k hk).2⟩⟩
theorem ORow.keepL {w w' : World} {base : Nat} {v : Value} {l : PairL} {L : List Nat} (h : ORow w base v l) (hk : ∀ k ∈ L, w'.heap[k]? = w.heap[k]?) (hv : ∀ k, v.ownBlock = some k → k ∈ L) : ORow w' base v l := h.keep fun k hb => hk k (hv k hb)
theorem TellIs.keepL {w w' : World} {er : Value} {c : Nat} {L : List Nat} (h : TellIs w er c) (hk : ∀ k ∈ L, w'.heap[k]? = w.heap[k]?) (hv : ∀ k, erBlock er = some k → k ∈ L) : TellIs w' er c := h.keep fun k hb => hk k (hv k hb)
/- two that were made, one behind the other -/
theorem two_made {w0 wa w2 w3 : World} {Sa Sb : List Nat} {ga gb : Nat} {own : PairL} (h0 : Below w0.heap.size w0 wa) (hab : Below wa.heap.size wa w2) (hNa : NegoH w2 Sa ga own []) (hSa : ∀ k ∈ Sa, wa.heap.size ≤ k) (hb : Below w2.heap.size w2 w3) (hNb : NegoH w3 Sb gb own []) (hSb : ∀ k ∈ Sb, w2.heap.size ≤ k) : Two w0 w3 Sa Sb ga gb own [] [] [] :=
  ⟨below_step (below_step h0 hab) hb, hNa.on hb, hNb, fun k hk => Nat.le_trans h0.size (hSa k hk), fun k hk => Nat.le_trans (Nat.le_trans h0.size hab.size) (hSb k hk), fun k hk hm => by have h1 := hNa.lt k hk; have h2 := hSb k hm; omega, fun k hk => by cases hk⟩
/- an answer of the first of two to offers that are an argument of the claim -/
theorem two_arg {w0 w : World} {Sa Sb : List Nat} {ga gb : Nat} {own ra rb : PairL} {L : List Nat} (h : Two w0 w Sa Sb ga gb own ra rb L) (offers : PairL) (disc : Bool) (v : Value) (V : Env w0) (hv : SRd w0 v 2 offers.length (pairCells offers)) (hd : ∀ p ∈ offers, psmall p) (hnew : nNewR own = none) (hrc : ra.length ≤ 100000) :
    Calls Tryz.prog 46 #[.pointer (some ⟨ga, 0, none⟩), v, .bool true, .bool disc] w fun e w' => AnsIs w Sa ga own ra offers true disc e w' (ansE ra offers true) :=
  ans_arg ga Sa own ra offers true disc v w0 w V h.b h.na h.sa hv hd hnew hrc (.inl rfl)
end Go.Proofs.YtamlepacljjpiaaGreatDoor
