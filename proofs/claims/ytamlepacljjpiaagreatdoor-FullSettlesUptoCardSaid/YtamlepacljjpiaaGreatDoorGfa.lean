/- FullP FullMk FullL FullDoes. -/
import Derived.Test.YtamlepacljjpiaaGreatDoorGnego
import Derived.Test.YtamlepacljjpiaaGreatDoorTargetList
import Derived.Test.YtamlepacljjpiaaGreatDoorStrRow
import Derived.Test.YtamlepacljjpiaaGreatDoorGahs
import Derived.Test.YtamlepacljjpiaaGreatDoorPdu
import Derived.Test.YtamlepacljjpiaaGreatDoorGheadb
import Derived.Test.YtamlepacljjpiaaGreatDoorHeadBackP
import Derived.ProofKit
import Derived.Maps.OwnOps
import Derived.Maps.OwnSet
/- What a session behind its login answers: a plain function. -/
namespace Go.Proofs.YtamlepacljjpiaaGreatDoor
set_option linter.unusedVariables false
/- a session -/
structure FP where
  conf : Cfg
  own : PairL
  rc : PairL
  name : ByteArray
  disc : Bool
  stat : Nat
  cmd : Nat
  txt : ByteArray
  pcs : List ByteArray
  closed : Bool
/- an answer -/
structure AP where
  op : Nat
  fl : Nat
  vals : List Nat
  data : ByteArray
def noneN : Nat := 4294967295
def aft (x k : Nat) : Nat := (x + k) % 4294967296
def mrB : ByteArray := ⟨#[77, 97, 120, 82, 101, 99, 118, 68, 97, 116, 97, 83, 101, 103, 109, 101, 110, 116, 76, 101, 110, 103, 116, 104]⟩
def stB : ByteArray := ⟨#[83, 101, 110, 100, 84, 97, 114, 103, 101, 116, 115]⟩
def allB : ByteArray := ⟨#[65, 108, 108]⟩
def mostN (rc : PairL) : Nat := match numP (ownL rc mrB) with
  | none => 20000
  | some n => if n < 512 ∨ 20000 < n then 20000 else n
theorem mostN_rng (rc : PairL) : 512 ≤ mostN rc ∧ mostN rc ≤ 20000 := by
  unfold mostN
  split
  · omega
  · split <;> omega
def FP.up (X : FP) : FP := { X with stat := aft X.stat 1 }
def fN (vals : List Nat) (i : Nat) : Nat := (vals[i]?).getD 0
def rejA (X : FP) (r : Nat) (h : ByteArray) : AP := ⟨63, 128, [r, noneN, X.stat, X.cmd, aft X.cmd 31, 0], h⟩
def nopA (X : FP) (p : PD) : AP := ⟨32, 128, [fN p.vals 0, fN p.vals 1, noneN, X.stat, X.cmd, aft X.cmd 31], p.data.extract 0 (min p.data.size (mostN X.rc))⟩
def outA (X : FP) (p : PD) : AP := ⟨38, 128, [0, fN p.vals 0, X.stat, X.cmd, aft X.cmd 31, 0, 0], ⟨#[]⟩⟩
def txtA (X : FP) (fl itt tag : Nat) (s : ByteArray) : AP := ⟨36, fl, [0, itt, tag, X.stat, X.cmd, aft X.cmd 31], s⟩
def moreB (fl : Int) : Bool := decide (fl = 64 ∨ fl = 192)
def lastB (fl : Int) : Bool := decide (fl = 128 ∨ fl = 192)
/- the next piece -/
def pieceP (X : FP) (itt : Nat) : AP × FP :=
  (txtA X (if X.pcs.tail = [] then 128 else 64) itt (if X.pcs.tail = [] then noneN else 1) (X.pcs.headD ⟨#[]⟩), { X.up with pcs := X.pcs.tail })
/- who is there -/
def sendL (X : FP) (v : ByteArray) : PairL :=
  match tlistP X.conf (if v.data.toList = [] then X.name else v).data.toList (decide (v = allB)) with
  | none => [(stB, ba rejB)]
  | some l => if v = allB ∧ X.disc = false then [(stB, ba rejB)] else l
def isST (p : ByteArray × ByteArray) : Bool := decide (p.1 = stB)
def restL (l : PairL) : PairL := l.filter fun p => !isST p
def saidS (X : FP) (l : PairL) : PairL := (l.filter isST).flatMap fun p => sendL X p.2
def saysP (X : FP) (l : PairL) (itt : Nat) (h : ByteArray) : AP × FP :=
  match ansE X.rc (restL l) false with
  | some _ => (rejA X 4 h, X.up)
  | none =>
    match pRightR (saidS X l ++ saidL X.own false X.disc (restL l)) with
    | some _ => (rejA X 4 h, { X.up with rc := recL X.own false X.disc X.rc (restL l) })
    | none => pieceP { X with rc := recL X.own false X.disc X.rc (restL l), pcs := piecesN (ba (pairsB (saidS X l ++ saidL X.own false X.disc (restL l)))) (mostN (recL X.own false X.disc X.rc (restL l))) (cntN (ba (pairsB (saidS X l ++ saidL X.own false X.disc (restL l)))) (mostN (recL X.own false X.disc X.rc (restL l)))) } itt
def addPF (X : FP) (p : PD) (h : ByteArray) : AP × FP :=
  if 8192 < X.txt.size + p.data.size then (rejA X 4 h, { X.up with pcs := [], txt := ⟨#[]⟩ }) else
  if moreB p.fl = true then
    (if lastB p.fl = true then rejA X 4 h else txtA X 0 (fN p.vals 1) noneN ⟨#[]⟩, { X.up with pcs := [], txt := X.txt ++ p.data })
  else match parseGo ((X.txt ++ p.data).size + 1) (X.txt ++ p.data).data.toList 0 with
    | .inl _ => (rejA X 4 h, { X.up with pcs := [], txt := ⟨#[]⟩ })
    | .inr l => if lastB p.fl = false then (rejA X 4 h, { X.up with pcs := [], txt := ⟨#[]⟩ }) else saysP { X with pcs := [], txt := ⟨#[]⟩ } l (fN p.vals 1) h
def askP (X : FP) (p : PD) (h : ByteArray) : AP × FP :=
  if fN p.vals 2 = noneN then addPF X p h else
  if fN p.vals 2 = 1 ∧ X.pcs ≠ [] ∧ p.data.data.toList = [] ∧ moreB p.fl = false then pieceP X (fN p.vals 1) else (rejA X 4 h, X.up)
/- the head of a PDU, in bytes -/
def headS (p : PD) : ByteArray := match headRow p.op with
  | none => ⟨#[]⟩
  | some r => ba (layAll (headB r.1 p.now p.fl.toNat 0 p.data.size) r.2.2.2 p.vals)
/- which command's number, and whom it answers -/
def cmdN (p : PD) : Nat := if p.op = 6 then fN p.vals 2 else fN p.vals 3
def ittN (p : PD) : Nat := if p.op = 6 then fN p.vals 0 else fN p.vals 1
def known (op : Int) : Bool := decide (op = 0 ∨ op = 4 ∨ op = 6)
def doP (X : FP) (p : PD) (h : ByteArray) : List AP × FP :=
  if p.op = 0 then (if fN p.vals 1 = noneN then ([], X) else ([nopA X p], X.up)) else
  if p.op = 6 then ([outA X p], { X.up with closed := true }) else ([(askP X p h).1], (askP X p h).2)
def stepP (X : FP) (p : PD) (h : ByteArray) : List AP × FP :=
  if known p.op = false then ([rejA X 5 h], X.up) else
  if p.now = true then doP X p h else
  if cmdN p ≠ X.cmd then ([rejA X 4 h], X.up) else
  if p.op = 0 ∧ fN p.vals 1 = noneN then doP X p h else doP { X with cmd := aft X.cmd 1 } p h
/- a whole take: what is wrong, or the answers, and the session then -/
def wrongP (X : FP) (p : PD) : Option Nat := if X.closed = true then some 6 else pduR p.op p.now p.fl p.vals p.al p.data.size
def takeP (X : FP) (p : PD) : List AP × FP := match wrongP X p with
  | some _ => ([], X)
  | none => stepP X p (headS p)
end Go.Proofs.YtamlepacljjpiaaGreatDoor

/- Heads that are made: of answers, and of requests. -/
namespace Go.Proofs.YtamlepacljjpiaaGreatDoor
set_option linter.unusedVariables false
set_option linter.unusedSimpArgs false
def rowN (op : Int) : HeadR := (headRow op).getD (0, [], 0, [])
theorem makeR_go {op fl : Int} {r : HeadR} {ns : List (List UInt8)} {vs cur : List Nat} (hr : headRow op = some r) (hg : mkGo r.2.2.2 ns vs (List.replicate r.2.2.2.length 0) = .inr cur) (hx : rightR op false fl cur = none) : makeR op fl ns vs = .inr cur := by
  unfold makeR
  rw [hr]
  simp only [hg, hx]
theorem rightR_ok {op : Int} {now : Bool} {fl : Int} {r : HeadR} {vals : List Nat} (hr : headRow op = some r) (hb : badR r op now fl = false) (hl : r.2.2.2.length = vals.length) (hg : rangeGo r.2.2.2 vals 0 = none) : rightR op now fl vals = none := by
  unfold rightR
  rw [hr]
  simp only [hb, hl, hg]
  simp
def nLUN : ByteArray := ⟨#[76, 85, 78]⟩
def nITT : ByteArray := ⟨#[73, 84, 84]⟩
def nTTT : ByteArray := ⟨#[84, 84, 84]⟩
def nCmd : ByteArray := ⟨#[67, 109, 100, 83, 78]⟩
def nStat : ByteArray := ⟨#[83, 116, 97, 116, 83, 78]⟩
def nExp : ByteArray := ⟨#[69, 120, 112, 67, 109, 100, 83, 78]⟩
def nMax : ByteArray := ⟨#[77, 97, 120, 67, 109, 100, 83, 78]⟩
def nRea : ByteArray := ⟨#[82, 101, 97, 115, 111, 110]⟩
def fld (s : ByteArray) (a k : Nat) : List UInt8 × Nat × Nat := (s.data.toList, a, k)
def nXS : ByteArray := ⟨#[69, 120, 112, 83, 116, 97, 116, 83, 78]⟩
def nCID : ByteArray := ⟨#[67, 73, 68]⟩
def nRes : ByteArray := ⟨#[82, 101, 115, 112, 111, 110, 115, 101]⟩
def nT2W : ByteArray := ⟨#[84, 105, 109, 101, 50, 87, 97, 105, 116]⟩
def nT2R : ByteArray := ⟨#[84, 105, 109, 101, 50, 82, 101, 116, 97, 105, 110]⟩
def nDSN : ByteArray := ⟨#[68, 97, 116, 97, 83, 78]⟩
def nmNopOut : List UInt8 := [78, 111, 112, 79, 117, 116]
def nmText : List UInt8 := [84, 101, 120, 116, 82, 101, 113, 117, 101, 115, 116]
def nmOut : List UInt8 := [76, 111, 103, 111, 117, 116, 82, 101, 113, 117, 101, 115, 116]
def nmNopIn : List UInt8 := [78, 111, 112, 73, 110]
def nmTextR : List UInt8 := [84, 101, 120, 116, 82, 101, 115, 112, 111, 110, 115, 101]
def nmOutR : List UInt8 := [76, 111, 103, 111, 117, 116, 82, 101, 115, 112, 111, 110, 115, 101]
def nmRej : List UInt8 := [82, 101, 106, 101, 99, 116]
def r0 : HeadR := (0, nmNopOut, 128, [fld nLUN 8 8, fld nITT 16 4, fld nTTT 20 4, fld nCmd 24 4, fld nXS 28 4])
def r4 : HeadR := (4, nmText, 192, [fld nLUN 8 8, fld nITT 16 4, fld nTTT 20 4, fld nCmd 24 4, fld nXS 28 4])
def r6 : HeadR := (6, nmOut, 255, [fld nITT 16 4, fld nCID 20 2, fld nCmd 24 4, fld nXS 28 4])
def r32 : HeadR := (32, nmNopIn, 128, [fld nLUN 8 8, fld nITT 16 4, fld nTTT 20 4, fld nStat 24 4, fld nExp 28 4, fld nMax 32 4])
def r36 : HeadR := (36, nmTextR, 192, [fld nLUN 8 8, fld nITT 16 4, fld nTTT 20 4, fld nStat 24 4, fld nExp 28 4, fld nMax 32 4])
def r38 : HeadR := (38, nmOutR, 128, [fld nRes 2 1, fld nITT 16 4, fld nStat 24 4, fld nExp 28 4, fld nMax 32 4, fld nT2W 40 2, fld nT2R 42 2])
def r63 : HeadR := (63, nmRej, 128, [fld nRea 2 1, fld nITT 16 4, fld nStat 24 4, fld nExp 28 4, fld nMax 32 4, fld nDSN 36 4])
theorem row0 : headRow 0 = some r0 := by kernel_rfl
theorem row4 : headRow 4 = some r4 := by kernel_rfl
theorem row6 : headRow 6 = some r6 := by kernel_rfl
theorem row32 : headRow 32 = some r32 := by kernel_rfl
theorem row36 : headRow 36 = some r36 := by kernel_rfl
theorem row38 : headRow 38 = some r38 := by kernel_rfl
theorem row63 : headRow 63 = some r63 := by kernel_rfl
/- what is right -/
theorem dv {v : Nat} (h : v < 4294967296) : v / 4294967296 = 0 := Nat.div_eq_of_lt h
theorem right32 {a b c s k m : Nat} (hb : b < 4294967296) (hc : c < 4294967296) (hs : s < 4294967296) (hk : k < 4294967296) (hm : m < 4294967296) : rightR 32 false 128 [a, b, c, s, k, m] = none :=
  rightR_ok row32 (by decide +kernel) rfl (by simp [r32, fld, rangeGo]; repeat (rw [if_neg (by omega)]))
theorem right36 {fl a b c s k m : Nat} (hf : fl = 0 ∨ fl = 64 ∨ fl = 128) (hb : b < 4294967296) (hc : c < 4294967296) (hs : s < 4294967296) (hk : k < 4294967296) (hm : m < 4294967296) : rightR 36 false fl [a, b, c, s, k, m] = none :=
  rightR_ok row36 (by rcases hf with rfl | rfl | rfl <;> decide +kernel) rfl (by simp [r36, fld, rangeGo]; repeat (rw [if_neg (by omega)]))
theorem right38 {a b s k m c d : Nat} (ha : a < 256) (hb : b < 4294967296) (hs : s < 4294967296) (hk : k < 4294967296) (hm : m < 4294967296) (hc : c < 65536) (hd : d < 65536) : rightR 38 false 128 [a, b, s, k, m, c, d] = none :=
  rightR_ok row38 (by decide +kernel) rfl (by simp [r38, fld, rangeGo]; repeat (rw [if_neg (by omega)]))
theorem right63 {a b s k m d : Nat} (ha : a < 256) (hb : b < 4294967296) (hs : s < 4294967296) (hk : k < 4294967296) (hm : m < 4294967296) (hd : d < 4294967296) : rightR 63 false 128 [a, b, s, k, m, d] = none :=
  rightR_ok row63 (by decide +kernel) rfl (by simp [r63, fld, rangeGo]; repeat (rw [if_neg (by omega)]))
theorem right0 {now : Bool} {a b c s k : Nat} (hb : b < 4294967296) (hc : c < 4294967296) (hs : s < 4294967296) (hk : k < 4294967296) : rightR 0 now 128 [a, b, c, s, k] = none :=
  rightR_ok row0 (by cases now <;> decide +kernel) rfl (by simp [r0, fld, rangeGo]; repeat (rw [if_neg (by omega)]))
theorem right4 {now : Bool} {fl a b c s k : Nat} (hf : fl = 0 ∨ fl = 64 ∨ fl = 128 ∨ fl = 192) (hb : b < 4294967296) (hc : c < 4294967296) (hs : s < 4294967296) (hk : k < 4294967296) : rightR 4 now fl [a, b, c, s, k] = none :=
  rightR_ok row4 (by rcases hf with rfl | rfl | rfl | rfl <;> cases now <;> decide +kernel) rfl (by simp [r4, fld, rangeGo]; repeat (rw [if_neg (by omega)]))
theorem right6 {now : Bool} {a b s k : Nat} (hb : a < 4294967296) (hc : b < 65536) (hs : s < 4294967296) (hk : k < 4294967296) : rightR 6 now 128 [a, b, s, k] = none :=
  rightR_ok row6 (by cases now <;> decide +kernel) rfl (by simp [r6, fld, rangeGo]; repeat (rw [if_neg (by omega)]))
/- what is made -/
def tail3 : List ByteArray := [nStat, nExp, nMax]
theorem make32 {a b s k m : Nat} (hb : b < 4294967296) (hs : s < 4294967296) (hk : k < 4294967296) (hm : m < 4294967296) : makeR 32 128 (([nLUN, nITT, nTTT] ++ tail3).map (·.data.toList)) ([a, b, noneN] ++ [s, k, m]) = .inr [a, b, noneN, s, k, m] :=
  makeR_go row32 (by rfl) (right32 hb (by decide) hs hk hm)
theorem make36 {fl b c s k m : Nat} (hf : fl = 0 ∨ fl = 64 ∨ fl = 128) (hb : b < 4294967296) (hc : c < 4294967296) (hs : s < 4294967296) (hk : k < 4294967296) (hm : m < 4294967296) : makeR 36 fl (([nITT, nTTT] ++ tail3).map (·.data.toList)) ([b, c] ++ [s, k, m]) = .inr [0, b, c, s, k, m] :=
  makeR_go row36 (by rfl) (right36 hf hb hc hs hk hm)
theorem make38 {b s k m : Nat} (hb : b < 4294967296) (hs : s < 4294967296) (hk : k < 4294967296) (hm : m < 4294967296) : makeR 38 128 (([nITT] ++ tail3).map (·.data.toList)) ([b] ++ [s, k, m]) = .inr [0, b, s, k, m, 0, 0] :=
  makeR_go row38 (by rfl) (right38 (by decide) hb hs hk hm (by decide) (by decide))
theorem make63 {a s k m : Nat} (ha : a < 256) (hs : s < 4294967296) (hk : k < 4294967296) (hm : m < 4294967296) : makeR 63 128 (([nRea, nITT] ++ tail3).map (·.data.toList)) ([a, noneN] ++ [s, k, m]) = .inr [a, noneN, s, k, m, 0] :=
  makeR_go row63 (by rfl) (right63 ha (by decide) hs hk hm (by decide))
theorem make0 {a b c : Nat} (hb : b < 4294967296) (hc : c < 4294967296) : makeR 0 128 ([nLUN, nITT, nTTT].map (·.data.toList)) [a, b, c] = .inr [a, b, c, 0, 0] :=
  makeR_go row0 (by rfl) (right0 hb hc (by decide) (by decide))
theorem make0c {b c s : Nat} (hb : b < 4294967296) (hc : c < 4294967296) (hs : s < 4294967296) : makeR 0 128 ([nITT, nTTT, nCmd].map (·.data.toList)) [b, c, s] = .inr [0, b, c, s, 0] :=
  makeR_go row0 (by rfl) (right0 hb hc hs (by decide))
theorem make4 {fl b c : Nat} (hf : fl = 0 ∨ fl = 64 ∨ fl = 128 ∨ fl = 192) (hb : b < 4294967296) (hc : c < 4294967296) : makeR 4 fl ([nITT, nTTT].map (·.data.toList)) [b, c] = .inr [0, b, c, 0, 0] :=
  makeR_go row4 (by rfl) (right4 hf hb hc (by decide) (by decide))
theorem make6 {b : Nat} (hb : b < 4294967296) : makeR 6 128 ([nITT].map (·.data.toList)) [b] = .inr [b, 0, 0, 0] :=
  makeR_go row6 (by rfl) (right6 hb (by decide) (by decide) (by decide))
theorem make6c {b s : Nat} (hb : b < 4294967296) (hs : s < 4294967296) : makeR 6 128 ([nITT, nCmd].map (·.data.toList)) [b, s] = .inr [b, 0, s, 0] :=
  makeR_go row6 (by rfl) (right6 hb (by decide) hs (by decide))
end Go.Proofs.YtamlepacljjpiaaGreatDoor

/- Plain laws on heads that are right. -/
namespace Go.Proofs.YtamlepacljjpiaaGreatDoor
set_option linter.unusedVariables false
set_option linter.unusedSimpArgs false
theorem wrong_none {X : FP} {p : PD} (h : wrongP X p = none) : X.closed = false ∧ rightR p.op p.now p.fl p.vals = none ∧ p.data.size ≤ 100000 := by
  unfold wrongP at h
  split at h
  · cases h
  · rename_i hc
    refine ⟨by simpa using hc, ?_⟩
    unfold pduR at h
    rcases hr : rightR p.op p.now p.fl p.vals with _ | E
    · rw [hr] at h
      simp only at h
      rcases hg : rightGo p.al 0 0 with _ | E
      · rw [hg] at h
        simp only at h
        split at h
        · cases h
        · exact ⟨rfl, by omega⟩
      · rw [hg] at h; cases h
    · rw [hr] at h; cases h
theorem headS_ok {p : PD} (h : rightR p.op p.now p.fl p.vals = none) (hf : p.fl ≤ 9223372036854775807) : ∃ r n, headRow p.op = some r ∧ p.fl = (n : Nat) ∧ n < 256 ∧ headS p = ba (layAll (headB r.1 p.now n 0 p.data.size) r.2.2.2 p.vals) ∧ (headS p).size = 48 := by
  obtain ⟨r, hr⟩ := right_row h
  obtain ⟨n, hn, hn2⟩ := right_flags hr h hf
  refine ⟨r, n, hr, hn, hn2, ?_, ?_⟩
  · unfold headS
    rw [hr]
    simp only
    rw [hn]
    rfl
  · unfold headS
    rw [hr]
    simp only
    have := layAll_len r.2.2.2 p.vals (headB r.1 p.now p.fl.toNat 0 p.data.size) (headT_ok r (headRow_mem hr)) rfl
    exact (size_mkl _).trans this
theorem rng_cons {f : List UInt8 × Nat × Nat} {fs : FieldL} {v : Nat} {vs : List Nat} {i : Nat} (h : rangeGo (f :: fs) (v :: vs) i = none) : (f.2.2 < 8 → v < 2 ^ (8 * f.2.2)) ∧ rangeGo fs vs (i + 1) = none := by
  simp only [rangeGo] at h
  split at h
  · cases h
  · rename_i hn
    refine ⟨fun hf => ?_, h⟩
    have h1 : v / 2 ^ (8 * f.2.2) = 0 := by
      rcases Nat.eq_zero_or_pos (v / 2 ^ (8 * f.2.2)) with h0 | h0
      · exact h0
      · exact absurd ⟨hf, by omega⟩ hn
    exact (Nat.div_eq_zero_iff_lt (Nat.pow_pos (by omega))).1 h1
theorem list5 {l : List Nat} (h : 5 = l.length) : ∃ a b c d e, l = [a, b, c, d, e] := by
  match l, h with
  | [a, b, c, d, e], _ => exact ⟨a, b, c, d, e, rfl⟩
theorem list4 {l : List Nat} (h : 4 = l.length) : ∃ a b d e, l = [a, b, d, e] := by
  match l, h with
  | [a, b, d, e], _ => exact ⟨a, b, d, e, rfl⟩
theorem vals0 {now : Bool} {fl : Int} {vals : List Nat} (h : rightR 0 now fl vals = none) : ∃ a b c d e, vals = [a, b, c, d, e] ∧ b < 4294967296 ∧ c < 4294967296 ∧ d < 4294967296 ∧ e < 4294967296 := by
  obtain ⟨_, hl, hg⟩ := right_parts row0 h
  obtain ⟨a, b, c, d, e, rfl⟩ := list5 (l := vals) (by first | exact hl | exact hl.symm)
  obtain ⟨_, hg⟩ := rng_cons (f := fld nLUN 8 8) hg
  obtain ⟨h1, hg⟩ := rng_cons (f := fld nITT 16 4) hg
  obtain ⟨h2, hg⟩ := rng_cons (f := fld nTTT 20 4) hg
  obtain ⟨h3, hg⟩ := rng_cons (f := fld nCmd 24 4) hg
  obtain ⟨h4, hg⟩ := rng_cons (f := fld nXS 28 4) hg
  exact ⟨a, b, c, d, e, rfl, h1 (by decide), h2 (by decide), h3 (by decide), h4 (by decide)⟩
theorem vals4 {now : Bool} {fl : Int} {vals : List Nat} (h : rightR 4 now fl vals = none) : ∃ a b c d e, vals = [a, b, c, d, e] ∧ b < 4294967296 ∧ c < 4294967296 ∧ d < 4294967296 ∧ e < 4294967296 := by
  obtain ⟨_, hl, hg⟩ := right_parts row4 h
  obtain ⟨a, b, c, d, e, rfl⟩ := list5 (l := vals) (by first | exact hl | exact hl.symm)
  obtain ⟨_, hg⟩ := rng_cons (f := fld nLUN 8 8) hg
  obtain ⟨h1, hg⟩ := rng_cons (f := fld nITT 16 4) hg
  obtain ⟨h2, hg⟩ := rng_cons (f := fld nTTT 20 4) hg
  obtain ⟨h3, hg⟩ := rng_cons (f := fld nCmd 24 4) hg
  obtain ⟨h4, hg⟩ := rng_cons (f := fld nXS 28 4) hg
  exact ⟨a, b, c, d, e, rfl, h1 (by decide), h2 (by decide), h3 (by decide), h4 (by decide)⟩
theorem vals6 {now : Bool} {fl : Int} {vals : List Nat} (h : rightR 6 now fl vals = none) : ∃ a b d e, vals = [a, b, d, e] ∧ a < 4294967296 ∧ b < 65536 ∧ d < 4294967296 ∧ e < 4294967296 := by
  obtain ⟨_, hl, hg⟩ := right_parts row6 h
  obtain ⟨a, b, d, e, rfl⟩ := list4 (l := vals) (by first | exact hl | exact hl.symm)
  obtain ⟨h1, hg⟩ := rng_cons (f := fld nITT 16 4) hg
  obtain ⟨h2, hg⟩ := rng_cons (f := fld nCID 20 2) hg
  obtain ⟨h3, hg⟩ := rng_cons (f := fld nCmd 24 4) hg
  obtain ⟨h4, hg⟩ := rng_cons (f := fld nXS 28 4) hg
  exact ⟨a, b, d, e, rfl, h1 (by decide), h2 (by decide), h3 (by decide), h4 (by decide)⟩
/- what a field has -/
theorem val0 {a b c d e : Nat} : valGo r0.2.2.2 [a, b, c, d, e] nLUN.data.toList = .inr a ∧ valGo r0.2.2.2 [a, b, c, d, e] nITT.data.toList = .inr b ∧ valGo r0.2.2.2 [a, b, c, d, e] nTTT.data.toList = .inr c ∧ valGo r0.2.2.2 [a, b, c, d, e] nCmd.data.toList = .inr d := ⟨rfl, rfl, rfl, rfl⟩
theorem val4 {a b c d e : Nat} : valGo r4.2.2.2 [a, b, c, d, e] nLUN.data.toList = .inr a ∧ valGo r4.2.2.2 [a, b, c, d, e] nITT.data.toList = .inr b ∧ valGo r4.2.2.2 [a, b, c, d, e] nTTT.data.toList = .inr c ∧ valGo r4.2.2.2 [a, b, c, d, e] nCmd.data.toList = .inr d := ⟨rfl, rfl, rfl, rfl⟩
theorem val6 {a b d e : Nat} : valGo r6.2.2.2 [a, b, d, e] nITT.data.toList = .inr a ∧ valGo r6.2.2.2 [a, b, d, e] nCmd.data.toList = .inr d := ⟨rfl, rfl⟩
end Go.Proofs.YtamlepacljjpiaaGreatDoor

/- A map of functions that a call made: what is found in it. -/
namespace Go.Proofs.YtamlepacljjpiaaGreatDoor
open Go Go.Maps
open Go.Maps (Keyed)
open Go.WideElems (Fit rd rg pl rd_val elemAt)
set_option linter.unusedVariables false
theorem fread_ex (a b c : Nat) (recv : Value) (hab : a ≠ b) (hac : a ≠ c) (hbc : b ≠ c) : ∃ R : Value → Option (DataW Unit × List MemPlace), (R .nilFunc = some (.lit (.int .i64 100), [])) ∧ R (.func (.func a) #[recv] #[]) = some (.lit (.int .i64 0), []) ∧ R (.func (.func b) #[recv] #[]) = some (.lit (.int .i64 4), []) ∧
    R (.func (.func c) #[recv] #[]) = some (.lit (.int .i64 6), []) ∧ (∀ v ps, R v = some (.lit (.int .i64 0), ps) → v = .func (.func a) #[recv] #[]) ∧ (∀ v ps, R v = some (.lit (.int .i64 4), ps) → v = .func (.func b) #[recv] #[]) ∧ (∀ v ps, R v = some (.lit (.int .i64 6), ps) → v = .func (.func c) #[recv] #[]) := by
  classical
  have h1 : (Value.func (.func b) #[recv] #[]) ≠ .func (.func a) #[recv] #[] := fun e => by injection e with e; injection e with e; exact hab e.symm
  have h2 : (Value.func (.func c) #[recv] #[]) ≠ .func (.func a) #[recv] #[] := fun e => by injection e with e; injection e with e; exact hac e.symm
  have h3 : (Value.func (.func c) #[recv] #[]) ≠ .func (.func b) #[recv] #[] := fun e => by injection e with e; injection e with e; exact hbc e.symm
  refine ⟨fun v => if v = .func (.func a) #[recv] #[] then some (.lit (.int .i64 0), []) else if v = .func (.func b) #[recv] #[] then some (.lit (.int .i64 4), []) else if v = .func (.func c) #[recv] #[] then some (.lit (.int .i64 6), []) else some (.lit (.int .i64 100), []), ?_, ?_, ?_, ?_, ?_, ?_, ?_⟩
  · simp
  · simp
  · simp [hab.symm]
  · simp [hac.symm, hbc.symm]
  all_goals
    intro v ps h
    simp only at h
    split at h
    · rename_i hv
      first | exact hv | (simp at h)
    · split at h
      · rename_i hv
        first | exact hv | (simp at h)
      · split at h
        · rename_i hv
          first | exact hv | (simp at h)
        · simp at h
section
variable {P : Program} {k t e : TypeId} {w : World} {m n : Nat} {D : DataW Unit} {R : Value → Option (DataW Unit × List MemPlace)} {key z : Value} {kl : Lit}
theorem look_hit (h : w.ownsMap P k R m n D) (K : Keyed P k) (ht : P.underlying t = some (.map k e)) (hz : (zeroValue e).run P w = .ok z w) (hkey : keyOf P k key = some kl) {d : DataW Unit} (hd : ∀ x, D.atKey kl x = d) {v0 : Value} (hR : ∀ v ps, R v = some (d, ps) → v = v0) :
    (Instr.lookup t (.map (some m)) key true).run P w = .ok (.tuple #[v0, .bool true]) w := by
  obtain ⟨es, clock, hb, F, _, hD⟩ := h
  rcases Maps.fit_look true K ht hz hb F hkey with ⟨_, _, hat⟩ | ⟨e0, y, _, _, hrun, hRv, hat, _⟩
  · rw [← hD] at hat
    have h1 := (hat (.lit (.bool true))).symm.trans ((hd _).trans ((hd _).symm.trans (hat (.lit (.bool false)))))
    simp at h1
  · rw [← hD] at hat
    have h1 := (hat (.lit (.bool true))).symm.trans (hd _)
    obtain ⟨y1, y2⟩ := y
    simp only at h1
    subst h1
    have := hR _ _ hRv
    rw [← this]
    exact hrun
theorem look_miss (h : w.ownsMap P k R m n D) (K : Keyed P k) (ht : P.underlying t = some (.map k e)) (hz : (zeroValue e).run P w = .ok z w) (hkey : keyOf P k key = some kl) (hd : ∀ x, D.atKey kl x = x) :
    (Instr.lookup t (.map (some m)) key true).run P w = .ok (.tuple #[z, .bool false]) w := by
  obtain ⟨es, clock, hb, F, _, hD⟩ := h
  rcases Maps.fit_look true K ht hz hb F hkey with ⟨hrun, _, hat⟩ | ⟨e0, y, _, _, hrun, hRv, hat, _⟩
  · exact hrun
  · rw [← hD] at hat
    have h1 := (hat (.lit (.bool true))).symm.trans (hd _)
    have h2 := (hat (.lit (.bool false))).symm.trans (hd _)
    have h3 := h1.symm.trans h2
    simp at h3
end
def doesD : DataW Unit := (((DataW.map []).put (.int .i64 0) (.lit (.int .i64 0))).put (.int .i64 4) (.lit (.int .i64 4))).put (.int .i64 6) (.lit (.int .i64 6))
theorem does_0 (x : DataW Unit) : doesD.atKey (.int .i64 0) x = .lit (.int .i64 0) := rfl
theorem does_4 (x : DataW Unit) : doesD.atKey (.int .i64 4) x = .lit (.int .i64 4) := rfl
theorem does_6 (x : DataW Unit) : doesD.atKey (.int .i64 6) x = .lit (.int .i64 6) := rfl
theorem lit_ne {a b : Int} (h : a ≠ b) : Lit.int .i64 a ≠ .int .i64 b := fun e => h (by injection e)
theorem does_no {op : Int} (h0 : op ≠ 0) (h4 : op ≠ 4) (h6 : op ≠ 6) (x : DataW Unit) : doesD.atKey (.int .i64 op) x = x := by
  unfold doesD
  rw [atKey_put_other (lit_ne h6), atKey_put_other (lit_ne h4), atKey_put_other (lit_ne h0)]
  rfl
theorem key_int {P : Program} {k : TypeId} (hk : P.underlying k = some (.int .i64)) (x : Int) (h0 : 0 ≤ x) (h1 : x ≤ 1000) : keyOf P k (.int .i64 x) = some (.int .i64 x) := by
  refine Maps.keyOf_int_mk hk ?_
  show (decide (IntKind.i64.min ≤ x) && decide (x ≤ IntKind.i64.max)) = true
  have h2 : IntKind.i64.min = -9223372036854775808 := rfl
  have h3 : IntKind.i64.max = 9223372036854775807 := rfl
  rw [h2, h3]
  simp
  omega
end Go.Proofs.YtamlepacljjpiaaGreatDoor
