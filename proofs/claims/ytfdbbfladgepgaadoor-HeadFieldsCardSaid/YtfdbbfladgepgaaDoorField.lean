/- Contracts of package field: Pad, Padded, Unpad, Get: what they return, of whatever arguments. -/
import Derived.Test.YtfdbbfladgepgaaDoorBase
namespace Go.Proofs.YtfdbbfladgepgaaDoor
open Go.ChangeShapes Go.WideShapes Go.ChangeAt Go.RowKit
set_option linter.unusedVariables false

def padI (n : Int) : Int := if n < 0 then 0 else (-n) % 4
theorem padI_rng (n : Int) : 0 ≤ padI n ∧ padI n ≤ 3 := by unfold padI; split <;> omega
def padded (l : List UInt8) : List UInt8 := l ++ List.replicate (padI l.length).toNat 0
def unpadE (l : List UInt8) (n : Int) : Nat :=
  if n < 0 then 2 else if l.length < n + padI n then 7 else if padded (l.take n.toNat) = l.take (n + padI n).toNat then 0 else 3
def unpadS (l : List UInt8) (n : Int) : List UInt8 := if unpadE l n = 0 then l.take n.toNat else []
def unpadN (l : List UInt8) (n : Int) : Int := if unpadE l n = 0 then n + padI n else 0
end Go.Proofs.YtfdbbfladgepgaaDoor
