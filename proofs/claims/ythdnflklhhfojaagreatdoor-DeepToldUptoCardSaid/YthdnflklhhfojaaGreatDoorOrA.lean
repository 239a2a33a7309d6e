/- The order of plain values: plain functions. -/
import Derived.Test.YthdnflklhhfojaaGreatDoorNmP
import Derived.Test.YthdnflklhhfojaaGreatDoorDpA
import Derived.Lib.Bytealg
namespace Go.Proofs.YthdnflklhhfojaaGreatDoor
open Go Go.RowKit
namespace Dp
open Go.Proofs.YthdnflklhhfojaaGreatDoor.Nm (numericL)
def cmpI (a b : Int) : Int := if a < b then -1 else if b < a then 1 else 0
def truthsI (a b : Bool) : Int := if a = b then 0 else if b = true then -1 else 1
/-- The truth of a value of kind k, of m items. -/
def truthK (k n : Int) (t : ByteArray) (m : Nat) : Bool := if k = 0 then false else if k = 1 ∨ k = 2 then n != 0 else if k = 3 then (t.toList != []) && (t.toList != [48]) else if k = 4 then decide (0 < m) else true
def textP (k n : Int) (t : ByteArray) : ByteArray := if k = 0 then ⟨#[]⟩ else if k = 1 then (if n = 0 then ⟨#[]⟩ else ⟨#[49]⟩) else if k = 2 then ⟨(Lib.itoa n).toArray⟩ else t
def numP (k n : Int) (t : ByteArray) : Option Int := if k = 2 then some n else if k = 3 then numericL t.data.toList else none
def cmpT (a b : ByteArray) : Int := Lib.compareBytes a.data.toList b.data.toList
/-- The order of two plain values. -/
def orderP (k n : Int) (t : ByteArray) (k' n' : Int) (t' : ByteArray) : Int :=
  if k = 1 ∨ k' = 1 then truthsI (truthK k n t 0) (truthK k' n' t' 0)
  else if k = 0 ∧ k' = 3 then cmpT ⟨#[]⟩ t'
  else if k = 3 ∧ k' = 0 then cmpT t ⟨#[]⟩
  else if k = 0 ∨ k' = 0 then truthsI (truthK k n t 0) (truthK k' n' t' 0)
  else match numP k n t, numP k' n' t' with
    | some m, some m' => cmpI m m'
    | _, _ => cmpT (textP k n t) (textP k' n' t')
end Dp
end Go.Proofs.YthdnflklhhfojaaGreatDoor
