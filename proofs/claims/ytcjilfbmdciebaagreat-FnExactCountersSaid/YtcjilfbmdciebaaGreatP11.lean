/-
  What functions of the program compute, as Lean functions. No condition. Written by a program (gen2.py).
-/
import Derived.Test.YtcjilfbmdciebaaGreatP10
namespace Go.Stp
set_option linter.unusedVariables false
set_option linter.unusedSimpArgs false
def impl_inSet (set_ : Int) (i : Int) : Bool :=
  bif decide (set_ ≥ 0) then
    bif (impl_InRange i 0 30) then
      (bitO .and (Int.fdiv set_ (2 ^ (min (Int.toNat i) 64))) 1 == 1)
    else
      false
  else
    false
def spec_l19In (set_ : Int) (a : Int) : Bool :=
  bif (spec_l1In a 0 30) then
    bif decide (set_ ≥ 0) then
      (bitO .and (Int.fdiv set_ (2 ^ (min (Int.toNat a) 64))) 1 == 1)
    else
      false
  else
    false
def impl_IsUp (w_ : Network) (k : Int) : Bool :=
  bif (impl_InRange k 0 (IntKind.i64.wrap ((((w_.nodes).length : Nat) : Int) - 1))) then
    (!(impl_inSet w_.downNodes k))
  else
    false
def spec_IsUp (w_ : Network) (k : Int) : Bool :=
  bif (spec_l1In k 0 (IntKind.i64.wrap ((((w_.nodes).length : Nat) : Int) - 1))) then
    (!(spec_l19In w_.downNodes k))
  else
    false
end Go.Stp
