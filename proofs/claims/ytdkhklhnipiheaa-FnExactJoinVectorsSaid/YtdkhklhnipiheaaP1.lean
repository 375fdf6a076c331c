/-
  What functions of the program compute, as Lean functions. No condition. Written by a program (gen2.py).
-/
import Derived.Test.YtdkhklhnipiheaaSizes
namespace Go.Stp
set_option linter.unusedVariables false
set_option linter.unusedSimpArgs false
def impl_InRange (n_ : Int) (a : Int) (b : Int) : Bool :=
  bif decide (a ≤ n_) then
    (decide (n_ ≤ b))
  else
    false
def spec_l1In (x_ : Int) (least : Int) (most : Int) : Bool :=
  bif decide (x_ ≥ least) then
    (decide (x_ ≤ most))
  else
    false
def impl_NonceOf (node : Int) (i : Int) (try_ : Int) : Int :=
  (IntKind.i64.wrap ((IntKind.i64.wrap ((IntKind.i64.wrap (100000 * node)) + (IntKind.i64.wrap (1000 * i)))) + try_))
end Go.Stp
