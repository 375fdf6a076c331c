/-
  What functions of the program compute, as Lean functions. No condition. Written by a program (gen2.py).
-/
import Derived.Test.YtikbfiljomdmiaaSizes
namespace Go.Stp
set_option linter.unusedVariables false
set_option linter.unusedSimpArgs false
def spec_Min (a : Int) (b : Int) : Int :=
  bif decide (b < a) then
    b
  else
    a
def spec_Max (a : Int) (b : Int) : Int :=
  bif decide (b > a) then
    b
  else
    a
end Go.Stp
