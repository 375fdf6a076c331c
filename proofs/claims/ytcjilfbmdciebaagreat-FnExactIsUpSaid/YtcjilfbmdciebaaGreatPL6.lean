/-
  What functions of the program compute, as Lean functions. No condition. Written by a program (gen2.py).
-/
import Derived.Test.YtcjilfbmdciebaaGreatP11
namespace Go.Stp
set_option linter.unusedVariables false
set_option linter.unusedSimpArgs false
def laws_FnExactIsUp (aW : Network) (aK : Int) : Bool :=
  bif decide ((laws_szNetwork aW 1048576) < 0) then
    true
  else
    bif (!((impl_IsUp (laws_toNetwork aW) aK) == (spec_IsUp (laws_toNetwork aW) aK))) then
      false
    else
      bif (!(laws_eqNetwork (laws_toNetwork aW) (laws_toNetwork aW))) then
        false
      else
        true
end Go.Stp
