/-
  What functions of the program compute, as Lean functions. No condition. Written by a program (gen2.py).
-/
import Derived.Test.YtikbfiljomdmiabP10
namespace Go.Stp
set_option linter.unusedVariables false
set_option linter.unusedSimpArgs false
def laws_FnExactValidMember (aM : Member) : Bool :=
  bif decide ((laws_szMember aM 1048576) < 0) then
    true
  else
    bif (!((impl_ValidMember (laws_toMember aM)) == (spec_ValidMember (laws_toMember aM)))) then
      false
    else
      bif (!(laws_eqMember (laws_toMember aM) (laws_toMember aM))) then
        false
      else
        true
end Go.Stp
