/-
  What functions of the program compute, as Lean functions. No condition. Written by a program (gen2.py).
-/
import Derived.Test.YtdkhklhnipiheaaP17
namespace Go.Stp
set_option linter.unusedVariables false
set_option linter.unusedSimpArgs false
def laws_FnExactJoinVectors (aA : StateVector) (aB : StateVector) : Bool :=
  bif decide ((laws_szStateVector aA 1048576) < 0) then
    true
  else
    bif decide ((laws_szStateVector aB (laws_szStateVector aA 1048576)) < 0) then
      true
    else
      bif (!(laws_eqStateVector (impl_JoinVectors (laws_toStateVector aA) (laws_toStateVector aB)) (spec_JoinVectors (laws_toStateVector aA) (laws_toStateVector aB)))) then
        false
      else
        bif (!(laws_eqStateVector (laws_toStateVector aA) (laws_toStateVector aA))) then
          false
        else
          bif (!(laws_eqStateVector (laws_toStateVector aB) (laws_toStateVector aB))) then
            false
          else
            bif decide ((laws_markStateVector (laws_toStateVector aB) ((laws_markStateVector (laws_toStateVector aA) 1).1)).1 < 0) then
              false
            else
              bif decide ((laws_heldStateVector ((laws_markStateVector (impl_JoinVectors (laws_toStateVector aA) (laws_toStateVector aB)) 1).2) 1) < 0) then
                false
              else
                bif ((laws_heldStateVector ((laws_markStateVector (impl_JoinVectors (laws_toStateVector aA) (laws_toStateVector aB)) 1).2) 1) != (laws_markStateVector (impl_JoinVectors (laws_toStateVector aA) (laws_toStateVector aB)) 1).1) then
                  false
                else
                  true
end Go.Stp
