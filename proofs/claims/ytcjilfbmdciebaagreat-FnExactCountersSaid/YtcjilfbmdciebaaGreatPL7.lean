/-
  What functions of the program compute, as Lean functions. No condition. Written by a program (gen2.py).
-/
import Derived.Test.YtcjilfbmdciebaaGreatP12
namespace Go.Stp
set_option linter.unusedVariables false
set_option linter.unusedSimpArgs false
def laws_FnExactHarmless (aW : Network) (aE : EventP) : Bool :=
  bif decide ((laws_szNetwork aW 1048576) < 0) then
    true
  else
    bif decide ((laws_szEvent aE (laws_szNetwork aW 1048576)) < 0) then
      true
    else
      bif (!((impl_Harmless (laws_toNetwork aW) (laws_toEvent aE)) == (spec_Harmless (laws_toNetwork aW) (laws_toEvent aE)))) then
        false
      else
        bif (!(laws_eqNetwork (laws_toNetwork aW) (laws_toNetwork aW))) then
          false
        else
          bif (!(laws_eqEvent (laws_toEvent aE) (laws_toEvent aE))) then
            false
          else
            true
def laws_FnExactCounters (aW : Network) : Bool :=
  bif decide ((laws_szNetwork aW 1048576) < 0) then
    true
  else
    bif (!(laws_eqIntS (impl_Counters (laws_toNetwork aW)) (spec_Counters (laws_toNetwork aW)))) then
      false
    else
      bif (!(laws_eqNetwork (laws_toNetwork aW) (laws_toNetwork aW))) then
        false
      else
        bif decide ((laws_markNetwork (laws_toNetwork aW) 1).1 < 0) then
          false
        else
          bif decide ((laws_heldIntS ((laws_markIntS (impl_Counters (laws_toNetwork aW)) 1).2) 1) < 0) then
            false
          else
            bif ((laws_heldIntS ((laws_markIntS (impl_Counters (laws_toNetwork aW)) 1).2) 1) != (laws_markIntS (impl_Counters (laws_toNetwork aW)) 1).1) then
              false
            else
              true
end Go.Stp
