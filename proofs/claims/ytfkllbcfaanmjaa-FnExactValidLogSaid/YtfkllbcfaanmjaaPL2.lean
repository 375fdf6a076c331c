/-
  What functions of the program compute, as Lean functions. No condition. Written by a program (gen2.py).
-/
import Derived.Test.YtfkllbcfaanmjaaP7
namespace Go.Stp
set_option linter.unusedVariables false
set_option linter.unusedSimpArgs false
def laws_FnExactEqualConsumers (aA : Consumer) (aB : Consumer) : Bool :=
  bif decide ((laws_szConsumer aA 1048576) < 0) then
    true
  else
    bif decide ((laws_szConsumer aB (laws_szConsumer aA 1048576)) < 0) then
      true
    else
      bif (!((impl_EqualConsumers (laws_toConsumer aA) (laws_toConsumer aB)) == (spec_EqualConsumers (laws_toConsumer aA) (laws_toConsumer aB)))) then
        false
      else
        bif (!(laws_eqConsumer (laws_toConsumer aA) (laws_toConsumer aA))) then
          false
        else
          bif (!(laws_eqConsumer (laws_toConsumer aB) (laws_toConsumer aB))) then
            false
          else
            true
def laws_FnExactValidRecord (aR : Record) : Bool :=
  bif decide ((laws_szRecord aR 1048576) < 0) then
    true
  else
    bif (!((impl_ValidRecord (laws_toRecord aR)) == (spec_ValidRecord (laws_toRecord aR)))) then
      false
    else
      bif (!(laws_eqRecord (laws_toRecord aR) (laws_toRecord aR))) then
        false
      else
        true
def laws_FnExactValidVector (aV : StateVector) : Bool :=
  bif decide ((laws_szStateVector aV 1048576) < 0) then
    true
  else
    bif (!((impl_ValidVector (laws_toStateVector aV)) == (spec_ValidVector (laws_toStateVector aV)))) then
      false
    else
      bif (!(laws_eqStateVector (laws_toStateVector aV) (laws_toStateVector aV))) then
        false
      else
        true
def laws_FnExactValidConsumer (aA : Consumer) : Bool :=
  bif decide ((laws_szConsumer aA 1048576) < 0) then
    true
  else
    bif (!((impl_ValidConsumer (laws_toConsumer aA)) == (spec_ValidConsumer (laws_toConsumer aA)))) then
      false
    else
      bif (!(laws_eqConsumer (laws_toConsumer aA) (laws_toConsumer aA))) then
        false
      else
        true
def laws_FnExactValidLog (aL : Log) : Bool :=
  bif decide ((laws_szLog aL 1048576) < 0) then
    true
  else
    bif (!((impl_ValidLog (laws_toLog aL)) == (spec_ValidLog (laws_toLog aL)))) then
      false
    else
      bif (!(laws_eqLog (laws_toLog aL) (laws_toLog aL))) then
        false
      else
        true
end Go.Stp
