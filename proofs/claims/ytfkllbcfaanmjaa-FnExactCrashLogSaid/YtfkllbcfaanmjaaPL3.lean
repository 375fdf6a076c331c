/-
  What functions of the program compute, as Lean functions. No condition. Written by a program (gen2.py).
-/
import Derived.Test.YtfkllbcfaanmjaaP8
namespace Go.Stp
set_option linter.unusedVariables false
set_option linter.unusedSimpArgs false
def laws_FnExactFlushLog (aL : Log) : Bool :=
  bif decide ((laws_szLog aL 1048576) < 0) then
    true
  else
    bif (!(laws_eqLog (impl_FlushLog (laws_toLog aL)) (spec_FlushLog (laws_toLog aL)))) then
      false
    else
      bif (!(laws_eqLog (laws_toLog aL) (laws_toLog aL))) then
        false
      else
        bif decide ((laws_markLog (laws_toLog aL) 1).1 < 0) then
          false
        else
          bif decide ((laws_heldLog ((laws_markLog (impl_FlushLog (laws_toLog aL)) 1).2) 1) < 0) then
            false
          else
            bif ((laws_heldLog ((laws_markLog (impl_FlushLog (laws_toLog aL)) 1).2) 1) != (laws_markLog (impl_FlushLog (laws_toLog aL)) 1).1) then
              false
            else
              true
def laws_FnExactCrashLog (aL : Log) (aN : Int) : Bool :=
  bif decide ((laws_szLog aL 1048576) < 0) then
    true
  else
    bif (!(laws_eqLog (impl_CrashLog (laws_toLog aL) aN) (spec_CrashLog (laws_toLog aL) aN))) then
      false
    else
      bif (!(laws_eqLog (laws_toLog aL) (laws_toLog aL))) then
        false
      else
        bif decide ((laws_markLog (laws_toLog aL) 1).1 < 0) then
          false
        else
          bif decide ((laws_heldLog ((laws_markLog (impl_CrashLog (laws_toLog aL) aN) 1).2) 1) < 0) then
            false
          else
            bif ((laws_heldLog ((laws_markLog (impl_CrashLog (laws_toLog aL) aN) 1).2) 1) != (laws_markLog (impl_CrashLog (laws_toLog aL) aN) 1).1) then
              false
            else
              true
def laws_FnExactNewerThan (aA : StateVector) (aB : StateVector) : Bool :=
  bif decide ((laws_szStateVector aA 1048576) < 0) then
    true
  else
    bif decide ((laws_szStateVector aB (laws_szStateVector aA 1048576)) < 0) then
      true
    else
      bif (!(laws_eqTableEntryS (impl_NewerThan (laws_toStateVector aA) (laws_toStateVector aB)) (spec_NewerThan (laws_toStateVector aA) (laws_toStateVector aB)))) then
        false
      else
        bif (!(laws_eqStateVector (laws_toStateVector aA) (laws_toStateVector aA))) then
          false
        else
          bif (!(laws_eqStateVector (laws_toStateVector aB) (laws_toStateVector aB))) then
            false
          else
            bif decide ((laws_markStateVector (laws_toStateVector aB) ((laws_markStateVector (laws_toStateVector aA) 1).1)).1 < 0) then
              false
            else
              bif decide ((laws_heldTableEntryS ((laws_markTableEntryS (impl_NewerThan (laws_toStateVector aA) (laws_toStateVector aB)) 1).2) 1) < 0) then
                false
              else
                bif ((laws_heldTableEntryS ((laws_markTableEntryS (impl_NewerThan (laws_toStateVector aA) (laws_toStateVector aB)) 1).2) 1) != (laws_markTableEntryS (impl_NewerThan (laws_toStateVector aA) (laws_toStateVector aB)) 1).1) then
                  false
                else
                  true
end Go.Stp
