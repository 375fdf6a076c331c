/-
  What functions of the program compute, as Lean functions. No condition. Written by a program (gen2.py).
-/
import Derived.Test.YtikbfiljomdmiaaP9
namespace Go.Stp
set_option linter.unusedVariables false
set_option linter.unusedSimpArgs false
def laws_FnExactInSync (aA : Member) (aB : Member) : Bool :=
  bif decide ((laws_szMember aA 1048576) < 0) then
    true
  else
    bif decide ((laws_szMember aB (laws_szMember aA 1048576)) < 0) then
      true
    else
      bif (!((impl_InSync (laws_toMember aA) (laws_toMember aB)) == (spec_InSync (laws_toMember aA) (laws_toMember aB)))) then
        false
      else
        bif (!(laws_eqMember (laws_toMember aA) (laws_toMember aA))) then
          false
        else
          bif (!(laws_eqMember (laws_toMember aB) (laws_toMember aB))) then
            false
          else
            true
def laws_FnExactFlushRepository (aS : Repository) : Bool :=
  bif decide ((laws_szRepository aS 1048576) < 0) then
    true
  else
    bif (!(laws_eqRepository (impl_FlushRepository (laws_toRepository aS)) (spec_FlushRepository (laws_toRepository aS)))) then
      false
    else
      bif (!(laws_eqRepository (laws_toRepository aS) (laws_toRepository aS))) then
        false
      else
        bif decide ((laws_markRepository (laws_toRepository aS) 1).1 < 0) then
          false
        else
          bif decide ((laws_heldRepository ((laws_markRepository (impl_FlushRepository (laws_toRepository aS)) 1).2) 1) < 0) then
            false
          else
            bif ((laws_heldRepository ((laws_markRepository (impl_FlushRepository (laws_toRepository aS)) 1).2) 1) != (laws_markRepository (impl_FlushRepository (laws_toRepository aS)) 1).1) then
              false
            else
              true
def laws_FnExactFindPublication (aM : Member) (aN : Name) (aI : Int) : Bool :=
  bif decide ((laws_szMember aM 1048576) < 0) then
    true
  else
    bif decide ((laws_szName aN (laws_szMember aM 1048576)) < 0) then
      true
    else
      bif (!(laws_eqByteS ((impl_FindPublication (laws_toMember aM) (laws_toName aN) aI).1) ((spec_FindPublication (laws_toMember aM) (laws_toName aN) aI).1))) then
        false
      else
        bif (!(((impl_FindPublication (laws_toMember aM) (laws_toName aN) aI).2) == ((spec_FindPublication (laws_toMember aM) (laws_toName aN) aI).2))) then
          false
        else
          bif (!(laws_eqMember (laws_toMember aM) (laws_toMember aM))) then
            false
          else
            bif (!(laws_eqName (laws_toName aN) (laws_toName aN))) then
              false
            else
              bif decide ((laws_markName (laws_toName aN) ((laws_markMember (laws_toMember aM) 1).1)).1 < 0) then
                false
              else
                bif decide ((laws_heldByteS ((laws_markByteS ((impl_FindPublication (laws_toMember aM) (laws_toName aN) aI).1) 1).2) 1) < 0) then
                  false
                else
                  bif ((laws_heldByteS ((laws_markByteS ((impl_FindPublication (laws_toMember aM) (laws_toName aN) aI).1) 1).2) 1) != (laws_markByteS ((impl_FindPublication (laws_toMember aM) (laws_toName aN) aI).1) 1).1) then
                    false
                  else
                    true
def laws_FnExactCrashRepository (aS : Repository) (aN : Int) : Bool :=
  bif decide ((laws_szRepository aS 1048576) < 0) then
    true
  else
    bif (!(laws_eqRepository (impl_CrashRepository (laws_toRepository aS) aN) (spec_CrashRepository (laws_toRepository aS) aN))) then
      false
    else
      bif (!(laws_eqRepository (laws_toRepository aS) (laws_toRepository aS))) then
        false
      else
        bif decide ((laws_markRepository (laws_toRepository aS) 1).1 < 0) then
          false
        else
          bif decide ((laws_heldRepository ((laws_markRepository (impl_CrashRepository (laws_toRepository aS) aN) 1).2) 1) < 0) then
            false
          else
            bif ((laws_heldRepository ((laws_markRepository (impl_CrashRepository (laws_toRepository aS) aN) 1).2) 1) != (laws_markRepository (impl_CrashRepository (laws_toRepository aS) aN) 1).1) then
              false
            else
              true
def laws_FnExactMissingFrom (aM : Member) (aV : StateVector) : Bool :=
  bif decide ((laws_szMember aM 1048576) < 0) then
    true
  else
    bif decide ((laws_szStateVector aV (laws_szMember aM 1048576)) < 0) then
      true
    else
      bif (!(laws_eqTableEntryS (impl_MissingFrom (laws_toMember aM) (laws_toStateVector aV)) (spec_MissingFrom (laws_toMember aM) (laws_toStateVector aV)))) then
        false
      else
        bif (!(laws_eqMember (laws_toMember aM) (laws_toMember aM))) then
          false
        else
          bif (!(laws_eqStateVector (laws_toStateVector aV) (laws_toStateVector aV))) then
            false
          else
            bif decide ((laws_markStateVector (laws_toStateVector aV) ((laws_markMember (laws_toMember aM) 1).1)).1 < 0) then
              false
            else
              bif decide ((laws_heldTableEntryS ((laws_markTableEntryS (impl_MissingFrom (laws_toMember aM) (laws_toStateVector aV)) 1).2) 1) < 0) then
                false
              else
                bif ((laws_heldTableEntryS ((laws_markTableEntryS (impl_MissingFrom (laws_toMember aM) (laws_toStateVector aV)) 1).2) 1) != (laws_markTableEntryS (impl_MissingFrom (laws_toMember aM) (laws_toStateVector aV)) 1).1) then
                  false
                else
                  true
end Go.Stp
