/-
  What functions of the program compute, as Lean functions. No condition. Written by a program (gen2.py).
-/
import Derived.Test.YtcipekdocckfgaaP15
namespace Go.Stp
set_option linter.unusedVariables false
set_option linter.unusedSimpArgs false
def laws_FnExactReplay (aL : (List Record)) : Bool :=
  bif decide ((laws_szRecordS aL 1048576) < 0) then
    true
  else
    bif (!(laws_eqDataS (impl_Replay (laws_toRecordS aL)) (spec_Replay (laws_toRecordS aL)))) then
      false
    else
      bif (!(laws_eqRecordS (laws_toRecordS aL) (laws_toRecordS aL))) then
        false
      else
        bif decide ((laws_markRecordS (laws_toRecordS aL) 1).1 < 0) then
          false
        else
          bif decide ((laws_heldDataS ((laws_markDataS (impl_Replay (laws_toRecordS aL)) 1).2) 1) < 0) then
            false
          else
            bif ((laws_heldDataS ((laws_markDataS (impl_Replay (laws_toRecordS aL)) 1).2) 1) != (laws_markDataS (impl_Replay (laws_toRecordS aL)) 1).1) then
              false
            else
              true
def laws_FnExactLogContents (aL : Log) : Bool :=
  bif decide ((laws_szLog aL 1048576) < 0) then
    true
  else
    bif (!(laws_eqDataS (impl_LogContents (laws_toLog aL)) (spec_LogContents (laws_toLog aL)))) then
      false
    else
      bif (!(laws_eqLog (laws_toLog aL) (laws_toLog aL))) then
        false
      else
        bif decide ((laws_markLog (laws_toLog aL) 1).1 < 0) then
          false
        else
          bif decide ((laws_heldDataS ((laws_markDataS (impl_LogContents (laws_toLog aL)) 1).2) 1) < 0) then
            false
          else
            bif ((laws_heldDataS ((laws_markDataS (impl_LogContents (laws_toLog aL)) 1).2) 1) != (laws_markDataS (impl_LogContents (laws_toLog aL)) 1).1) then
              false
            else
              true
def laws_FnExactValidRepository (aS : Repository) : Bool :=
  bif decide ((laws_szRepository aS 1048576) < 0) then
    true
  else
    bif (!((impl_ValidRepository (laws_toRepository aS)) == (spec_ValidRepository (laws_toRepository aS)))) then
      false
    else
      bif (!(laws_eqRepository (laws_toRepository aS) (laws_toRepository aS))) then
        false
      else
        true
def laws_FnExactCompactLog (aL : Log) : Bool :=
  bif decide ((laws_szLog aL 1048576) < 0) then
    true
  else
    bif (!(laws_eqLog (impl_CompactLog (laws_toLog aL)) (spec_CompactLog (laws_toLog aL)))) then
      false
    else
      bif (!(laws_eqLog (laws_toLog aL) (laws_toLog aL))) then
        false
      else
        bif decide ((laws_markLog (laws_toLog aL) 1).1 < 0) then
          false
        else
          bif decide ((laws_heldLog ((laws_markLog (impl_CompactLog (laws_toLog aL)) 1).2) 1) < 0) then
            false
          else
            bif ((laws_heldLog ((laws_markLog (impl_CompactLog (laws_toLog aL)) 1).2) 1) != (laws_markLog (impl_CompactLog (laws_toLog aL)) 1).1) then
              false
            else
              true
def laws_FnExactRepositoryNames (aS : Repository) : Bool :=
  bif decide ((laws_szRepository aS 1048576) < 0) then
    true
  else
    bif (!(laws_eqNameS (impl_RepositoryNames (laws_toRepository aS)) (spec_RepositoryNames (laws_toRepository aS)))) then
      false
    else
      bif (!(laws_eqRepository (laws_toRepository aS) (laws_toRepository aS))) then
        false
      else
        bif decide ((laws_markRepository (laws_toRepository aS) 1).1 < 0) then
          false
        else
          bif decide ((laws_heldNameS ((laws_markNameS (impl_RepositoryNames (laws_toRepository aS)) 1).2) 1) < 0) then
            false
          else
            bif ((laws_heldNameS ((laws_markNameS (impl_RepositoryNames (laws_toRepository aS)) 1).2) 1) != (laws_markNameS (impl_RepositoryNames (laws_toRepository aS)) 1).1) then
              false
            else
              true
def laws_FnExactLookupData (aS : Repository) (aN : Name) : Bool :=
  bif decide ((laws_szRepository aS 1048576) < 0) then
    true
  else
    bif decide ((laws_szName aN (laws_szRepository aS 1048576)) < 0) then
      true
    else
      bif (!(laws_eqData ((impl_LookupData (laws_toRepository aS) (laws_toName aN)).1) ((spec_LookupData (laws_toRepository aS) (laws_toName aN)).1))) then
        false
      else
        bif (!(((impl_LookupData (laws_toRepository aS) (laws_toName aN)).2) == ((spec_LookupData (laws_toRepository aS) (laws_toName aN)).2))) then
          false
        else
          bif (!(laws_eqRepository (laws_toRepository aS) (laws_toRepository aS))) then
            false
          else
            bif (!(laws_eqName (laws_toName aN) (laws_toName aN))) then
              false
            else
              bif decide ((laws_markName (laws_toName aN) ((laws_markRepository (laws_toRepository aS) 1).1)).1 < 0) then
                false
              else
                bif decide ((laws_heldData ((laws_markData ((impl_LookupData (laws_toRepository aS) (laws_toName aN)).1) 1).2) 1) < 0) then
                  false
                else
                  bif ((laws_heldData ((laws_markData ((impl_LookupData (laws_toRepository aS) (laws_toName aN)).1) 1).2) 1) != (laws_markData ((impl_LookupData (laws_toRepository aS) (laws_toName aN)).1) 1).1) then
                    false
                  else
                    true
def laws_FnExactLostNames (aA : Repository) (aB : Repository) : Bool :=
  bif decide ((laws_szRepository aA 1048576) < 0) then
    true
  else
    bif decide ((laws_szRepository aB (laws_szRepository aA 1048576)) < 0) then
      true
    else
      bif (!(laws_eqNameS (impl_LostNames (laws_toRepository aA) (laws_toRepository aB)) (spec_LostNames (laws_toRepository aA) (laws_toRepository aB)))) then
        false
      else
        bif (!(laws_eqRepository (laws_toRepository aA) (laws_toRepository aA))) then
          false
        else
          bif (!(laws_eqRepository (laws_toRepository aB) (laws_toRepository aB))) then
            false
          else
            bif decide ((laws_markRepository (laws_toRepository aB) ((laws_markRepository (laws_toRepository aA) 1).1)).1 < 0) then
              false
            else
              bif decide ((laws_heldNameS ((laws_markNameS (impl_LostNames (laws_toRepository aA) (laws_toRepository aB)) 1).2) 1) < 0) then
                false
              else
                bif ((laws_heldNameS ((laws_markNameS (impl_LostNames (laws_toRepository aA) (laws_toRepository aB)) 1).2) 1) != (laws_markNameS (impl_LostNames (laws_toRepository aA) (laws_toRepository aB)) 1).1) then
                  false
                else
                  true
def laws_FnExactAppendRecord (aL : Log) (aR : Record) : Bool :=
  bif decide ((laws_szLog aL 1048576) < 0) then
    true
  else
    bif decide ((laws_szRecord aR (laws_szLog aL 1048576)) < 0) then
      true
    else
      bif (!(laws_eqLog ((impl_AppendRecord (laws_toLog aL) (laws_toRecord aR)).1) ((spec_AppendRecord (laws_toLog aL) (laws_toRecord aR)).1))) then
        false
      else
        bif (!(((impl_AppendRecord (laws_toLog aL) (laws_toRecord aR)).2) == ((spec_AppendRecord (laws_toLog aL) (laws_toRecord aR)).2))) then
          false
        else
          bif (!(laws_eqLog (laws_toLog aL) (laws_toLog aL))) then
            false
          else
            bif (!(laws_eqRecord (laws_toRecord aR) (laws_toRecord aR))) then
              false
            else
              bif decide ((laws_markRecord (laws_toRecord aR) ((laws_markLog (laws_toLog aL) 1).1)).1 < 0) then
                false
              else
                bif decide ((laws_heldLog ((laws_markLog ((impl_AppendRecord (laws_toLog aL) (laws_toRecord aR)).1) 1).2) 1) < 0) then
                  false
                else
                  bif ((laws_heldLog ((laws_markLog ((impl_AppendRecord (laws_toLog aL) (laws_toRecord aR)).1) 1).2) 1) != (laws_markLog ((impl_AppendRecord (laws_toLog aL) (laws_toRecord aR)).1) 1).1) then
                    false
                  else
                    true
end Go.Stp
