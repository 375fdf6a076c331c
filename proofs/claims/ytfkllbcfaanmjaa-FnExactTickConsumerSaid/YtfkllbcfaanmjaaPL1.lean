/-
  What functions of the program compute, as Lean functions. No condition. Written by a program (gen2.py).
-/
import Derived.Test.YtfkllbcfaanmjaaP4
namespace Go.Stp
set_option linter.unusedVariables false
set_option linter.unusedSimpArgs false
def laws_FnExactNewConsumer (aNode : Int) (aI : Int) (aN : Name) : Bool :=
  bif decide ((laws_szName aN 1048576) < 0) then
    true
  else
    bif (!(laws_eqConsumer (impl_NewConsumer aNode aI (laws_toName aN)) (spec_NewConsumer aNode aI (laws_toName aN)))) then
      false
    else
      bif (!(laws_eqName (laws_toName aN) (laws_toName aN))) then
        false
      else
        bif decide ((laws_markName (laws_toName aN) 1).1 < 0) then
          false
        else
          bif decide ((laws_heldConsumer ((laws_markConsumer (impl_NewConsumer aNode aI (laws_toName aN)) 1).2) 1) < 0) then
            false
          else
            bif ((laws_heldConsumer ((laws_markConsumer (impl_NewConsumer aNode aI (laws_toName aN)) 1).2) 1) != (laws_markConsumer (impl_NewConsumer aNode aI (laws_toName aN)) 1).1) then
              false
            else
              true
def laws_FnExactNewMember (aName : Name) : Bool :=
  bif decide ((laws_szName aName 1048576) < 0) then
    true
  else
    bif (!(laws_eqMember (impl_NewMember (laws_toName aName)) (spec_NewMember (laws_toName aName)))) then
      false
    else
      bif (!(laws_eqName (laws_toName aName) (laws_toName aName))) then
        false
      else
        bif decide ((laws_markName (laws_toName aName) 1).1 < 0) then
          false
        else
          bif decide ((laws_heldMember ((laws_markMember (impl_NewMember (laws_toName aName)) 1).2) 1) < 0) then
            false
          else
            bif ((laws_heldMember ((laws_markMember (impl_NewMember (laws_toName aName)) 1).2) 1) != (laws_markMember (impl_NewMember (laws_toName aName)) 1).1) then
              false
            else
              true
def laws_FnExactNewRepository (aQuota : Int) : Bool :=
  bif (!(laws_eqRepository (impl_NewRepository aQuota) (spec_NewRepository aQuota))) then
    false
  else
    bif decide ((laws_heldRepository ((laws_markRepository (impl_NewRepository aQuota) 1).2) 1) < 0) then
      false
    else
      bif ((laws_heldRepository ((laws_markRepository (impl_NewRepository aQuota) 1).2) 1) != (laws_markRepository (impl_NewRepository aQuota) 1).1) then
        false
      else
        true
def laws_FnExactTickConsumer (aA : Consumer) : Bool :=
  bif decide ((laws_szConsumer aA 1048576) < 0) then
    true
  else
    bif (!(laws_eqConsumer ((impl_TickConsumer (laws_toConsumer aA)).1) ((spec_TickConsumer (laws_toConsumer aA)).1))) then
      false
    else
      bif (!(laws_eqInterest ((impl_TickConsumer (laws_toConsumer aA)).2.1) ((spec_TickConsumer (laws_toConsumer aA)).2.1))) then
        false
      else
        bif (!(((impl_TickConsumer (laws_toConsumer aA)).2.2) == ((spec_TickConsumer (laws_toConsumer aA)).2.2))) then
          false
        else
          bif (!(laws_eqConsumer (laws_toConsumer aA) (laws_toConsumer aA))) then
            false
          else
            bif decide ((laws_markConsumer (laws_toConsumer aA) 1).1 < 0) then
              false
            else
              bif decide ((laws_heldConsumer ((laws_markConsumer ((impl_TickConsumer (laws_toConsumer aA)).1) 1).2) 1) < 0) then
                false
              else
                bif decide ((laws_heldInterest ((laws_markInterest ((impl_TickConsumer (laws_toConsumer aA)).2.1) ((laws_markConsumer ((impl_TickConsumer (laws_toConsumer aA)).1) 1).1)).2) (laws_heldConsumer ((laws_markConsumer ((impl_TickConsumer (laws_toConsumer aA)).1) 1).2) 1)) < 0) then
                  false
                else
                  bif ((laws_heldInterest ((laws_markInterest ((impl_TickConsumer (laws_toConsumer aA)).2.1) ((laws_markConsumer ((impl_TickConsumer (laws_toConsumer aA)).1) 1).1)).2) (laws_heldConsumer ((laws_markConsumer ((impl_TickConsumer (laws_toConsumer aA)).1) 1).2) 1)) != (laws_markInterest ((impl_TickConsumer (laws_toConsumer aA)).2.1) ((laws_markConsumer ((impl_TickConsumer (laws_toConsumer aA)).1) 1).1)).1) then
                    false
                  else
                    true
end Go.Stp
