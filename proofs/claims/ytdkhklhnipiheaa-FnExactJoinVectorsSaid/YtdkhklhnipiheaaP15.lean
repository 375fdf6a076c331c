/-
  What functions of the program compute, as Lean functions. No condition. Written by a program (gen2.py).
-/
import Derived.Test.YtdkhklhnipiheaaP14
namespace Go.Stp
set_option linter.unusedVariables false
set_option linter.unusedSimpArgs false
def impl_CompactLog_L1 : List DataP → (List Record) → (List Record)
  | [], out => ((out) : List Record)
  | e1 :: rest_, out =>
    impl_CompactLog_L1 rest_ (((out ++ [(Record.mk 1 e1)])) : List Record)
def impl_CompactLog (l : Log) : Log :=
  match impl_CompactLog_L1 (impl_LogContents l) ([] : List Record) with
    | out =>
      (Log.mk out ([]))
def spec_CompactLog_L1 : List DataP → (List Record) → (List Record)
  | [], out => ((out) : List Record)
  | e1 :: rest_, out =>
    spec_CompactLog_L1 rest_ (((out ++ [(Record.mk 1 e1)])) : List Record)
def spec_CompactLog (l : Log) : Log :=
  match spec_CompactLog_L1 (spec_LogContents l) ([] : List Record) with
    | out =>
      (Log.mk out ([]))
def impl_LookupData_L1 (n_ : Name) : List DataP → Option (DataP × Bool)
  | [] => none
  | e1 :: rest_ =>
    bif (impl_EqualNames e1.name n_) then
      (some (e1, true))
    else
      impl_LookupData_L1 n_ rest_
def impl_LookupData (s : Repository) (n_ : Name) : DataP × Bool :=
  match impl_LookupData_L1 n_ (impl_LogContents s.log) with
    | some r_ => r_
    | none =>
      ((DataP.mk (Name.mk ([])) ([]) (Name.mk ([])) 0 0), false)
def spec_LookupData (s : Repository) (n_ : Name) : DataP × Bool :=
  bif decide ((spec_l16Find (spec_LogContents s.log) n_) < 0) then
    ((DataP.mk (Name.mk ([])) ([]) (Name.mk ([])) 0 0), false)
  else
    match ((spec_LogContents s.log))[((spec_l16Find (spec_LogContents s.log) n_)).toNat]? with
      | none => default
      | some e1 =>
        (e1, true)
def impl_ValidRepository (s : Repository) : Bool :=
  bif (impl_ValidLog s.log) then
    bif (impl_InRange s.quota 0 12) then
      (decide (((((impl_LogContents s.log)).length : Nat) : Int) ≤ s.quota))
    else
      false
  else
    false
def spec_ValidRepository (s : Repository) : Bool :=
  bif (spec_ValidLog s.log) then
    bif (spec_l1In s.quota 0 12) then
      (decide (((((spec_LogContents s.log)).length : Nat) : Int) ≤ s.quota))
    else
      false
  else
    false
def impl_AppendRecord (l : Log) (r : Record) : Log × Bool :=
  bif (!(impl_ValidLog (Log.mk ((impl_copyLog l).durable) ((impl_copyLog l).volatile ++ [(Record.mk r.kind (impl_copyData r.data))])))) then
    ((impl_copyLog l), false)
  else
    ((Log.mk ((impl_copyLog l).durable) ((impl_copyLog l).volatile ++ [(Record.mk r.kind (impl_copyData r.data))])), true)
def spec_AppendRecord (l : Log) (r : Record) : Log × Bool :=
  bif (!(spec_ValidLog (Log.mk ((spec_l29Copy l).durable) ((spec_l29Copy l).volatile ++ [(Record.mk r.kind (spec_l8Copy r.data))])))) then
    ((spec_l29Copy l), false)
  else
    ((Log.mk ((spec_l29Copy l).durable) ((spec_l29Copy l).volatile ++ [(Record.mk r.kind (spec_l8Copy r.data))])), true)
end Go.Stp
