/-
  What functions of the program compute, as Lean functions. No condition. Written by a program (gen2.py).
-/
import Derived.Test.YtdkhklhnipiheaaP1
namespace Go.Stp
set_option linter.unusedVariables false
set_option linter.unusedSimpArgs false
def impl_copyName (n_ : Name) : Name :=
  n_
def spec_l4Copy (n_ : Name) : Name :=
  n_
def impl_copyData (x_ : DataP) : DataP :=
  (DataP.mk (impl_copyName x_.name) x_.content (impl_copyName x_.keyName) x_.freshUntil x_.signature)
def spec_l8Copy (x_ : DataP) : DataP :=
  (DataP.mk (spec_l4Copy x_.name) x_.content (spec_l4Copy x_.keyName) x_.freshUntil x_.signature)
def impl_copyRecords_L1 : List Record → (List Record) → (List Record)
  | [], out => ((out) : List Record)
  | e1 :: rest_, out =>
    impl_copyRecords_L1 rest_ (((out ++ [(Record.mk e1.kind (impl_copyData e1.data))])) : List Record)
def impl_copyRecords (l : (List Record)) : (List Record) :=
  match impl_copyRecords_L1 l ([] : List Record) with
    | out =>
      out
def spec_l29Recs_L1 : List Record → (List Record) → (List Record)
  | [], out => ((out) : List Record)
  | e1 :: rest_, out =>
    spec_l29Recs_L1 rest_ (((out ++ [(Record.mk e1.kind (spec_l8Copy e1.data))])) : List Record)
def spec_l29Recs (l : (List Record)) : (List Record) :=
  match spec_l29Recs_L1 l ([] : List Record) with
    | out =>
      out
end Go.Stp
