/-
  What functions of the program compute, as Lean functions. No condition. Written by a program (gen2.py).
-/
import Derived.Test.YtdkhklhnipiheaaP16
namespace Go.Stp
set_option linter.unusedVariables false
set_option linter.unusedSimpArgs false
def impl_JoinVectors_L1 : List TableEntry → (List TableEntry) → (List TableEntry)
  | [], out => ((out) : List TableEntry)
  | e1 :: rest_, out =>
    bif decide (e1.value > (impl_SeqOf (StateVector.mk out) e1.name)) then
      impl_JoinVectors_L1 rest_ (((impl_PutEntry out e1.name e1.value).1) : List TableEntry)
    else
      impl_JoinVectors_L1 rest_ ((out) : List TableEntry)
def impl_JoinVectors (a : StateVector) (b : StateVector) : StateVector :=
  match impl_JoinVectors_L1 b.entries ((impl_copyTable a.entries) : List TableEntry) with
    | out =>
      (StateVector.mk out)
def spec_JoinVectors_L1 : List TableEntry → (List TableEntry) → (List TableEntry)
  | [], l => ((l) : List TableEntry)
  | e1 :: rest_, l =>
    bif decide (e1.value > (spec_SeqOf (StateVector.mk l) e1.name)) then
      spec_JoinVectors_L1 rest_ (((spec_PutEntry l e1.name e1.value).1) : List TableEntry)
    else
      spec_JoinVectors_L1 rest_ ((l) : List TableEntry)
def spec_JoinVectors (a : StateVector) (b : StateVector) : StateVector :=
  match spec_JoinVectors_L1 b.entries ((spec_l6Copy a.entries) : List TableEntry) with
    | l =>
      (StateVector.mk l)
end Go.Stp
