/-
  What functions of the program compute, as Lean functions. No condition. Written by a program (gen2.py).
-/
import Derived.Test.YtdkhklhnipiheaaP7
namespace Go.Stp
set_option linter.unusedVariables false
set_option linter.unusedSimpArgs false
def impl_allRecords (l : Log) : (List Record) :=
  ((impl_copyRecords l.durable) ++ (impl_copyRecords l.volatile))
def impl_indexOfName_c1 (n_ : Name) (e_ : TableEntry) : Bool :=
  (impl_EqualNames e_.name n_)
def impl_indexOfName (l : (List TableEntry)) (n_ : Name) : Int :=
  (slices_IndexFunc_TableEntry l (fun e0_ => (impl_indexOfName_c1 n_ e0_)))
def spec_l6Find_L1 (n_ : Name) : List TableEntry → Nat → Option (Int)
  | [], i => none
  | e1 :: rest_, i =>
    bif (spec_EqualNames e1.name n_) then
      (some ((i : Nat) : Int))
    else
      spec_l6Find_L1 n_ rest_ (i + 1)
def spec_l6Find (l : (List TableEntry)) (n_ : Name) : Int :=
  match spec_l6Find_L1 n_ l 0 with
    | some r_ => r_
    | none =>
      (-1)
def impl_LookupEntry (l : (List TableEntry)) (n_ : Name) : Int × Bool :=
  bif decide ((impl_indexOfName l n_) < 0) then
    (0, false)
  else
    match (l)[((impl_indexOfName l n_)).toNat]? with
      | none => default
      | some e1 =>
        (e1.value, true)
def spec_LookupEntry (l : (List TableEntry)) (n_ : Name) : Int × Bool :=
  bif decide ((spec_l6Find l n_) < 0) then
    (0, false)
  else
    match (l)[((spec_l6Find l n_)).toNat]? with
      | none => default
      | some e1 =>
        (e1.value, true)
def impl_SeqOf (v : StateVector) (n_ : Name) : Int :=
  ((impl_LookupEntry v.entries n_).1)
def spec_SeqOf (v : StateVector) (n_ : Name) : Int :=
  ((spec_LookupEntry v.entries n_).1)
def impl_copyLog (l : Log) : Log :=
  (Log.mk (impl_copyRecords l.durable) (impl_copyRecords l.volatile))
def spec_l29Copy (l : Log) : Log :=
  (Log.mk (spec_l29Recs l.durable) (spec_l29Recs l.volatile))
end Go.Stp
