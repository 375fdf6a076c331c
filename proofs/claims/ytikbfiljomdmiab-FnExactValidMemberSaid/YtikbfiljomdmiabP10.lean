/-
  What functions of the program compute, as Lean functions. No condition. Written by a program (gen2.py).
-/
import Derived.Test.YtikbfiljomdmiabP9
namespace Go.Stp
set_option linter.unusedVariables false
set_option linter.unusedSimpArgs false
def impl_VectorSum_L1 : List TableEntry → Int → Int
  | [], sum_ => sum_
  | e1 :: rest_, sum_ =>
    impl_VectorSum_L1 rest_ (IntKind.i64.wrap (sum_ + e1.value))
def impl_VectorSum (v : StateVector) : Int :=
  match impl_VectorSum_L1 v.entries 0 with
    | sum_ =>
      sum_
def spec_VectorSum_L1 : List TableEntry → Int → Int
  | [], n_ => n_
  | e1 :: rest_, n_ =>
    spec_VectorSum_L1 rest_ (IntKind.i64.wrap (n_ + e1.value))
def spec_VectorSum (v : StateVector) : Int :=
  match spec_VectorSum_L1 v.entries 0 with
    | n_ =>
      n_
def impl_ValidMember_L1 (m : Member) : List Publication → Nat → Option (Bool)
  | [], i => none
  | e1 :: rest_, i =>
    bif (!(impl_InRange e1.seq 1 (impl_SeqOf m.vector e1.publisher))) then
      (some false)
    else
      bif decide ((((e1.content).length : Nat) : Int) > 60) then
        (some false)
      else
        bif decide ((impl_publishedAt (List.take i m.publications) e1.publisher e1.seq) ≥ 0) then
          (some false)
        else
          impl_ValidMember_L1 m rest_ (i + 1)
def impl_ValidMember (m : Member) : Bool :=
  bif (!(impl_ValidName m.name)) then
    false
  else
    bif ((((m.name.parts).length : Nat) : Int) == 0) then
      false
    else
      bif (!(impl_ValidVector m.vector)) then
        false
      else
        bif decide ((((m.publications).length : Nat) : Int) > 16) then
          false
        else
          match impl_ValidMember_L1 m m.publications 0 with
            | some r_ => r_
            | none =>
              ((impl_VectorSum m.vector) == (((m.publications).length : Nat) : Int))
def spec_ValidMember_L1 (m : Member) : List Publication → Nat → Option (Bool)
  | [], i => none
  | e1 :: rest_, i =>
    bif (!(spec_l1In e1.seq 1 (spec_SeqOf m.vector e1.publisher))) then
      (some false)
    else
      bif decide ((((e1.content).length : Nat) : Int) > 60) then
        (some false)
      else
        bif decide ((spec_l28Find (List.take i m.publications) e1.publisher e1.seq) ≥ 0) then
          (some false)
        else
          spec_ValidMember_L1 m rest_ (i + 1)
def spec_ValidMember (m : Member) : Bool :=
  bif (!(spec_ValidName m.name)) then
    false
  else
    bif ((((m.name.parts).length : Nat) : Int) == 0) then
      false
    else
      bif (!(spec_ValidVector m.vector)) then
        false
      else
        bif decide ((((m.publications).length : Nat) : Int) > 16) then
          false
        else
          bif ((((m.publications).length : Nat) : Int) != (spec_VectorSum m.vector)) then
            false
          else
            match spec_ValidMember_L1 m m.publications 0 with
              | some r_ => r_
              | none =>
                true
def impl_copyLog (l : Log) : Log :=
  (Log.mk (impl_copyRecords l.durable) (impl_copyRecords l.volatile))
def spec_l29Copy (l : Log) : Log :=
  (Log.mk (spec_l29Recs l.durable) (spec_l29Recs l.volatile))
end Go.Stp
