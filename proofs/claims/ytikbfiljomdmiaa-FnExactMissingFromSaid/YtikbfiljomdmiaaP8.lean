/-
  What functions of the program compute, as Lean functions. No condition. Written by a program (gen2.py).
-/
import Derived.Test.YtikbfiljomdmiaaP7
namespace Go.Stp
set_option linter.unusedVariables false
set_option linter.unusedSimpArgs false
def impl_allRecords (l : Log) : (List Record) :=
  ((impl_copyRecords l.durable) ++ (impl_copyRecords l.volatile))
def impl_FlushLog (l : Log) : Log :=
  (Log.mk (impl_allRecords l) ([]))
def spec_FlushLog (l : Log) : Log :=
  (Log.mk ((spec_l29Recs l.durable) ++ (spec_l29Recs l.volatile)) ([]))
def impl_CrashLog (l : Log) (n_ : Int) : Log :=
  (Log.mk ((impl_copyRecords l.durable) ++ (impl_copyRecords (List.take (Int.toNat (max 0 (min n_ (((l.volatile).length : Nat) : Int)))) l.volatile))) ([]))
def spec_CrashLog (l : Log) (n_ : Int) : Log :=
  (Log.mk ((spec_l29Recs l.durable) ++ (spec_l29Recs (List.take (Int.toNat (spec_Max 0 (spec_Min n_ (((l.volatile).length : Nat) : Int)))) l.volatile))) ([]))
def impl_indexOfName_c1 (n_ : Name) (e_ : TableEntry) : Bool :=
  (impl_EqualNames e_.name n_)
def impl_indexOfName (l : (List TableEntry)) (n_ : Name) : Int :=
  (slices_IndexFunc_TableEntry l (fun e0_ => (impl_indexOfName_c1 n_ e0_)))
def spec_l6Find_L1 (n_ : Name) : List TableEntry → Nat → Option (Int)
  | [], i => none
  | e1 :: rest_, i =>
    bif (spec_EqualNames e1.name n_) then
      (some ((i : Nat) : Int))
    else
      spec_l6Find_L1 n_ rest_ (i + 1)
def spec_l6Find (l : (List TableEntry)) (n_ : Name) : Int :=
  match spec_l6Find_L1 n_ l 0 with
    | some r_ => r_
    | none =>
      (-1)
def impl_LookupEntry (l : (List TableEntry)) (n_ : Name) : Int × Bool :=
  bif decide ((impl_indexOfName l n_) < 0) then
    (0, false)
  else
    match (l)[((impl_indexOfName l n_)).toNat]? with
      | none => default
      | some e1 =>
        (e1.value, true)
def spec_LookupEntry (l : (List TableEntry)) (n_ : Name) : Int × Bool :=
  bif decide ((spec_l6Find l n_) < 0) then
    (0, false)
  else
    match (l)[((spec_l6Find l n_)).toNat]? with
      | none => default
      | some e1 =>
        (e1.value, true)
def impl_SeqOf (v : StateVector) (n_ : Name) : Int :=
  ((impl_LookupEntry v.entries n_).1)
def spec_SeqOf (v : StateVector) (n_ : Name) : Int :=
  ((spec_LookupEntry v.entries n_).1)
def impl_NewerThan_L2 (a : StateVector) (e1 : TableEntry) (out2 : List TableEntry) (k : Int) : (List TableEntry) × Int :=
  if k < (impl_SeqOf a e1.name) then
    if (((out2).length : Nat) : Int) < 20 then
      impl_NewerThan_L2 a e1 (((out2 ++ [(TableEntry.mk (impl_copyName e1.name) (IntKind.i64.wrap (k + 1)))])) : List TableEntry) (IntKind.i64.wrap (k + 1))
    else
      (((out2) : List TableEntry), k)
  else
    (((out2) : List TableEntry), k)
termination_by 20 - out2.length
decreasing_by all_goals (simp only [List.length_append, List.length_cons, List.length_nil]; omega)
def impl_NewerThan_L1 (a : StateVector) (b : StateVector) : List TableEntry → (List TableEntry) → (List TableEntry)
  | [], out => ((out) : List TableEntry)
  | e1 :: rest_, out =>
    match impl_NewerThan_L2 a e1 (out : List TableEntry) (impl_SeqOf b e1.name) with
      | (out2, k) =>
        impl_NewerThan_L1 a b rest_ ((out2) : List TableEntry)
def impl_NewerThan (a : StateVector) (b : StateVector) : (List TableEntry) :=
  match impl_NewerThan_L1 a b a.entries ([] : List TableEntry) with
    | out =>
      out
def spec_NewerThan_L2 (a : StateVector) (e1 : TableEntry) (out2 : List TableEntry) (k : Int) : (List TableEntry) × Int :=
  if k < (spec_SeqOf a e1.name) then
    if (((out2).length : Nat) : Int) < 20 then
      spec_NewerThan_L2 a e1 (((out2 ++ [(TableEntry.mk (spec_l4Copy e1.name) (IntKind.i64.wrap (k + 1)))])) : List TableEntry) (IntKind.i64.wrap (k + 1))
    else
      (((out2) : List TableEntry), k)
  else
    (((out2) : List TableEntry), k)
termination_by 20 - out2.length
decreasing_by all_goals (simp only [List.length_append, List.length_cons, List.length_nil]; omega)
def spec_NewerThan_L1 (a : StateVector) (b : StateVector) : List TableEntry → (List TableEntry) → (List TableEntry)
  | [], out => ((out) : List TableEntry)
  | e1 :: rest_, out =>
    match spec_NewerThan_L2 a e1 (out : List TableEntry) (spec_SeqOf b e1.name) with
      | (out2, k) =>
        spec_NewerThan_L1 a b rest_ ((out2) : List TableEntry)
def spec_NewerThan (a : StateVector) (b : StateVector) : (List TableEntry) :=
  match spec_NewerThan_L1 a b a.entries ([] : List TableEntry) with
    | out =>
      out
end Go.Stp
