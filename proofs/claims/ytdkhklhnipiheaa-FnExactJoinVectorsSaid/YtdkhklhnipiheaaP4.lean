/-
  What functions of the program compute, as Lean functions. No condition. Written by a program (gen2.py).
-/
import Derived.Test.YtdkhklhnipiheaaP3t
namespace Go.Stp
set_option linter.unusedVariables false
set_option linter.unusedSimpArgs false
def laws_markText_L1 (k2 : Int) (out : Str) : Int × Str :=
  if k2 > 0 then
    laws_markText_L1 (IntKind.i64.wrap (Int.tdiv k2 10)) ((bstr ([(toU8 (IntKind.i64.wrap (48 + (Int.tmod k2 10))))])) ++ out)
  else
    (k2, out)
termination_by k2.toNat
decreasing_by exact wrap_quo10 ‹_›
def laws_markText (k : Int) : Str :=
  bif decide (k ≤ 0) then
    (⟨#[109, 48]⟩ : Str)
  else
    match laws_markText_L1 k (⟨#[]⟩ : Str) with
      | (k2, out) =>
        ((⟨#[109]⟩ : Str) ++ out)
def laws_markStringS_L1 : Nat → Nat → (List Str) → Int → (List Str) × Int
  | 0, i, a2, k2 => (((a2) : List Str), k2)
  | m_ + 1, i, a2, k2 =>
    match (a2)[i]? with
      | none => default
      | some e1 =>
        laws_markStringS_L1 m_ (i + 1) (((a2.set i (laws_markText k2))) : List Str) (IntKind.i64.wrap (k2 + 1))
def laws_markStringS (a : (List Str)) (k : Int) : Int × (List Str) :=
  match laws_markStringS_L1 ((a).length) 0 (a : List Str) k with
    | (a2, k2) =>
      (k2, a2)
def laws_markTableEntryS_L1 : Nat → Nat → (List TableEntry) → Int → (List TableEntry) × Int
  | 0, i, a2, k2 => (((a2) : List TableEntry), k2)
  | m_ + 1, i, a2, k2 =>
    match (a2)[i]? with
      | none => default
      | some e1 =>
        laws_markTableEntryS_L1 m_ (i + 1) (((a2.set i (TableEntry.mk (Name.mk ((laws_markStringS e1.name.parts k2).2)) ((laws_markStringS e1.name.parts k2).1)))) : List TableEntry) (IntKind.i64.wrap (((laws_markStringS e1.name.parts k2).1) + 1))
def laws_markTableEntryS (a : (List TableEntry)) (k : Int) : Int × (List TableEntry) :=
  match laws_markTableEntryS_L1 ((a).length) 0 (a : List TableEntry) k with
    | (a2, k2) =>
      (k2, a2)
def laws_markStateVector (a : StateVector) (k : Int) : Int × StateVector :=
  (((laws_markTableEntryS a.entries k).1), (StateVector.mk ((laws_markTableEntryS a.entries k).2)))
def laws_markByteS_L1 : Nat → Nat → (List UInt8) → Int → (List UInt8) × Int
  | 0, i, a2, k2 => (((a2) : List UInt8), k2)
  | m_ + 1, i, a2, k2 =>
    match (a2)[i]? with
      | none => default
      | some e1 =>
        laws_markByteS_L1 m_ (i + 1) (((a2.set i (toU8 k2))) : List UInt8) (IntKind.i64.wrap (k2 + 1))
def laws_markByteS (a : (List UInt8)) (k : Int) : Int × (List UInt8) :=
  match laws_markByteS_L1 ((a).length) 0 (a : List UInt8) k with
    | (a2, k2) =>
      (k2, a2)
def laws_markRecordS_L1 : Nat → Nat → (List Record) → Int → (List Record) × Int
  | 0, i, a2, k2 => (((a2) : List Record), k2)
  | m_ + 1, i, a2, k2 =>
    match (a2)[i]? with
      | none => default
      | some e1 =>
        laws_markRecordS_L1 m_ (i + 1) (((a2.set i (Record.mk k2 (DataP.mk (Name.mk ((laws_markStringS e1.data.name.parts (IntKind.i64.wrap (k2 + 1))).2)) ((laws_markByteS e1.data.content ((laws_markStringS e1.data.name.parts (IntKind.i64.wrap (k2 + 1))).1)).2) (Name.mk ((laws_markStringS e1.data.keyName.parts ((laws_markByteS e1.data.content ((laws_markStringS e1.data.name.parts (IntKind.i64.wrap (k2 + 1))).1)).1)).2)) ((laws_markStringS e1.data.keyName.parts ((laws_markByteS e1.data.content ((laws_markStringS e1.data.name.parts (IntKind.i64.wrap (k2 + 1))).1)).1)).1) (IntKind.i64.wrap (((laws_markStringS e1.data.keyName.parts ((laws_markByteS e1.data.content ((laws_markStringS e1.data.name.parts (IntKind.i64.wrap (k2 + 1))).1)).1)).1) + 1)))))) : List Record) (IntKind.i64.wrap ((IntKind.i64.wrap (((laws_markStringS e1.data.keyName.parts ((laws_markByteS e1.data.content ((laws_markStringS e1.data.name.parts (IntKind.i64.wrap (k2 + 1))).1)).1)).1) + 1)) + 1))
def laws_markRecordS (a : (List Record)) (k : Int) : Int × (List Record) :=
  match laws_markRecordS_L1 ((a).length) 0 (a : List Record) k with
    | (a2, k2) =>
      (k2, a2)
def laws_markLog (a : Log) (k : Int) : Int × Log :=
  (((laws_markRecordS a.volatile ((laws_markRecordS a.durable k).1)).1), (Log.mk ((laws_markRecordS a.durable k).2) ((laws_markRecordS a.volatile ((laws_markRecordS a.durable k).1)).2)))
def laws_markRepository (a : Repository) (k : Int) : Int × Repository :=
  (((laws_markLog a.log k).1), (Repository.mk ((laws_markLog a.log k).2) a.quota))
def laws_markName (a : Name) (k : Int) : Int × Name :=
  (((laws_markStringS a.parts k).1), (Name.mk ((laws_markStringS a.parts k).2)))
end Go.Stp
