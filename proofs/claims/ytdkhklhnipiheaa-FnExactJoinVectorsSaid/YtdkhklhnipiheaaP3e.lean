/-
  What functions of the program compute, as Lean functions. No condition. Written by a program (gen2.py).
-/
import Derived.Test.YtdkhklhnipiheaaP3
namespace Go.Stp
set_option linter.unusedVariables false
set_option linter.unusedSimpArgs false
def laws_eqByteS_L1 (b : (List UInt8)) : List UInt8 → Nat → Option (Bool)
  | [], i => none
  | e1 :: rest_, i =>
    match (b)[i]? with
      | none => default
      | some e2 =>
        bif (((e1).toNat : Int) != ((e2).toNat : Int)) then
          (some false)
        else
          laws_eqByteS_L1 b rest_ (i + 1)
def laws_eqByteS (a : (List UInt8)) (b : (List UInt8)) : Bool :=
  bif ((((a).length : Nat) : Int) != (((b).length : Nat) : Int)) then
    false
  else
    match laws_eqByteS_L1 b a 0 with
      | some r_ => r_
      | none =>
        true
def laws_eqStringS_L1 (b : (List Str)) : List Str → Nat → Option (Bool)
  | [], i => none
  | e1 :: rest_, i =>
    match (b)[i]? with
      | none => default
      | some e2 =>
        bif (!((e1).toList == (e2).toList)) then
          (some false)
        else
          laws_eqStringS_L1 b rest_ (i + 1)
def laws_eqStringS (a : (List Str)) (b : (List Str)) : Bool :=
  bif ((((a).length : Nat) : Int) != (((b).length : Nat) : Int)) then
    false
  else
    match laws_eqStringS_L1 b a 0 with
      | some r_ => r_
      | none =>
        true
def laws_eqName (a : Name) (b : Name) : Bool :=
  bif (!(laws_eqStringS a.parts b.parts)) then
    false
  else
    true
def laws_eqTableEntry (a : TableEntry) (b : TableEntry) : Bool :=
  bif (!(laws_eqName a.name b.name)) then
    false
  else
    bif (a.value != b.value) then
      false
    else
      true
def laws_eqTableEntryS_L1 (b : (List TableEntry)) : List TableEntry → Nat → Option (Bool)
  | [], i => none
  | e1 :: rest_, i =>
    match (b)[i]? with
      | none => default
      | some e2 =>
        bif (!(laws_eqTableEntry e1 e2)) then
          (some false)
        else
          laws_eqTableEntryS_L1 b rest_ (i + 1)
def laws_eqTableEntryS (a : (List TableEntry)) (b : (List TableEntry)) : Bool :=
  bif ((((a).length : Nat) : Int) != (((b).length : Nat) : Int)) then
    false
  else
    match laws_eqTableEntryS_L1 b a 0 with
      | some r_ => r_
      | none =>
        true
def laws_eqStateVector (a : StateVector) (b : StateVector) : Bool :=
  bif (!(laws_eqTableEntryS a.entries b.entries)) then
    false
  else
    true
def laws_eqData (a : DataP) (b : DataP) : Bool :=
  bif (!(laws_eqName a.name b.name)) then
    false
  else
    bif (!(laws_eqByteS a.content b.content)) then
      false
    else
      bif (!(laws_eqName a.keyName b.keyName)) then
        false
      else
        bif (a.freshUntil != b.freshUntil) then
          false
        else
          bif (a.signature != b.signature) then
            false
          else
            true
def laws_eqRecord (a : Record) (b : Record) : Bool :=
  bif (a.kind != b.kind) then
    false
  else
    bif (!(laws_eqData a.data b.data)) then
      false
    else
      true
def laws_eqRecordS_L1 (b : (List Record)) : List Record → Nat → Option (Bool)
  | [], i => none
  | e1 :: rest_, i =>
    match (b)[i]? with
      | none => default
      | some e2 =>
        bif (!(laws_eqRecord e1 e2)) then
          (some false)
        else
          laws_eqRecordS_L1 b rest_ (i + 1)
def laws_eqRecordS (a : (List Record)) (b : (List Record)) : Bool :=
  bif ((((a).length : Nat) : Int) != (((b).length : Nat) : Int)) then
    false
  else
    match laws_eqRecordS_L1 b a 0 with
      | some r_ => r_
      | none =>
        true
def laws_eqLog (a : Log) (b : Log) : Bool :=
  bif (!(laws_eqRecordS a.durable b.durable)) then
    false
  else
    bif (!(laws_eqRecordS a.volatile b.volatile)) then
      false
    else
      true
def laws_eqRepository (a : Repository) (b : Repository) : Bool :=
  bif (!(laws_eqLog a.log b.log)) then
    false
  else
    bif (a.quota != b.quota) then
      false
    else
      true
end Go.Stp
