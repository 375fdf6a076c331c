/-
  What functions of the program compute, as Lean functions. No condition. Written by a program (gen2.py).
-/
import Derived.Test.YtdkhklhnipiheaaP2
namespace Go.Stp
set_option linter.unusedVariables false
set_option linter.unusedSimpArgs false
def laws_szStringS_L1 : List Str → Int → Ctl (Int) (Int)
  | [], left2 => (Ctl.nxt left2)
  | e1 :: rest_, left2 =>
    bif decide (IntKind.i64.wrap (left2 - (((e1).size : Nat) : Int)) < 0) then
      (Ctl.ret (-1))
    else
      laws_szStringS_L1 rest_ (IntKind.i64.wrap (left2 - (((e1).size : Nat) : Int)))
def laws_szStringS (a : (List Str)) (left : Int) : Int :=
  bif decide (IntKind.i64.wrap (left - (((a).length : Nat) : Int)) < 0) then
    (-1)
  else
    match laws_szStringS_L1 a (IntKind.i64.wrap (left - (((a).length : Nat) : Int))) with
      | .ret r_ => r_
      | .nxt left2 =>
        left2
def laws_szName (a : Name) (left : Int) : Int :=
  bif decide ((laws_szStringS a.parts left) < 0) then
    (-1)
  else
    (laws_szStringS a.parts left)
def laws_szTableEntry (a : TableEntry) (left : Int) : Int :=
  bif decide ((laws_szName a.name left) < 0) then
    (-1)
  else
    (laws_szName a.name left)
def laws_szTableEntryS_L1 : List TableEntry → Int → Ctl (Int) (Int)
  | [], left2 => (Ctl.nxt left2)
  | e1 :: rest_, left2 =>
    bif decide ((laws_szTableEntry e1 left2) < 0) then
      (Ctl.ret (-1))
    else
      laws_szTableEntryS_L1 rest_ (laws_szTableEntry e1 left2)
def laws_szTableEntryS (a : (List TableEntry)) (left : Int) : Int :=
  bif decide (IntKind.i64.wrap (left - (((a).length : Nat) : Int)) < 0) then
    (-1)
  else
    match laws_szTableEntryS_L1 a (IntKind.i64.wrap (left - (((a).length : Nat) : Int))) with
      | .ret r_ => r_
      | .nxt left2 =>
        left2
def laws_szStateVector (a : StateVector) (left : Int) : Int :=
  bif decide ((laws_szTableEntryS a.entries left) < 0) then
    (-1)
  else
    (laws_szTableEntryS a.entries left)
def laws_szByteS (a : (List UInt8)) (left : Int) : Int :=
  bif decide (IntKind.i64.wrap (left - (((a).length : Nat) : Int)) < 0) then
    (-1)
  else
    (IntKind.i64.wrap (left - (((a).length : Nat) : Int)))
def laws_szData (a : DataP) (left : Int) : Int :=
  bif decide ((laws_szName a.name left) < 0) then
    (-1)
  else
    bif decide ((laws_szByteS a.content (laws_szName a.name left)) < 0) then
      (-1)
    else
      bif decide ((laws_szName a.keyName (laws_szByteS a.content (laws_szName a.name left))) < 0) then
        (-1)
      else
        (laws_szName a.keyName (laws_szByteS a.content (laws_szName a.name left)))
def laws_szRecord (a : Record) (left : Int) : Int :=
  bif decide ((laws_szData a.data left) < 0) then
    (-1)
  else
    (laws_szData a.data left)
def laws_szRecordS_L1 : List Record → Int → Ctl (Int) (Int)
  | [], left2 => (Ctl.nxt left2)
  | e1 :: rest_, left2 =>
    bif decide ((laws_szRecord e1 left2) < 0) then
      (Ctl.ret (-1))
    else
      laws_szRecordS_L1 rest_ (laws_szRecord e1 left2)
def laws_szRecordS (a : (List Record)) (left : Int) : Int :=
  bif decide (IntKind.i64.wrap (left - (((a).length : Nat) : Int)) < 0) then
    (-1)
  else
    match laws_szRecordS_L1 a (IntKind.i64.wrap (left - (((a).length : Nat) : Int))) with
      | .ret r_ => r_
      | .nxt left2 =>
        left2
def laws_szLog (a : Log) (left : Int) : Int :=
  bif decide ((laws_szRecordS a.durable left) < 0) then
    (-1)
  else
    bif decide ((laws_szRecordS a.volatile (laws_szRecordS a.durable left)) < 0) then
      (-1)
    else
      (laws_szRecordS a.volatile (laws_szRecordS a.durable left))
def laws_szRepository (a : Repository) (left : Int) : Int :=
  bif decide ((laws_szLog a.log left) < 0) then
    (-1)
  else
    (laws_szLog a.log left)
end Go.Stp
