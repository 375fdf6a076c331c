/-
  What functions of the program compute, as Lean functions. No condition. Written by a program (gen2.py).
-/
import Derived.Test.YtdkhklhnipiheaaP4
namespace Go.Stp
set_option linter.unusedVariables false
set_option linter.unusedSimpArgs false
def laws_heldByteS_L1 : List UInt8 → Int → Ctl (Int) (Int)
  | [], k2 => (Ctl.nxt k2)
  | e1 :: rest_, k2 =>
    bif (((e1).toNat : Int) != ((toU8 k2).toNat : Int)) then
      (Ctl.ret (-1))
    else
      laws_heldByteS_L1 rest_ (IntKind.i64.wrap (k2 + 1))
def laws_heldByteS (a : (List UInt8)) (k : Int) : Int :=
  match laws_heldByteS_L1 a k with
    | .ret r_ => r_
    | .nxt k2 =>
      k2
def laws_heldStringS_L1 : List Str → Int → Ctl (Int) (Int)
  | [], k2 => (Ctl.nxt k2)
  | e1 :: rest_, k2 =>
    bif (!((e1).toList == ((laws_markText k2)).toList)) then
      (Ctl.ret (-1))
    else
      laws_heldStringS_L1 rest_ (IntKind.i64.wrap (k2 + 1))
def laws_heldStringS (a : (List Str)) (k : Int) : Int :=
  match laws_heldStringS_L1 a k with
    | .ret r_ => r_
    | .nxt k2 =>
      k2
def laws_heldTableEntryS_L1 : List TableEntry → Int → Ctl (Int) (Int)
  | [], k2 => (Ctl.nxt k2)
  | e1 :: rest_, k2 =>
    bif decide ((laws_heldStringS e1.name.parts k2) < 0) then
      (Ctl.ret (-1))
    else
      bif (e1.value != (laws_heldStringS e1.name.parts k2)) then
        (Ctl.ret (-1))
      else
        laws_heldTableEntryS_L1 rest_ (IntKind.i64.wrap ((laws_heldStringS e1.name.parts k2) + 1))
def laws_heldTableEntryS (a : (List TableEntry)) (k : Int) : Int :=
  match laws_heldTableEntryS_L1 a k with
    | .ret r_ => r_
    | .nxt k2 =>
      k2
def laws_heldStateVector (a : StateVector) (k : Int) : Int :=
  bif decide ((laws_heldTableEntryS a.entries k) < 0) then
    (-1)
  else
    (laws_heldTableEntryS a.entries k)
def laws_heldRecordS_L1 : List Record → Int → Ctl (Int) (Int)
  | [], k2 => (Ctl.nxt k2)
  | e1 :: rest_, k2 =>
    bif (e1.kind != k2) then
      (Ctl.ret (-1))
    else
      bif decide ((laws_heldStringS e1.data.name.parts (IntKind.i64.wrap (k2 + 1))) < 0) then
        (Ctl.ret (-1))
      else
        bif decide ((laws_heldByteS e1.data.content (laws_heldStringS e1.data.name.parts (IntKind.i64.wrap (k2 + 1)))) < 0) then
          (Ctl.ret (-1))
        else
          bif decide ((laws_heldStringS e1.data.keyName.parts (laws_heldByteS e1.data.content (laws_heldStringS e1.data.name.parts (IntKind.i64.wrap (k2 + 1))))) < 0) then
            (Ctl.ret (-1))
          else
            bif (e1.data.freshUntil != (laws_heldStringS e1.data.keyName.parts (laws_heldByteS e1.data.content (laws_heldStringS e1.data.name.parts (IntKind.i64.wrap (k2 + 1)))))) then
              (Ctl.ret (-1))
            else
              bif (e1.data.signature != IntKind.i64.wrap ((laws_heldStringS e1.data.keyName.parts (laws_heldByteS e1.data.content (laws_heldStringS e1.data.name.parts (IntKind.i64.wrap (k2 + 1))))) + 1)) then
                (Ctl.ret (-1))
              else
                laws_heldRecordS_L1 rest_ (IntKind.i64.wrap ((IntKind.i64.wrap ((laws_heldStringS e1.data.keyName.parts (laws_heldByteS e1.data.content (laws_heldStringS e1.data.name.parts (IntKind.i64.wrap (k2 + 1))))) + 1)) + 1))
def laws_heldRecordS (a : (List Record)) (k : Int) : Int :=
  match laws_heldRecordS_L1 a k with
    | .ret r_ => r_
    | .nxt k2 =>
      k2
def laws_heldLog (a : Log) (k : Int) : Int :=
  bif decide ((laws_heldRecordS a.durable k) < 0) then
    (-1)
  else
    bif decide ((laws_heldRecordS a.volatile (laws_heldRecordS a.durable k)) < 0) then
      (-1)
    else
      (laws_heldRecordS a.volatile (laws_heldRecordS a.durable k))
def laws_heldRepository (a : Repository) (k : Int) : Int :=
  bif decide ((laws_heldLog a.log k) < 0) then
    (-1)
  else
    (laws_heldLog a.log k)
end Go.Stp
