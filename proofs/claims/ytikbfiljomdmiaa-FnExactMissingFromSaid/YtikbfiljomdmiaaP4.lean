/-
  What functions of the program compute, as Lean functions. No condition. Written by a program (gen2.py).
-/
import Derived.Test.YtikbfiljomdmiaaP3
namespace Go.Stp
set_option linter.unusedVariables false
set_option linter.unusedSimpArgs false
def laws_markText_L1 (k2 : Int) (out : Str) : Int × Str :=
  if k2 > 0 then
    laws_markText_L1 (IntKind.i64.wrap (Int.tdiv k2 10)) ((bstr ([(toU8 (IntKind.i64.wrap (48 + (Int.tmod k2 10))))])) ++ out)
  else
    (k2, out)
termination_by k2.toNat
decreasing_by exact wrap_quo10 ‹_›
def laws_markText (k : Int) : Str :=
  bif decide (k ≤ 0) then
    (⟨#[109, 48]⟩ : Str)
  else
    match laws_markText_L1 k (⟨#[]⟩ : Str) with
      | (k2, out) =>
        ((⟨#[109]⟩ : Str) ++ out)
def laws_markStringS_L1 : Nat → Nat → (List Str) → Int → (List Str) × Int
  | 0, i, a2, k2 => (((a2) : List Str), k2)
  | m_ + 1, i, a2, k2 =>
    match (a2)[i]? with
      | none => default
      | some e1 =>
        laws_markStringS_L1 m_ (i + 1) (((a2.set i (laws_markText k2))) : List Str) (IntKind.i64.wrap (k2 + 1))
def laws_markStringS (a : (List Str)) (k : Int) : Int × (List Str) :=
  match laws_markStringS_L1 ((a).length) 0 (a : List Str) k with
    | (a2, k2) =>
      (k2, a2)
def laws_markByteS_L1 : Nat → Nat → (List UInt8) → Int → (List UInt8) × Int
  | 0, i, a2, k2 => (((a2) : List UInt8), k2)
  | m_ + 1, i, a2, k2 =>
    match (a2)[i]? with
      | none => default
      | some e1 =>
        laws_markByteS_L1 m_ (i + 1) (((a2.set i (toU8 k2))) : List UInt8) (IntKind.i64.wrap (k2 + 1))
def laws_markByteS (a : (List UInt8)) (k : Int) : Int × (List UInt8) :=
  match laws_markByteS_L1 ((a).length) 0 (a : List UInt8) k with
    | (a2, k2) =>
      (k2, a2)
def laws_markName (a : Name) (k : Int) : Int × Name :=
  (((laws_markStringS a.parts k).1), (Name.mk ((laws_markStringS a.parts k).2)))
def laws_markTableEntryS_L1 : Nat → Nat → (List TableEntry) → Int → (List TableEntry) × Int
  | 0, i, a2, k2 => (((a2) : List TableEntry), k2)
  | m_ + 1, i, a2, k2 =>
    match (a2)[i]? with
      | none => default
      | some e1 =>
        laws_markTableEntryS_L1 m_ (i + 1) (((a2.set i (TableEntry.mk (Name.mk ((laws_markStringS e1.name.parts k2).2)) ((laws_markStringS e1.name.parts k2).1)))) : List TableEntry) (IntKind.i64.wrap (((laws_markStringS e1.name.parts k2).1) + 1))
def laws_markTableEntryS (a : (List TableEntry)) (k : Int) : Int × (List TableEntry) :=
  match laws_markTableEntryS_L1 ((a).length) 0 (a : List TableEntry) k with
    | (a2, k2) =>
      (k2, a2)
def laws_markStateVector (a : StateVector) (k : Int) : Int × StateVector :=
  (((laws_markTableEntryS a.entries k).1), (StateVector.mk ((laws_markTableEntryS a.entries k).2)))
def laws_markRecordS_L1 : Nat → Nat → (List Record) → Int → (List Record) × Int
  | 0, i, a2, k2 => (((a2) : List Record), k2)
  | m_ + 1, i, a2, k2 =>
    match (a2)[i]? with
      | none => default
      | some e1 =>
        laws_markRecordS_L1 m_ (i + 1) (((a2.set i (Record.mk k2 (DataP.mk (Name.mk ((laws_markStringS e1.data.name.parts (IntKind.i64.wrap (k2 + 1))).2)) ((laws_markByteS e1.data.content ((laws_markStringS e1.data.name.parts (IntKind.i64.wrap (k2 + 1))).1)).2) (Name.mk ((laws_markStringS e1.data.keyName.parts ((laws_markByteS e1.data.content ((laws_markStringS e1.data.name.parts (IntKind.i64.wrap (k2 + 1))).1)).1)).2)) ((laws_markStringS e1.data.keyName.parts ((laws_markByteS e1.data.content ((laws_markStringS e1.data.name.parts (IntKind.i64.wrap (k2 + 1))).1)).1)).1) (IntKind.i64.wrap (((laws_markStringS e1.data.keyName.parts ((laws_markByteS e1.data.content ((laws_markStringS e1.data.name.parts (IntKind.i64.wrap (k2 + 1))).1)).1)).1) + 1)))))) : List Record) (IntKind.i64.wrap ((IntKind.i64.wrap (((laws_markStringS e1.data.keyName.parts ((laws_markByteS e1.data.content ((laws_markStringS e1.data.name.parts (IntKind.i64.wrap (k2 + 1))).1)).1)).1) + 1)) + 1))
def laws_markRecordS (a : (List Record)) (k : Int) : Int × (List Record) :=
  match laws_markRecordS_L1 ((a).length) 0 (a : List Record) k with
    | (a2, k2) =>
      (k2, a2)
def laws_markLog (a : Log) (k : Int) : Int × Log :=
  (((laws_markRecordS a.volatile ((laws_markRecordS a.durable k).1)).1), (Log.mk ((laws_markRecordS a.durable k).2) ((laws_markRecordS a.volatile ((laws_markRecordS a.durable k).1)).2)))
def laws_markRepository (a : Repository) (k : Int) : Int × Repository :=
  (((laws_markLog a.log k).1), (Repository.mk ((laws_markLog a.log k).2) a.quota))
def laws_markPublicationS_L1 : Nat → Nat → (List Publication) → Int → (List Publication) × Int
  | 0, i, a2, k2 => (((a2) : List Publication), k2)
  | m_ + 1, i, a2, k2 =>
    match (a2)[i]? with
      | none => default
      | some e1 =>
        laws_markPublicationS_L1 m_ (i + 1) (((a2.set i (Publication.mk (Name.mk ((laws_markStringS e1.publisher.parts k2).2)) ((laws_markStringS e1.publisher.parts k2).1) ((laws_markByteS e1.content (IntKind.i64.wrap (((laws_markStringS e1.publisher.parts k2).1) + 1))).2)))) : List Publication) ((laws_markByteS e1.content (IntKind.i64.wrap (((laws_markStringS e1.publisher.parts k2).1) + 1))).1)
def laws_markPublicationS (a : (List Publication)) (k : Int) : Int × (List Publication) :=
  match laws_markPublicationS_L1 ((a).length) 0 (a : List Publication) k with
    | (a2, k2) =>
      (k2, a2)
def laws_markMember (a : Member) (k : Int) : Int × Member :=
  (((laws_markPublicationS a.publications ((laws_markStateVector a.vector ((laws_markName a.name k).1)).1)).1), (Member.mk ((laws_markName a.name k).2) ((laws_markStateVector a.vector ((laws_markName a.name k).1)).2) ((laws_markPublicationS a.publications ((laws_markStateVector a.vector ((laws_markName a.name k).1)).1)).2)))
def laws_markDataS_L1 : Nat → Nat → (List DataP) → Int → (List DataP) × Int
  | 0, i, a2, k2 => (((a2) : List DataP), k2)
  | m_ + 1, i, a2, k2 =>
    match (a2)[i]? with
      | none => default
      | some e1 =>
        laws_markDataS_L1 m_ (i + 1) (((a2.set i (DataP.mk (Name.mk ((laws_markStringS e1.name.parts k2).2)) ((laws_markByteS e1.content ((laws_markStringS e1.name.parts k2).1)).2) (Name.mk ((laws_markStringS e1.keyName.parts ((laws_markByteS e1.content ((laws_markStringS e1.name.parts k2).1)).1)).2)) ((laws_markStringS e1.keyName.parts ((laws_markByteS e1.content ((laws_markStringS e1.name.parts k2).1)).1)).1) (IntKind.i64.wrap (((laws_markStringS e1.keyName.parts ((laws_markByteS e1.content ((laws_markStringS e1.name.parts k2).1)).1)).1) + 1))))) : List DataP) (IntKind.i64.wrap ((IntKind.i64.wrap (((laws_markStringS e1.keyName.parts ((laws_markByteS e1.content ((laws_markStringS e1.name.parts k2).1)).1)).1) + 1)) + 1))
def laws_markDataS (a : (List DataP)) (k : Int) : Int × (List DataP) :=
  match laws_markDataS_L1 ((a).length) 0 (a : List DataP) k with
    | (a2, k2) =>
      (k2, a2)
def laws_heldStringS_L1 : List Str → Int → Ctl (Int) (Int)
  | [], k2 => (Ctl.nxt k2)
  | e1 :: rest_, k2 =>
    bif (!((e1).toList == ((laws_markText k2)).toList)) then
      (Ctl.ret (-1))
    else
      laws_heldStringS_L1 rest_ (IntKind.i64.wrap (k2 + 1))
def laws_heldStringS (a : (List Str)) (k : Int) : Int :=
  match laws_heldStringS_L1 a k with
    | .ret r_ => r_
    | .nxt k2 =>
      k2
def laws_heldByteS_L1 : List UInt8 → Int → Ctl (Int) (Int)
  | [], k2 => (Ctl.nxt k2)
  | e1 :: rest_, k2 =>
    bif (((e1).toNat : Int) != ((toU8 k2).toNat : Int)) then
      (Ctl.ret (-1))
    else
      laws_heldByteS_L1 rest_ (IntKind.i64.wrap (k2 + 1))
def laws_heldByteS (a : (List UInt8)) (k : Int) : Int :=
  match laws_heldByteS_L1 a k with
    | .ret r_ => r_
    | .nxt k2 =>
      k2
def laws_heldTableEntryS_L1 : List TableEntry → Int → Ctl (Int) (Int)
  | [], k2 => (Ctl.nxt k2)
  | e1 :: rest_, k2 =>
    bif decide ((laws_heldStringS e1.name.parts k2) < 0) then
      (Ctl.ret (-1))
    else
      bif (e1.value != (laws_heldStringS e1.name.parts k2)) then
        (Ctl.ret (-1))
      else
        laws_heldTableEntryS_L1 rest_ (IntKind.i64.wrap ((laws_heldStringS e1.name.parts k2) + 1))
def laws_heldTableEntryS (a : (List TableEntry)) (k : Int) : Int :=
  match laws_heldTableEntryS_L1 a k with
    | .ret r_ => r_
    | .nxt k2 =>
      k2
def laws_heldRecordS_L1 : List Record → Int → Ctl (Int) (Int)
  | [], k2 => (Ctl.nxt k2)
  | e1 :: rest_, k2 =>
    bif (e1.kind != k2) then
      (Ctl.ret (-1))
    else
      bif decide ((laws_heldStringS e1.data.name.parts (IntKind.i64.wrap (k2 + 1))) < 0) then
        (Ctl.ret (-1))
      else
        bif decide ((laws_heldByteS e1.data.content (laws_heldStringS e1.data.name.parts (IntKind.i64.wrap (k2 + 1)))) < 0) then
          (Ctl.ret (-1))
        else
          bif decide ((laws_heldStringS e1.data.keyName.parts (laws_heldByteS e1.data.content (laws_heldStringS e1.data.name.parts (IntKind.i64.wrap (k2 + 1))))) < 0) then
            (Ctl.ret (-1))
          else
            bif (e1.data.freshUntil != (laws_heldStringS e1.data.keyName.parts (laws_heldByteS e1.data.content (laws_heldStringS e1.data.name.parts (IntKind.i64.wrap (k2 + 1)))))) then
              (Ctl.ret (-1))
            else
              bif (e1.data.signature != IntKind.i64.wrap ((laws_heldStringS e1.data.keyName.parts (laws_heldByteS e1.data.content (laws_heldStringS e1.data.name.parts (IntKind.i64.wrap (k2 + 1))))) + 1)) then
                (Ctl.ret (-1))
              else
                laws_heldRecordS_L1 rest_ (IntKind.i64.wrap ((IntKind.i64.wrap ((laws_heldStringS e1.data.keyName.parts (laws_heldByteS e1.data.content (laws_heldStringS e1.data.name.parts (IntKind.i64.wrap (k2 + 1))))) + 1)) + 1))
def laws_heldRecordS (a : (List Record)) (k : Int) : Int :=
  match laws_heldRecordS_L1 a k with
    | .ret r_ => r_
    | .nxt k2 =>
      k2
def laws_heldLog (a : Log) (k : Int) : Int :=
  bif decide ((laws_heldRecordS a.durable k) < 0) then
    (-1)
  else
    bif decide ((laws_heldRecordS a.volatile (laws_heldRecordS a.durable k)) < 0) then
      (-1)
    else
      (laws_heldRecordS a.volatile (laws_heldRecordS a.durable k))
def laws_heldRepository (a : Repository) (k : Int) : Int :=
  bif decide ((laws_heldLog a.log k) < 0) then
    (-1)
  else
    (laws_heldLog a.log k)
def laws_heldDataS_L1 : List DataP → Int → Ctl (Int) (Int)
  | [], k2 => (Ctl.nxt k2)
  | e1 :: rest_, k2 =>
    bif decide ((laws_heldStringS e1.name.parts k2) < 0) then
      (Ctl.ret (-1))
    else
      bif decide ((laws_heldByteS e1.content (laws_heldStringS e1.name.parts k2)) < 0) then
        (Ctl.ret (-1))
      else
        bif decide ((laws_heldStringS e1.keyName.parts (laws_heldByteS e1.content (laws_heldStringS e1.name.parts k2))) < 0) then
          (Ctl.ret (-1))
        else
          bif (e1.freshUntil != (laws_heldStringS e1.keyName.parts (laws_heldByteS e1.content (laws_heldStringS e1.name.parts k2)))) then
            (Ctl.ret (-1))
          else
            bif (e1.signature != IntKind.i64.wrap ((laws_heldStringS e1.keyName.parts (laws_heldByteS e1.content (laws_heldStringS e1.name.parts k2))) + 1)) then
              (Ctl.ret (-1))
            else
              laws_heldDataS_L1 rest_ (IntKind.i64.wrap ((IntKind.i64.wrap ((laws_heldStringS e1.keyName.parts (laws_heldByteS e1.content (laws_heldStringS e1.name.parts k2))) + 1)) + 1))
def laws_heldDataS (a : (List DataP)) (k : Int) : Int :=
  match laws_heldDataS_L1 a k with
    | .ret r_ => r_
    | .nxt k2 =>
      k2
end Go.Stp
