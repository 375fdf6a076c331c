/-
  What functions of the program compute, as Lean functions. No condition. Written by a program (gen2.py).
-/
import Derived.Test.YtikbfiljomdmiaaP2
namespace Go.Stp
set_option linter.unusedVariables false
set_option linter.unusedSimpArgs false
def laws_szStringS_L1 : List Str → Int → Ctl (Int) (Int)
  | [], left2 => (Ctl.nxt left2)
  | e1 :: rest_, left2 =>
    bif decide (IntKind.i64.wrap (left2 - (((e1).size : Nat) : Int)) < 0) then
      (Ctl.ret (-1))
    else
      laws_szStringS_L1 rest_ (IntKind.i64.wrap (left2 - (((e1).size : Nat) : Int)))
def laws_szStringS (a : (List Str)) (left : Int) : Int :=
  bif decide (IntKind.i64.wrap (left - (((a).length : Nat) : Int)) < 0) then
    (-1)
  else
    match laws_szStringS_L1 a (IntKind.i64.wrap (left - (((a).length : Nat) : Int))) with
      | .ret r_ => r_
      | .nxt left2 =>
        left2
def laws_szByteS (a : (List UInt8)) (left : Int) : Int :=
  bif decide (IntKind.i64.wrap (left - (((a).length : Nat) : Int)) < 0) then
    (-1)
  else
    (IntKind.i64.wrap (left - (((a).length : Nat) : Int)))
def laws_szName (a : Name) (left : Int) : Int :=
  bif decide ((laws_szStringS a.parts left) < 0) then
    (-1)
  else
    (laws_szStringS a.parts left)
def laws_szTableEntry (a : TableEntry) (left : Int) : Int :=
  bif decide ((laws_szName a.name left) < 0) then
    (-1)
  else
    (laws_szName a.name left)
def laws_szTableEntryS_L1 : List TableEntry → Int → Ctl (Int) (Int)
  | [], left2 => (Ctl.nxt left2)
  | e1 :: rest_, left2 =>
    bif decide ((laws_szTableEntry e1 left2) < 0) then
      (Ctl.ret (-1))
    else
      laws_szTableEntryS_L1 rest_ (laws_szTableEntry e1 left2)
def laws_szTableEntryS (a : (List TableEntry)) (left : Int) : Int :=
  bif decide (IntKind.i64.wrap (left - (((a).length : Nat) : Int)) < 0) then
    (-1)
  else
    match laws_szTableEntryS_L1 a (IntKind.i64.wrap (left - (((a).length : Nat) : Int))) with
      | .ret r_ => r_
      | .nxt left2 =>
        left2
def laws_szStateVector (a : StateVector) (left : Int) : Int :=
  bif decide ((laws_szTableEntryS a.entries left) < 0) then
    (-1)
  else
    (laws_szTableEntryS a.entries left)
def laws_szData (a : DataP) (left : Int) : Int :=
  bif decide ((laws_szName a.name left) < 0) then
    (-1)
  else
    bif decide ((laws_szByteS a.content (laws_szName a.name left)) < 0) then
      (-1)
    else
      bif decide ((laws_szName a.keyName (laws_szByteS a.content (laws_szName a.name left))) < 0) then
        (-1)
      else
        (laws_szName a.keyName (laws_szByteS a.content (laws_szName a.name left)))
def laws_szRecord (a : Record) (left : Int) : Int :=
  bif decide ((laws_szData a.data left) < 0) then
    (-1)
  else
    (laws_szData a.data left)
def laws_szRecordS_L1 : List Record → Int → Ctl (Int) (Int)
  | [], left2 => (Ctl.nxt left2)
  | e1 :: rest_, left2 =>
    bif decide ((laws_szRecord e1 left2) < 0) then
      (Ctl.ret (-1))
    else
      laws_szRecordS_L1 rest_ (laws_szRecord e1 left2)
def laws_szRecordS (a : (List Record)) (left : Int) : Int :=
  bif decide (IntKind.i64.wrap (left - (((a).length : Nat) : Int)) < 0) then
    (-1)
  else
    match laws_szRecordS_L1 a (IntKind.i64.wrap (left - (((a).length : Nat) : Int))) with
      | .ret r_ => r_
      | .nxt left2 =>
        left2
def laws_szLog (a : Log) (left : Int) : Int :=
  bif decide ((laws_szRecordS a.durable left) < 0) then
    (-1)
  else
    bif decide ((laws_szRecordS a.volatile (laws_szRecordS a.durable left)) < 0) then
      (-1)
    else
      (laws_szRecordS a.volatile (laws_szRecordS a.durable left))
def laws_szRepository (a : Repository) (left : Int) : Int :=
  bif decide ((laws_szLog a.log left) < 0) then
    (-1)
  else
    (laws_szLog a.log left)
def laws_szPublication (a : Publication) (left : Int) : Int :=
  bif decide ((laws_szName a.publisher left) < 0) then
    (-1)
  else
    bif decide ((laws_szByteS a.content (laws_szName a.publisher left)) < 0) then
      (-1)
    else
      (laws_szByteS a.content (laws_szName a.publisher left))
def laws_szPublicationS_L1 : List Publication → Int → Ctl (Int) (Int)
  | [], left2 => (Ctl.nxt left2)
  | e1 :: rest_, left2 =>
    bif decide ((laws_szPublication e1 left2) < 0) then
      (Ctl.ret (-1))
    else
      laws_szPublicationS_L1 rest_ (laws_szPublication e1 left2)
def laws_szPublicationS (a : (List Publication)) (left : Int) : Int :=
  bif decide (IntKind.i64.wrap (left - (((a).length : Nat) : Int)) < 0) then
    (-1)
  else
    match laws_szPublicationS_L1 a (IntKind.i64.wrap (left - (((a).length : Nat) : Int))) with
      | .ret r_ => r_
      | .nxt left2 =>
        left2
def laws_szMember (a : Member) (left : Int) : Int :=
  bif decide ((laws_szName a.name left) < 0) then
    (-1)
  else
    bif decide ((laws_szStateVector a.vector (laws_szName a.name left)) < 0) then
      (-1)
    else
      bif decide ((laws_szPublicationS a.publications (laws_szStateVector a.vector (laws_szName a.name left))) < 0) then
        (-1)
      else
        (laws_szPublicationS a.publications (laws_szStateVector a.vector (laws_szName a.name left)))
def laws_eqStringS_L1 (b : (List Str)) : List Str → Nat → Option (Bool)
  | [], i => none
  | e1 :: rest_, i =>
    match (b)[i]? with
      | none => default
      | some e2 =>
        bif (!((e1).toList == (e2).toList)) then
          (some false)
        else
          laws_eqStringS_L1 b rest_ (i + 1)
def laws_eqStringS (a : (List Str)) (b : (List Str)) : Bool :=
  bif ((((a).length : Nat) : Int) != (((b).length : Nat) : Int)) then
    false
  else
    match laws_eqStringS_L1 b a 0 with
      | some r_ => r_
      | none =>
        true
def laws_eqByteS_L1 (b : (List UInt8)) : List UInt8 → Nat → Option (Bool)
  | [], i => none
  | e1 :: rest_, i =>
    match (b)[i]? with
      | none => default
      | some e2 =>
        bif (((e1).toNat : Int) != ((e2).toNat : Int)) then
          (some false)
        else
          laws_eqByteS_L1 b rest_ (i + 1)
def laws_eqByteS (a : (List UInt8)) (b : (List UInt8)) : Bool :=
  bif ((((a).length : Nat) : Int) != (((b).length : Nat) : Int)) then
    false
  else
    match laws_eqByteS_L1 b a 0 with
      | some r_ => r_
      | none =>
        true
def laws_eqName (a : Name) (b : Name) : Bool :=
  bif (!(laws_eqStringS a.parts b.parts)) then
    false
  else
    true
def laws_eqTableEntry (a : TableEntry) (b : TableEntry) : Bool :=
  bif (!(laws_eqName a.name b.name)) then
    false
  else
    bif (a.value != b.value) then
      false
    else
      true
def laws_eqTableEntryS_L1 (b : (List TableEntry)) : List TableEntry → Nat → Option (Bool)
  | [], i => none
  | e1 :: rest_, i =>
    match (b)[i]? with
      | none => default
      | some e2 =>
        bif (!(laws_eqTableEntry e1 e2)) then
          (some false)
        else
          laws_eqTableEntryS_L1 b rest_ (i + 1)
def laws_eqTableEntryS (a : (List TableEntry)) (b : (List TableEntry)) : Bool :=
  bif ((((a).length : Nat) : Int) != (((b).length : Nat) : Int)) then
    false
  else
    match laws_eqTableEntryS_L1 b a 0 with
      | some r_ => r_
      | none =>
        true
def laws_eqStateVector (a : StateVector) (b : StateVector) : Bool :=
  bif (!(laws_eqTableEntryS a.entries b.entries)) then
    false
  else
    true
def laws_eqData (a : DataP) (b : DataP) : Bool :=
  bif (!(laws_eqName a.name b.name)) then
    false
  else
    bif (!(laws_eqByteS a.content b.content)) then
      false
    else
      bif (!(laws_eqName a.keyName b.keyName)) then
        false
      else
        bif (a.freshUntil != b.freshUntil) then
          false
        else
          bif (a.signature != b.signature) then
            false
          else
            true
def laws_eqRecord (a : Record) (b : Record) : Bool :=
  bif (a.kind != b.kind) then
    false
  else
    bif (!(laws_eqData a.data b.data)) then
      false
    else
      true
def laws_eqRecordS_L1 (b : (List Record)) : List Record → Nat → Option (Bool)
  | [], i => none
  | e1 :: rest_, i =>
    match (b)[i]? with
      | none => default
      | some e2 =>
        bif (!(laws_eqRecord e1 e2)) then
          (some false)
        else
          laws_eqRecordS_L1 b rest_ (i + 1)
def laws_eqRecordS (a : (List Record)) (b : (List Record)) : Bool :=
  bif ((((a).length : Nat) : Int) != (((b).length : Nat) : Int)) then
    false
  else
    match laws_eqRecordS_L1 b a 0 with
      | some r_ => r_
      | none =>
        true
def laws_eqLog (a : Log) (b : Log) : Bool :=
  bif (!(laws_eqRecordS a.durable b.durable)) then
    false
  else
    bif (!(laws_eqRecordS a.volatile b.volatile)) then
      false
    else
      true
def laws_eqRepository (a : Repository) (b : Repository) : Bool :=
  bif (!(laws_eqLog a.log b.log)) then
    false
  else
    bif (a.quota != b.quota) then
      false
    else
      true
def laws_eqPublication (a : Publication) (b : Publication) : Bool :=
  bif (!(laws_eqName a.publisher b.publisher)) then
    false
  else
    bif (a.seq != b.seq) then
      false
    else
      bif (!(laws_eqByteS a.content b.content)) then
        false
      else
        true
def laws_eqPublicationS_L1 (b : (List Publication)) : List Publication → Nat → Option (Bool)
  | [], i => none
  | e1 :: rest_, i =>
    match (b)[i]? with
      | none => default
      | some e2 =>
        bif (!(laws_eqPublication e1 e2)) then
          (some false)
        else
          laws_eqPublicationS_L1 b rest_ (i + 1)
def laws_eqPublicationS (a : (List Publication)) (b : (List Publication)) : Bool :=
  bif ((((a).length : Nat) : Int) != (((b).length : Nat) : Int)) then
    false
  else
    match laws_eqPublicationS_L1 b a 0 with
      | some r_ => r_
      | none =>
        true
def laws_eqMember (a : Member) (b : Member) : Bool :=
  bif (!(laws_eqName a.name b.name)) then
    false
  else
    bif (!(laws_eqStateVector a.vector b.vector)) then
      false
    else
      bif (!(laws_eqPublicationS a.publications b.publications)) then
        false
      else
        true
def laws_eqDataS_L1 (b : (List DataP)) : List DataP → Nat → Option (Bool)
  | [], i => none
  | e1 :: rest_, i =>
    match (b)[i]? with
      | none => default
      | some e2 =>
        bif (!(laws_eqData e1 e2)) then
          (some false)
        else
          laws_eqDataS_L1 b rest_ (i + 1)
def laws_eqDataS (a : (List DataP)) (b : (List DataP)) : Bool :=
  bif ((((a).length : Nat) : Int) != (((b).length : Nat) : Int)) then
    false
  else
    match laws_eqDataS_L1 b a 0 with
      | some r_ => r_
      | none =>
        true
def laws_toStringS_L1 : List Str → Nat → (List Str) → (List Str)
  | [], i, out => ((out) : List Str)
  | e1 :: rest_, i, out =>
    match (out)[i]? with
      | none => default
      | some e2 =>
        laws_toStringS_L1 rest_ (i + 1) (((out.set i e1)) : List Str)
def laws_toStringS (a : (List Str)) : (List Str) :=
  match laws_toStringS_L1 a 0 ((List.replicate ((a).length) (⟨#[]⟩ : Str)) : List Str) with
    | out =>
      out
def laws_toByteS_L1 : List UInt8 → Nat → (List UInt8) → (List UInt8)
  | [], i, out => ((out) : List UInt8)
  | e1 :: rest_, i, out =>
    match (out)[i]? with
      | none => default
      | some e2 =>
        laws_toByteS_L1 rest_ (i + 1) (((out.set i e1)) : List UInt8)
def laws_toByteS (a : (List UInt8)) : (List UInt8) :=
  match laws_toByteS_L1 a 0 ((List.replicate ((a).length) (0 : UInt8)) : List UInt8) with
    | out =>
      out
def laws_toName (a : Name) : Name :=
  (Name.mk (laws_toStringS a.parts))
def laws_toTableEntry (a : TableEntry) : TableEntry :=
  (TableEntry.mk (laws_toName a.name) a.value)
def laws_toTableEntryS_L1 : List TableEntry → Nat → (List TableEntry) → (List TableEntry)
  | [], i, out => ((out) : List TableEntry)
  | e1 :: rest_, i, out =>
    match (out)[i]? with
      | none => default
      | some e2 =>
        laws_toTableEntryS_L1 rest_ (i + 1) (((out.set i (laws_toTableEntry e1))) : List TableEntry)
def laws_toTableEntryS (a : (List TableEntry)) : (List TableEntry) :=
  match laws_toTableEntryS_L1 a 0 ((List.replicate ((a).length) (TableEntry.mk (Name.mk ([])) 0)) : List TableEntry) with
    | out =>
      out
def laws_toStateVector (a : StateVector) : StateVector :=
  (StateVector.mk (laws_toTableEntryS a.entries))
def laws_toData (a : DataP) : DataP :=
  (DataP.mk (laws_toName a.name) (laws_toByteS a.content) (laws_toName a.keyName) a.freshUntil a.signature)
def laws_toRecord (a : Record) : Record :=
  (Record.mk a.kind (laws_toData a.data))
def laws_toRecordS_L1 : List Record → Nat → (List Record) → (List Record)
  | [], i, out => ((out) : List Record)
  | e1 :: rest_, i, out =>
    match (out)[i]? with
      | none => default
      | some e2 =>
        laws_toRecordS_L1 rest_ (i + 1) (((out.set i (laws_toRecord e1))) : List Record)
def laws_toRecordS (a : (List Record)) : (List Record) :=
  match laws_toRecordS_L1 a 0 ((List.replicate ((a).length) (Record.mk 0 (DataP.mk (Name.mk ([])) ([]) (Name.mk ([])) 0 0))) : List Record) with
    | out =>
      out
def laws_toLog (a : Log) : Log :=
  (Log.mk (laws_toRecordS a.durable) (laws_toRecordS a.volatile))
def laws_toRepository (a : Repository) : Repository :=
  (Repository.mk (laws_toLog a.log) a.quota)
def laws_toPublication (a : Publication) : Publication :=
  (Publication.mk (laws_toName a.publisher) a.seq (laws_toByteS a.content))
def laws_toPublicationS_L1 : List Publication → Nat → (List Publication) → (List Publication)
  | [], i, out => ((out) : List Publication)
  | e1 :: rest_, i, out =>
    match (out)[i]? with
      | none => default
      | some e2 =>
        laws_toPublicationS_L1 rest_ (i + 1) (((out.set i (laws_toPublication e1))) : List Publication)
def laws_toPublicationS (a : (List Publication)) : (List Publication) :=
  match laws_toPublicationS_L1 a 0 ((List.replicate ((a).length) (Publication.mk (Name.mk ([])) 0 ([]))) : List Publication) with
    | out =>
      out
def laws_toMember (a : Member) : Member :=
  (Member.mk (laws_toName a.name) (laws_toStateVector a.vector) (laws_toPublicationS a.publications))
end Go.Stp
