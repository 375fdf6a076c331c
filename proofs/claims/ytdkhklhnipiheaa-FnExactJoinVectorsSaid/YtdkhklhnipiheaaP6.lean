/-
  What functions of the program compute, as Lean functions. No condition. Written by a program (gen2.py).
-/
import Derived.Test.YtdkhklhnipiheaaP5
namespace Go.Stp
set_option linter.unusedVariables false
set_option linter.unusedSimpArgs false
def impl_ValidPart_L1 : List UInt8 → Option (Bool)
  | [] => none
  | e1 :: rest_ =>
    bif decide (((e1).toNat : Int) ≥ 97) then
      bif decide (((e1).toNat : Int) ≤ 122) then
        impl_ValidPart_L1 rest_
      else
        bif decide (((e1).toNat : Int) ≥ 48) then
          bif decide (((e1).toNat : Int) ≤ 57) then
            impl_ValidPart_L1 rest_
          else
            bif (!(((e1).toNat : Int) == 45)) then
              (some false)
            else
              impl_ValidPart_L1 rest_
        else
          bif (!(((e1).toNat : Int) == 45)) then
            (some false)
          else
            impl_ValidPart_L1 rest_
    else
      bif decide (((e1).toNat : Int) ≥ 48) then
        bif decide (((e1).toNat : Int) ≤ 57) then
          impl_ValidPart_L1 rest_
        else
          bif (!(((e1).toNat : Int) == 45)) then
            (some false)
          else
            impl_ValidPart_L1 rest_
      else
        bif (!(((e1).toNat : Int) == 45)) then
          (some false)
        else
          impl_ValidPart_L1 rest_
def impl_ValidPart (s : Str) : Bool :=
  match impl_ValidPart_L1 ((s).data.toList) with
    | some r_ => r_
    | none =>
      (impl_InRange (((s).size : Nat) : Int) 1 8)
def spec_ValidPart_L1 : List UInt8 → Option (Bool)
  | [] => none
  | e1 :: rest_ =>
    bif (!(spec_l1In ((e1).toNat : Int) 97 122)) then
      bif (!(spec_l1In ((e1).toNat : Int) 48 57)) then
        bif (((e1).toNat : Int) != 45) then
          (some false)
        else
          spec_ValidPart_L1 rest_
      else
        spec_ValidPart_L1 rest_
    else
      spec_ValidPart_L1 rest_
def spec_ValidPart (s : Str) : Bool :=
  bif (!(spec_l1In (((s).size : Nat) : Int) 1 8)) then
    false
  else
    match spec_ValidPart_L1 ((s).data.toList) with
      | some r_ => r_
      | none =>
        true
def slices_IndexFunc_string_L1 (fq : Str → Bool) : List Str → Nat → Option (Int)
  | [], i => none
  | e1 :: rest_, i =>
    bif fq e1 then
      (some ((i : Nat) : Int))
    else
      slices_IndexFunc_string_L1 fq rest_ (i + 1)
def slices_IndexFunc_string (s : (List Str)) (fq : Str → Bool) : Int :=
  match slices_IndexFunc_string_L1 fq s 0 with
    | some r_ => r_
    | none =>
      (-1)
def slices_ContainsFunc_string (s : (List Str)) (fq : Str → Bool) : Bool :=
  (decide ((slices_IndexFunc_string s fq) ≥ 0))
def impl_ValidName_c1 (p_ : Str) : Bool :=
  (!(impl_ValidPart p_))
def impl_ValidName (n_ : Name) : Bool :=
  bif decide ((((n_.parts).length : Nat) : Int) ≤ 6) then
    (!(slices_ContainsFunc_string n_.parts (fun e0_ => (impl_ValidName_c1 e0_))))
  else
    false
def spec_ValidName_L1 : List Str → Option (Bool)
  | [] => none
  | e1 :: rest_ =>
    bif (!(spec_ValidPart e1)) then
      (some false)
    else
      spec_ValidName_L1 rest_
def spec_ValidName (n_ : Name) : Bool :=
  match spec_ValidName_L1 n_.parts with
    | some r_ => r_
    | none =>
      (decide ((((n_.parts).length : Nat) : Int) ≤ 6))
def impl_ValidData (x_ : DataP) : Bool :=
  bif (impl_ValidName x_.name) then
    bif decide ((((x_.name.parts).length : Nat) : Int) > 0) then
      bif decide ((((x_.content).length : Nat) : Int) ≤ 60) then
        bif (impl_ValidName x_.keyName) then
          bif (impl_InRange x_.freshUntil 0 100000) then
            (impl_InRange x_.signature 0 2147483646)
          else
            false
        else
          false
      else
        false
    else
      false
  else
    false
def spec_ValidData (x_ : DataP) : Bool :=
  bif (spec_ValidName x_.name) then
    bif decide ((((x_.name.parts).length : Nat) : Int) > 0) then
      bif decide ((((x_.content).length : Nat) : Int) ≤ 60) then
        bif (spec_ValidName x_.keyName) then
          bif (spec_l1In x_.freshUntil 0 100000) then
            (spec_l1In x_.signature 0 2147483646)
          else
            false
        else
          false
      else
        false
    else
      false
  else
    false
def impl_ValidRecord (r : Record) : Bool :=
  bif (r.kind == 1) then
    (impl_ValidData r.data)
  else
    bif (r.kind == 2) then
      bif (impl_ValidName r.data.name) then
        bif decide ((((r.data.name.parts).length : Nat) : Int) > 0) then
          (impl_EqualData r.data (DataP.mk r.data.name ([]) (Name.mk ([])) 0 0))
        else
          false
      else
        false
    else
      false
def spec_ValidRecord (r : Record) : Bool :=
  bif (r.kind == 1) then
    (spec_ValidData r.data)
  else
    bif (r.kind == 2) then
      bif (spec_ValidName r.data.name) then
        bif decide ((((r.data.name.parts).length : Nat) : Int) > 0) then
          (spec_EqualData r.data (DataP.mk r.data.name ([]) (Name.mk ([])) 0 0))
        else
          false
      else
        false
    else
      false
def slices_IndexFunc_Record_L1 (fq : Record → Bool) : List Record → Nat → Option (Int)
  | [], i => none
  | e1 :: rest_, i =>
    bif fq e1 then
      (some ((i : Nat) : Int))
    else
      slices_IndexFunc_Record_L1 fq rest_ (i + 1)
def slices_IndexFunc_Record (s : (List Record)) (fq : Record → Bool) : Int :=
  match slices_IndexFunc_Record_L1 fq s 0 with
    | some r_ => r_
    | none =>
      (-1)
def slices_ContainsFunc_Record (s : (List Record)) (fq : Record → Bool) : Bool :=
  (decide ((slices_IndexFunc_Record s fq) ≥ 0))
def impl_ValidLog_c1 (r : Record) : Bool :=
  (!(impl_ValidRecord r))
def impl_ValidLog (l : Log) : Bool :=
  bif decide ((((l.durable).length : Nat) : Int) + (((l.volatile).length : Nat) : Int) ≤ 40) then
    bif (!(slices_ContainsFunc_Record l.durable (fun e0_ => (impl_ValidLog_c1 e0_)))) then
      (!(slices_ContainsFunc_Record l.volatile (fun e0_ => (impl_ValidLog_c1 e0_))))
    else
      false
  else
    false
def spec_ValidLog_L2 : List Record → Option (Bool)
  | [] => none
  | e2 :: rest_ =>
    bif (!(spec_ValidRecord e2)) then
      (some false)
    else
      spec_ValidLog_L2 rest_
def spec_ValidLog_L1 : List Record → Option (Bool)
  | [] => none
  | e1 :: rest_ =>
    bif (!(spec_ValidRecord e1)) then
      (some false)
    else
      spec_ValidLog_L1 rest_
def spec_ValidLog (l : Log) : Bool :=
  match spec_ValidLog_L1 l.durable with
    | some r_ => r_
    | none =>
      match spec_ValidLog_L2 l.volatile with
        | some r_ => r_
        | none =>
          (decide ((((l.durable).length : Nat) : Int) + (((l.volatile).length : Nat) : Int) ≤ 40))
end Go.Stp
