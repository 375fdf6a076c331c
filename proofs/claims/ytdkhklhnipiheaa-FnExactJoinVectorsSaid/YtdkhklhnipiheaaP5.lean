/-
  What functions of the program compute, as Lean functions. No condition. Written by a program (gen2.py).
-/
import Derived.Test.YtdkhklhnipiheaaP4h
namespace Go.Stp
set_option linter.unusedVariables false
set_option linter.unusedSimpArgs false
def slices_Equal_string_L1 (s2 : (List Str)) : List Str → Nat → Option (Bool)
  | [], i => none
  | e1 :: rest_, i =>
    match (s2)[i]? with
      | none => default
      | some e2 =>
        bif (!((e1).toList == (e2).toList)) then
          (some false)
        else
          slices_Equal_string_L1 s2 rest_ (i + 1)
def slices_Equal_string (s1 : (List Str)) (s2 : (List Str)) : Bool :=
  bif ((((s1).length : Nat) : Int) != (((s2).length : Nat) : Int)) then
    false
  else
    match slices_Equal_string_L1 s2 s1 0 with
      | some r_ => r_
      | none =>
        true
def slices_Equal_byte_L1 (s2 : (List UInt8)) : List UInt8 → Nat → Option (Bool)
  | [], i => none
  | e1 :: rest_, i =>
    match (s2)[i]? with
      | none => default
      | some e2 =>
        bif (((e1).toNat : Int) != ((e2).toNat : Int)) then
          (some false)
        else
          slices_Equal_byte_L1 s2 rest_ (i + 1)
def slices_Equal_byte (s1 : (List UInt8)) (s2 : (List UInt8)) : Bool :=
  bif ((((s1).length : Nat) : Int) != (((s2).length : Nat) : Int)) then
    false
  else
    match slices_Equal_byte_L1 s2 s1 0 with
      | some r_ => r_
      | none =>
        true
def impl_EqualNames (a : Name) (b : Name) : Bool :=
  (slices_Equal_string a.parts b.parts)
def spec_l4Cmp (a : Str) (b : Str) : Int :=
  bif (Op.bytesLess (a).toList (b).toList) then
    (-1)
  else
    bif (!(Op.bytesLess (a).toList (b).toList || (a).toList == (b).toList)) then
      1
    else
      0
def spec_CompareNames_L1 (b : Name) : List Str → Nat → Option (Int)
  | [], i => none
  | e1 :: rest_, i =>
    bif decide (((i : Nat) : Int) < (((b.parts).length : Nat) : Int)) then
      match (b.parts)[i]? with
        | none => default
        | some e2 =>
          bif ((spec_l4Cmp e1 e2) != 0) then
            (some (spec_l4Cmp e1 e2))
          else
            spec_CompareNames_L1 b rest_ (i + 1)
    else
      none
def spec_CompareNames (a : Name) (b : Name) : Int :=
  match spec_CompareNames_L1 b a.parts 0 with
    | some r_ => r_
    | none =>
      bif decide ((((a.parts).length : Nat) : Int) < (((b.parts).length : Nat) : Int)) then
        (-1)
      else
        bif decide ((((a.parts).length : Nat) : Int) > (((b.parts).length : Nat) : Int)) then
          1
        else
          0
def spec_EqualNames (a : Name) (b : Name) : Bool :=
  ((spec_CompareNames a b) == 0)
def spec_EqualBytes (a : (List UInt8)) (b : (List UInt8)) : Bool :=
  (((bstr a)).toList == ((bstr b)).toList)
def impl_EqualData (a : DataP) (b : DataP) : Bool :=
  bif (impl_EqualNames a.name b.name) then
    bif (slices_Equal_byte a.content b.content) then
      bif (impl_EqualNames a.keyName b.keyName) then
        bif (a.freshUntil == b.freshUntil) then
          (a.signature == b.signature)
        else
          false
      else
        false
    else
      false
  else
    false
def spec_EqualData (a : DataP) (b : DataP) : Bool :=
  bif (spec_EqualNames a.name b.name) then
    bif (spec_EqualBytes a.content b.content) then
      bif (spec_EqualNames a.keyName b.keyName) then
        bif (a.freshUntil == b.freshUntil) then
          (a.signature == b.signature)
        else
          false
      else
        false
    else
      false
  else
    false
end Go.Stp
