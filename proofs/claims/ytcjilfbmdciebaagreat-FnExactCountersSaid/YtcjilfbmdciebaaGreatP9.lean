/-
  What functions of the program compute, as Lean functions. No condition. Written by a program (gen2.py).
-/
import Derived.Test.YtcjilfbmdciebaaGreatP8
namespace Go.Stp
set_option linter.unusedVariables false
set_option linter.unusedSimpArgs false
def slices_EqualFunc_TableEntry_L1 (eqq : TableEntry → TableEntry → Bool) (s2 : (List TableEntry)) : List TableEntry → Nat → Option (Bool)
  | [], i => none
  | e1 :: rest_, i =>
    match (s2)[i]? with
      | none => default
      | some e2 =>
        bif (!(eqq e1 e2)) then
          (some false)
        else
          slices_EqualFunc_TableEntry_L1 eqq s2 rest_ (i + 1)
def slices_EqualFunc_TableEntry (s1 : (List TableEntry)) (s2 : (List TableEntry)) (eqq : TableEntry → TableEntry → Bool) : Bool :=
  bif ((((s1).length : Nat) : Int) != (((s2).length : Nat) : Int)) then
    false
  else
    match slices_EqualFunc_TableEntry_L1 eqq s2 s1 0 with
      | some r_ => r_
      | none =>
        true
def impl_EqualTables_c1 (x_ : TableEntry) (y : TableEntry) : Bool :=
  bif (impl_EqualNames x_.name y.name) then
    (x_.value == y.value)
  else
    false
def impl_EqualTables (a : (List TableEntry)) (b : (List TableEntry)) : Bool :=
  (slices_EqualFunc_TableEntry a b (fun e0_ e1_ => (impl_EqualTables_c1 e0_ e1_)))
def spec_EqualTables_L1 (b : (List TableEntry)) : List TableEntry → Nat → Option (Bool)
  | [], i => none
  | e1 :: rest_, i =>
    match (b)[i]? with
      | none => default
      | some e2 =>
        bif (e1.value != e2.value) then
          (some false)
        else
          bif (!(spec_EqualNames e1.name e2.name)) then
            (some false)
          else
            spec_EqualTables_L1 b rest_ (i + 1)
def spec_EqualTables (a : (List TableEntry)) (b : (List TableEntry)) : Bool :=
  bif ((((a).length : Nat) : Int) != (((b).length : Nat) : Int)) then
    false
  else
    match spec_EqualTables_L1 b a 0 with
      | some r_ => r_
      | none =>
        true
end Go.Stp
