/-
  What functions of the program compute, as Lean functions. No condition. Written by a program (gen2.py).
-/
import Derived.Test.YtikbfiljomdmiaaP8
namespace Go.Stp
set_option linter.unusedVariables false
set_option linter.unusedSimpArgs false
def impl_FlushRepository (s : Repository) : Repository :=
  (Repository.mk (impl_FlushLog s.log) s.quota)
def spec_FlushRepository (s : Repository) : Repository :=
  (Repository.mk (spec_FlushLog s.log) s.quota)
def impl_CrashRepository (s : Repository) (n_ : Int) : Repository :=
  (Repository.mk (impl_CrashLog s.log n_) s.quota)
def spec_CrashRepository (s : Repository) (n_ : Int) : Repository :=
  (Repository.mk (spec_CrashLog s.log n_) s.quota)
def impl_MissingFrom (m : Member) (v : StateVector) : (List TableEntry) :=
  (impl_NewerThan v m.vector)
def spec_MissingFrom (m : Member) (v : StateVector) : (List TableEntry) :=
  (spec_NewerThan v m.vector)
def slices_EqualFunc_TableEntry_L1 (eqq : TableEntry → TableEntry → Bool) (s2 : (List TableEntry)) : List TableEntry → Nat → Option (Bool)
  | [], i => none
  | e1 :: rest_, i =>
    match (s2)[i]? with
      | none => default
      | some e2 =>
        bif (!(eqq e1 e2)) then
          (some false)
        else
          slices_EqualFunc_TableEntry_L1 eqq s2 rest_ (i + 1)
def slices_EqualFunc_TableEntry (s1 : (List TableEntry)) (s2 : (List TableEntry)) (eqq : TableEntry → TableEntry → Bool) : Bool :=
  bif ((((s1).length : Nat) : Int) != (((s2).length : Nat) : Int)) then
    false
  else
    match slices_EqualFunc_TableEntry_L1 eqq s2 s1 0 with
      | some r_ => r_
      | none =>
        true
def impl_EqualTables_c1 (x_ : TableEntry) (y : TableEntry) : Bool :=
  bif (impl_EqualNames x_.name y.name) then
    (x_.value == y.value)
  else
    false
def impl_EqualTables (a : (List TableEntry)) (b : (List TableEntry)) : Bool :=
  (slices_EqualFunc_TableEntry a b (fun e0_ e1_ => (impl_EqualTables_c1 e0_ e1_)))
def spec_EqualTables_L1 (b : (List TableEntry)) : List TableEntry → Nat → Option (Bool)
  | [], i => none
  | e1 :: rest_, i =>
    match (b)[i]? with
      | none => default
      | some e2 =>
        bif (e1.value != e2.value) then
          (some false)
        else
          bif (!(spec_EqualNames e1.name e2.name)) then
            (some false)
          else
            spec_EqualTables_L1 b rest_ (i + 1)
def spec_EqualTables (a : (List TableEntry)) (b : (List TableEntry)) : Bool :=
  bif ((((a).length : Nat) : Int) != (((b).length : Nat) : Int)) then
    false
  else
    match spec_EqualTables_L1 b a 0 with
      | some r_ => r_
      | none =>
        true
def slices_IndexFunc_Publication_L1 (fq : Publication → Bool) : List Publication → Nat → Option (Int)
  | [], i => none
  | e1 :: rest_, i =>
    bif fq e1 then
      (some ((i : Nat) : Int))
    else
      slices_IndexFunc_Publication_L1 fq rest_ (i + 1)
def slices_IndexFunc_Publication (s : (List Publication)) (fq : Publication → Bool) : Int :=
  match slices_IndexFunc_Publication_L1 fq s 0 with
    | some r_ => r_
    | none =>
      (-1)
def slices_ContainsFunc_Publication (s : (List Publication)) (fq : Publication → Bool) : Bool :=
  (decide ((slices_IndexFunc_Publication s fq) ≥ 0))
def impl_publishedAt_c1 (i : Int) (n_ : Name) (p_ : Publication) : Bool :=
  bif (p_.seq == i) then
    (impl_EqualNames p_.publisher n_)
  else
    false
def impl_publishedAt (l : (List Publication)) (n_ : Name) (i : Int) : Int :=
  (slices_IndexFunc_Publication l (fun e0_ => (impl_publishedAt_c1 i n_ e0_)))
def spec_l28Find_L1 (n_ : Name) (i : Int) : List Publication → Nat → Option (Int)
  | [], i2 => none
  | e1 :: rest_, i2 =>
    bif (e1.seq == i) then
      bif (spec_EqualNames e1.publisher n_) then
        (some ((i2 : Nat) : Int))
      else
        spec_l28Find_L1 n_ i rest_ (i2 + 1)
    else
      spec_l28Find_L1 n_ i rest_ (i2 + 1)
def spec_l28Find (l : (List Publication)) (n_ : Name) (i : Int) : Int :=
  match spec_l28Find_L1 n_ i l 0 with
    | some r_ => r_
    | none =>
      (-1)
def impl_FindPublication (m : Member) (n_ : Name) (i : Int) : (List UInt8) × Bool :=
  bif decide ((impl_publishedAt m.publications n_ i) < 0) then
    (([] : List UInt8), false)
  else
    match (m.publications)[((impl_publishedAt m.publications n_ i)).toNat]? with
      | none => default
      | some e1 =>
        (e1.content, true)
def spec_FindPublication (m : Member) (n_ : Name) (i : Int) : (List UInt8) × Bool :=
  bif decide ((spec_l28Find m.publications n_ i) < 0) then
    (([]), false)
  else
    match (m.publications)[((spec_l28Find m.publications n_ i)).toNat]? with
      | none => default
      | some e1 =>
        (e1.content, true)
def impl_hasAllOf_c1 (a : Member) (p_ : Publication) : Bool :=
  bif (!((impl_FindPublication a p_.publisher p_.seq).2)) then
    true
  else
    (!(slices_Equal_byte ((impl_FindPublication a p_.publisher p_.seq).1) p_.content))
def impl_hasAllOf (a : Member) (b : Member) : Bool :=
  (!(slices_ContainsFunc_Publication b.publications (fun e0_ => (impl_hasAllOf_c1 a e0_))))
def spec_l28Within_L1 (b : Member) : List Publication → Option (Bool)
  | [] => none
  | e1 :: rest_ =>
    bif (!((spec_FindPublication b e1.publisher e1.seq).2)) then
      (some false)
    else
      bif (!(spec_EqualBytes ((spec_FindPublication b e1.publisher e1.seq).1) e1.content)) then
        (some false)
      else
        spec_l28Within_L1 b rest_
def spec_l28Within (a : Member) (b : Member) : Bool :=
  match spec_l28Within_L1 b a.publications with
    | some r_ => r_
    | none =>
      true
def impl_InSync (a : Member) (b : Member) : Bool :=
  bif (impl_EqualTables a.vector.entries b.vector.entries) then
    bif (impl_hasAllOf a b) then
      (impl_hasAllOf b a)
    else
      false
  else
    false
def spec_InSync (a : Member) (b : Member) : Bool :=
  bif (spec_EqualTables a.vector.entries b.vector.entries) then
    bif (spec_l28Within a b) then
      (spec_l28Within b a)
    else
      false
  else
    false
end Go.Stp
