/-
  What functions of the program compute, as Lean functions. No condition. Written by a program (gen2.py).
-/
import Derived.Test.YtikbfiljomdmiabP8
namespace Go.Stp
set_option linter.unusedVariables false
set_option linter.unusedSimpArgs false
def slices_IndexFunc_Publication_L1 (fq : Publication → Bool) : List Publication → Nat → Option (Int)
  | [], i => none
  | e1 :: rest_, i =>
    bif fq e1 then
      (some ((i : Nat) : Int))
    else
      slices_IndexFunc_Publication_L1 fq rest_ (i + 1)
def slices_IndexFunc_Publication (s : (List Publication)) (fq : Publication → Bool) : Int :=
  match slices_IndexFunc_Publication_L1 fq s 0 with
    | some r_ => r_
    | none =>
      (-1)
def impl_publishedAt_c1 (i : Int) (n_ : Name) (p_ : Publication) : Bool :=
  bif (p_.seq == i) then
    (impl_EqualNames p_.publisher n_)
  else
    false
def impl_publishedAt (l : (List Publication)) (n_ : Name) (i : Int) : Int :=
  (slices_IndexFunc_Publication l (fun e0_ => (impl_publishedAt_c1 i n_ e0_)))
def spec_l28Find_L1 (n_ : Name) (i : Int) : List Publication → Nat → Option (Int)
  | [], i2 => none
  | e1 :: rest_, i2 =>
    bif (e1.seq == i) then
      bif (spec_EqualNames e1.publisher n_) then
        (some ((i2 : Nat) : Int))
      else
        spec_l28Find_L1 n_ i rest_ (i2 + 1)
    else
      spec_l28Find_L1 n_ i rest_ (i2 + 1)
def spec_l28Find (l : (List Publication)) (n_ : Name) (i : Int) : Int :=
  match spec_l28Find_L1 n_ i l 0 with
    | some r_ => r_
    | none =>
      (-1)
end Go.Stp
