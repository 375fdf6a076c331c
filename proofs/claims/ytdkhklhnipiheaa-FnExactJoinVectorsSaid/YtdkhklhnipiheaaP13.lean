/-
  What functions of the program compute, as Lean functions. No condition. Written by a program (gen2.py).
-/
import Derived.Test.YtdkhklhnipiheaaP8
namespace Go.Stp
set_option linter.unusedVariables false
set_option linter.unusedSimpArgs false
def slices_IndexFunc_Data_L1 (fq : DataP → Bool) : List DataP → Nat → Option (Int)
  | [], i => none
  | e1 :: rest_, i =>
    bif fq e1 then
      (some ((i : Nat) : Int))
    else
      slices_IndexFunc_Data_L1 fq rest_ (i + 1)
def slices_IndexFunc_Data (s : (List DataP)) (fq : DataP → Bool) : Int :=
  match slices_IndexFunc_Data_L1 fq s 0 with
    | some r_ => r_
    | none =>
      (-1)
def slices_DeleteFunc_Data (s : List DataP) (delq : DataP → Bool) : List DataP := s.filter fun a => !delq a
def slices_Insert_TableEntry (s : List TableEntry) (i : Int) (v : List TableEntry) : List TableEntry := s.take i.toNat ++ v ++ s.drop i.toNat
end Go.Stp
