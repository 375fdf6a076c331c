/-
  What functions of the program compute, as Lean functions. No condition. Written by a program (gen2.py).
-/
import Derived.Test.YtcjilfbmdciebaaGreatP4
namespace Go.Stp
set_option linter.unusedVariables false
set_option linter.unusedSimpArgs false
def laws_heldIntS_L1 : List Int → Int → Ctl (Int) (Int)
  | [], k2 => (Ctl.nxt k2)
  | e1 :: rest_, k2 =>
    bif (e1 != k2) then
      (Ctl.ret (-1))
    else
      laws_heldIntS_L1 rest_ (IntKind.i64.wrap (k2 + 1))
def laws_heldIntS (a : (List Int)) (k : Int) : Int :=
  match laws_heldIntS_L1 a k with
    | .ret r_ => r_
    | .nxt k2 =>
      k2
end Go.Stp
