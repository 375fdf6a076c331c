/-
  What functions of the program compute, as Lean functions. No condition. Written by a program (gen2.py).
-/
import Derived.Test.YtcjilfbmdciebaaGreatP1
namespace Go.Stp
set_option linter.unusedVariables false
set_option linter.unusedSimpArgs false

end Go.Stp
