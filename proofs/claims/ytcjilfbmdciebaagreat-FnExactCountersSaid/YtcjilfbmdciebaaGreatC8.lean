/-
  That functions of the program compute what the Lean functions do. No condition but what each says. Written by a program (gen2.py).
-/
import Derived.Test.YtcjilfbmdciebaaGreatC7
import Derived.Test.YtcjilfbmdciebaaGreatP8
import Derived.Test.YtcjilfbmdciebaaGreatCut
namespace Go.Proofs.YtcjilfbmdciebaaGreat
open Go.Stp
set_option linter.unusedVariables false
set_option linter.unusedSimpArgs false

end Go.Proofs.YtcjilfbmdciebaaGreat
