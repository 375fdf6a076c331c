/-
  That functions of the program compute what the Lean functions do. No condition but what each says. Written by a program (gen2.py).
-/
import Derived.Test.YtikbfiljomdmiaaTab
import Derived.Test.YtikbfiljomdmiaaP1
namespace Go.Proofs.Ytikbfiljomdmiaa
open Go.Stp
set_option linter.unusedVariables false
set_option linter.unusedSimpArgs false
theorem f108 (w : World) (n : Nat) (hn : n + 0 ≤ 9) (a : Int) (b : Int) (hoka : GoT.ok n a) (hokb : GoT.ok n b) :
    Does Try.prog 108 #[.int .i64 (a), .int .i64 (b)] w emp (fun (rv : Value) (_ : World) => rv = .int .i64 ((spec_Min a b)) ∧ GoT.ok n ((spec_Min a b) : Int)) := by
  refine WX.enter (tt := tt) (Γ := []) Try.func108 rfl (by kernel_rfl) rfl allS_nil ?_
  refine WX.run ttOk rfl ?_
  refine WX.cases 7 rfl (fun h1 => ?_) (fun h1 => ?_)
  · skip
    have h1d := B.dt h1
    refine WX.run ttOk rfl ?_
    have hP1 : spec_Min a b = b := by simp only [spec_Min, h1, cond_true, cond_false]
    refine WX.ret ttOk rfl ?_
    intro w1 G bs hI hΓ
    rw [hP1]
    exact ⟨rfl, hokb⟩
  · skip
    have h1d := B.df h1
    refine WX.run ttOk rfl ?_
    have hP2 : spec_Min a b = a := by simp only [spec_Min, h1, cond_true, cond_false]
    refine WX.ret ttOk rfl ?_
    intro w1 G bs hI hΓ
    rw [hP2]
    exact ⟨rfl, hoka⟩
theorem f107 (w : World) (n : Nat) (hn : n + 0 ≤ 9) (a : Int) (b : Int) (hoka : GoT.ok n a) (hokb : GoT.ok n b) :
    Does Try.prog 107 #[.int .i64 (a), .int .i64 (b)] w emp (fun (rv : Value) (_ : World) => rv = .int .i64 ((spec_Max a b)) ∧ GoT.ok n ((spec_Max a b) : Int)) := by
  refine WX.enter (tt := tt) (Γ := []) Try.func107 rfl (by kernel_rfl) rfl allS_nil ?_
  refine WX.run ttOk rfl ?_
  refine WX.cases 7 rfl (fun h1 => ?_) (fun h1 => ?_)
  · skip
    have h1d := B.dt h1
    refine WX.run ttOk rfl ?_
    have hP1 : spec_Max a b = b := by simp only [spec_Max, h1, cond_true, cond_false]
    refine WX.ret ttOk rfl ?_
    intro w1 G bs hI hΓ
    rw [hP1]
    exact ⟨rfl, hokb⟩
  · skip
    have h1d := B.df h1
    refine WX.run ttOk rfl ?_
    have hP2 : spec_Max a b = a := by simp only [spec_Max, h1, cond_true, cond_false]
    refine WX.ret ttOk rfl ?_
    intro w1 G bs hI hΓ
    rw [hP2]
    exact ⟨rfl, hoka⟩
end Go.Proofs.Ytikbfiljomdmiaa
