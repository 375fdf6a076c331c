/-
  That functions of the program compute what the Lean functions do. No condition but what each says. Written by a program (gen2.py).
-/
import Derived.Test.YtdkhklhnipiheaaTab
import Derived.Test.YtdkhklhnipiheaaP1
import Derived.Test.YtdkhklhnipiheaaFork
namespace Go.Proofs.Ytdkhklhnipiheaa
open Go.Stp
set_option linter.unusedVariables false
set_option linter.unusedSimpArgs false
theorem f86 (w : World) (n : Nat) (hn : n + 0 ≤ 9) (n_ : Int) (a : Int) (b : Int) (hokn_ : GoT.ok n n_) (hoka : GoT.ok n a) (hokb : GoT.ok n b) :
    Does Try.prog 86 #[.int .i64 (n_), .int .i64 (a), .int .i64 (b)] w emp (fun (rv : Value) (_ : World) => rv = .bool (impl_InRange n_ a b) ∧ True) := by
  refine WX.enter (tt := tt) (Γ := []) Try.func86 rfl (by kernel_rfl) rfl allS_nil ?_
  refine WX.run ttOk rfl ?_
  refine WX.cases 10 rfl (fun h1 => ?_) (fun h1 => ?_)
  · skip
    have h1d := B.dt h1
    refine WX.run ttOk rfl ?_
    have hP1 : impl_InRange n_ a b = (decide (n_ ≤ b)) := by simp only [impl_InRange, h1, cond_true, cond_false]
    refine WX.ret ttOk rfl ?_
    intro w1 G bs hI hΓ
    rw [hP1]
    exact ⟨rfl, trivial⟩
  · skip
    have h1d := B.df h1
    refine WX.run ttOk rfl ?_
    have hP2 : impl_InRange n_ a b = false := by simp only [impl_InRange, h1, cond_true, cond_false]
    refine WX.ret ttOk rfl ?_
    intro w1 G bs hI hΓ
    rw [hP2]
    exact ⟨rfl, trivial⟩
theorem f78 (w : World) (n : Nat) (hn : n + 0 ≤ 9) (x_ : Int) (least : Int) (most : Int) (hokx_ : GoT.ok n x_) (hokleast : GoT.ok n least) (hokmost : GoT.ok n most) :
    Does Try.prog 78 #[.int .i64 (x_), .int .i64 (least), .int .i64 (most)] w emp (fun (rv : Value) (_ : World) => rv = .bool (spec_l1In x_ least most) ∧ True) := by
  refine WX.enter (tt := tt) (Γ := []) Try.func78 rfl (by kernel_rfl) rfl allS_nil ?_
  refine WX.run ttOk rfl ?_
  refine WX.cases 10 rfl (fun h1 => ?_) (fun h1 => ?_)
  · skip
    have h1d := B.dt h1
    refine WX.run ttOk rfl ?_
    have hP1 : spec_l1In x_ least most = (decide (x_ ≤ most)) := by simp only [spec_l1In, h1, cond_true, cond_false]
    refine WX.ret ttOk rfl ?_
    intro w1 G bs hI hΓ
    rw [hP1]
    exact ⟨rfl, trivial⟩
  · skip
    have h1d := B.df h1
    refine WX.run ttOk rfl ?_
    have hP2 : spec_l1In x_ least most = false := by simp only [spec_l1In, h1, cond_true, cond_false]
    refine WX.ret ttOk rfl ?_
    intro w1 G bs hI hΓ
    rw [hP2]
    exact ⟨rfl, trivial⟩
theorem inR_impl {n a b : Int} (h : impl_InRange n a b = true) : a ≤ n ∧ n ≤ b := by
  unfold impl_InRange at h
  cases hd : decide (a ≤ n)
  · exact absurd (show false = true by rw [show decide (a ≤ n) = false from hd] at h; exact h) Bool.false_ne_true
  · rw [show decide (a ≤ n) = true from hd] at h
    exact ⟨of_decide_eq_true hd, of_decide_eq_true (show decide (n ≤ b) = true from h)⟩
theorem inR_spec {n a b : Int} (h : spec_l1In n a b = true) : a ≤ n ∧ n ≤ b := by
  unfold spec_l1In at h
  cases hd : decide (a ≤ n)
  · exact absurd (show false = true by rw [show decide (a ≤ n) = false from hd] at h; exact h) Bool.false_ne_true
  · rw [show decide (a ≤ n) = true from hd] at h
    exact ⟨of_decide_eq_true hd, of_decide_eq_true (show decide (n ≤ b) = true from h)⟩
theorem f11 (w : World) (n : Nat) (hn : n + 0 ≤ 9) (node : Int) (i : Int) (try_ : Int) (hoknode : GoT.ok n node) (hoki : GoT.ok n i) (hoktry_ : GoT.ok n try_) :
    Does Try.prog 11 #[.int .i64 (node), .int .i64 (i), .int .i64 (try_)] w emp (fun (rv : Value) (_ : World) => rv = .int .i64 ((impl_NonceOf node i try_)) ∧ GoT.ok n ((impl_NonceOf node i try_) : Int)) := by
  refine WX.enter (tt := tt) (Γ := []) Try.func11 rfl (by kernel_rfl) rfl allS_nil ?_
  refine WX.run ttOk rfl ?_
  refine WX.see rfl rfl rfl (fun _ hΓ => looks_wrap rfl rfl rfl rfl) ?_
  refine WX.run ttOk rfl ?_
  refine WX.see rfl rfl rfl (fun _ hΓ => looks_wrap rfl rfl rfl rfl) ?_
  refine WX.see rfl rfl rfl (fun _ hΓ => looks_wrap rfl rfl rfl rfl) ?_
  refine WX.run ttOk rfl ?_
  refine WX.see rfl rfl rfl (fun _ hΓ => looks_wrap rfl rfl rfl rfl) ?_
  refine WX.run ttOk rfl ?_
  have hP1 : impl_NonceOf node i try_ = (IntKind.i64.wrap ((IntKind.i64.wrap ((IntKind.i64.wrap (100000 * node)) + (IntKind.i64.wrap (1000 * i)))) + try_)) := by simp only [impl_NonceOf, cond_true, cond_false]
  refine WX.ret ttOk rfl ?_
  intro w1 G bs hI hΓ
  rw [hP1]
  exact ⟨rfl, (i64_wrap _)⟩
end Go.Proofs.Ytdkhklhnipiheaa
