/-
  FnExactNonceOf: the law returns true at all arguments; conditions: those of the statement, no others.
-/
import Derived.Test.YtmmbmgbochlggaaC1
import Derived.Test.YtmmbmgbochlggaaOpen
namespace Go.Proofs.Ytmmbmgbochlggaa
open Go.Stp
open Go.RowKit (Below)
open Go.ChangeShapes Go.WideShapes Go.ChangeAt
namespace LawNonceOf
theorem own : ownKnob Try.prog.godebug = none := by kernel_rfl
theorem laid : laidOutB Try.prog = true := by kernel_rfl
theorem law (w : World) (a b c : Int) : Does Try.prog 3 #[.int .i64 a, .int .i64 b, .int .i64 c] w fun v _ => v = .bool true := by
  refine WX.enter (tt := tt) (Γ := []) Try.func3 rfl (by kernel_rfl) rfl (by intro i f h; cases h) ?_
  refine WX.run ttOk rfl ?_
  refine WX.callV rfl rfl rfl rfl rfl (fun _ => rfl) rfl (fun w _ _ _ _ => f9 w _ _ _) ?_
  refine WX.run ttOk rfl ?_
  refine WX.callV rfl rfl rfl rfl rfl (fun _ => rfl) rfl (fun w _ _ _ _ => f10 w _ _ _) ?_
  refine WX.run ttOk rfl ?_
  refine WX.cases 19 rfl (fun h => ?_) (fun h => ?_)
  · simp at h
  · refine WX.run ttOk rfl ?_
    refine WX.ret ttOk rfl ?_
    intro _ _ _ _ _
    rfl
set_option maxRecDepth 100000 in
theorem lifted (os : Os) (started : os.Started) (H : Type) (enc : TypeId × Value → H) :
    ReturnsInHanded {} Try.checked os 3 .any (Rows.fnExactNonceOfSpec.pre6 enc Try.prog Try.f3 Rows.fnExactNonceOfRow.domain false) (Rows.fnExactNonceOfSpec.post enc Try.prog Try.f3 false true false false) := by
  refine returnsInHanded_of_change (C := Try.checked) own started (by kernel_rfl) Try.func3
    (ChangeSpec.witness6 (enc := enc) (C := Try.checked) false ⟨#[], #[.int .i64 0, .int .i64 0, .int .i64 0], []⟩ 8 (by kernel_rfl) (by kernel_rfl) (by kernel_rfl) (by kernel_rfl)) ?_
  intro W base args ds gs before hval0 hW _ _
  have hval : ∀ (j : Nat) t v, Try.f3.params[j]? = some t → args[j]? = some v → Value.okWide Try.prog W .any base t v := hval0
  have hW' := hW
  obtain ⟨p, q, hA0, _⟩ := hW
  have hA : DataW.TrodAll enc Try.prog W 0 (fun _ => true) true Try.f3.params.toList args.toList ds p := hA0
  rw [Try.params3] at hA hval
  obtain ⟨v0, vs0, d0, ds0, p0, q0, hargs, rfl, rfl, h0, r0⟩ := ChangeShapes.trodAll_cons hA
  obtain ⟨v1, vs1, d1, ds1, p1, q1, rfl, rfl, rfl, h1, r1⟩ := ChangeShapes.trodAll_cons r0
  obtain ⟨v2, vs2, d2, ds2, p2, q2, rfl, rfl, rfl, h2, r2⟩ := ChangeShapes.trodAll_cons r1
  obtain ⟨rfl, rfl, rfl⟩ := trodAll_nil r2
  obtain rfl : args = #[v0, v1, v2] := by cases args; simp_all
  obtain ⟨a0, x0, rfl, k0, g0⟩ := arg_int Try.underlying3 (hval 0 3 _ rfl rfl) h0
  obtain ⟨a1, x1, rfl, k1, g1⟩ := arg_int Try.underlying3 (hval 1 3 _ rfl rfl) h1
  obtain ⟨a2, x2, rfl, k2, g2⟩ := arg_int Try.underlying3 (hval 2 3 _ rfl rfl) h2
  refine (law W a0 a1 a2).2.mono fun e W' ⟨v, he, hb, hv⟩ => ?_
  subst he; subst hv
  exact ⟨_, rfl, law_post laid (by kernel_rfl) rfl rfl Try.underlying4 (fun ds h => by match ds, h with | [_, _, _], _ => rfl) hW' hb⟩
theorem over : Rows.fnExactNonceOfRow.holds Try.pinned (OpenSpec.ofChange Rows.fnExactNonceOfSpec) :=
  OpenClaim.holds_of_wide 3 Try.f3 rfl rfl rfl rfl rfl rfl rfl ⟨rfl, rfl, rfl, rfl, rfl⟩ rfl rfl rfl rfl rfl (by kernel_rfl) Try.func3 (by kernel_rfl)
    (of_decide_eq_true (by kernel_rfl)) (by unfold Func.isWrapper; first | (rw [if_pos (by decide +kernel)]; kernel_rfl) | (rw [if_neg (by decide +kernel)]; exact ⟨rfl, rfl⟩))
    (fun os started H enc _ => lifted os started H enc)
theorem proved : Rows.FnExactNonceOfSaid := over
#print axioms proved
end LawNonceOf
end Go.Proofs.Ytmmbmgbochlggaa
