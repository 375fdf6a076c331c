/-
  FnExactNewRepository: the law returns true at all arguments; conditions: those of the statement, no others. Written by a program (mklaw2.py).
-/
import Derived.Test.YtfkllbcfaanmjaaCL1
import Derived.Test.YtfkllbcfaanmjaaOpen
namespace Go.Stp
set_option linter.unusedVariables false
set_option linter.unusedSimpArgs false
theorem same_NewRepository (aQuota : Int) : impl_NewRepository aQuota = spec_NewRepository aQuota := rfl
theorem bound_NewRepository (aQuota : Int) : sz (spec_NewRepository aQuota) ≤ 0 := by
  unfold spec_NewRepository
  cases (!(spec_l1In aQuota 0 12)) <;> simp [sz_Repository, sz_Log, sz_list, szL_nil]
theorem true_NewRepository (aQuota : Int)  : laws_FnExactNewRepository aQuota = true := by
  unfold laws_FnExactNewRepository
  have hb := bound_NewRepository aQuota
  have hb0 := hb
  obtain ⟨gp0, gq0, ge0⟩ := mk_Repository (spec_NewRepository aQuota) (1) (by omega) (by omega)
  have dg0 := dF (show 0 ≤ (laws_markRepository (spec_NewRepository aQuota) (1)).1 by omega)
  simp only [same_NewRepository, eq_Repository, ge0, dg0, cond_false, Bool.not_true, bne_self_F, nbeq_self_F, beq_self_eq_true]
end Go.Stp
namespace Go.Proofs.Ytfkllbcfaanmjaa
open Go.Stp
open Go.RowKit (Below)
open Go.ChangeShapes Go.WideShapes Go.ChangeAt
namespace LawNewRepository
theorem own : ownKnob Try.prog.godebug = none := by kernel_rfl
theorem laid : laidOutB Try.prog = true := by kernel_rfl
set_option maxRecDepth 100000 in
theorem lifted (os : Os) (started : os.Started) (H : Type) (enc : TypeId × Value → H) :
    ReturnsInHanded {} Try.checked os 4 .any (Rows.fnExactNewRepositorySpec.pre6 enc Try.prog Try.f4 Rows.fnExactNewRepositoryRow.domain false) (Rows.fnExactNewRepositorySpec.post enc Try.prog Try.f4 false true false false) := by
  refine returnsInHanded_of_change (C := Try.checked) own started (by kernel_rfl) Try.func4
    (ChangeSpec.witness6 (enc := enc) (C := Try.checked) false ⟨#[], #[.int .i64 (0)], []⟩ 8 (by kernel_rfl) (by kernel_rfl) (by kernel_rfl) (by kernel_rfl)) ?_
  intro W base args ds gs before hval0 hW _ _
  have hval : ∀ (j : Nat) t v, Try.f4.params[j]? = some t → args[j]? = some v → Value.okWide Try.prog W .any base t v := hval0
  have hW' := hW
  obtain ⟨p, q, hA0, _⟩ := hW
  have hA : DataW.TrodAll enc Try.prog W 0 (fun _ => true) true Try.f4.params.toList args.toList ds p := hA0
  rw [Try.params4] at hA hval
  obtain ⟨v0, vs0, d0, ds0, p0, q0, hargs, rfl, rfl, h0, r0⟩ := ChangeShapes.trodAll_cons hA
  obtain ⟨rfl, rfl, rfl⟩ := trodAll_nil r0
  obtain rfl : args = #[v0] := by cases args; simp_all
  obtain ⟨a0, x0, rfl, k0, g0⟩ := (arg_int Try.underlying3) (hval 0 3 _ rfl rfl) h0
  have ht := true_NewRepository a0 
  refine (f4 W 0 (by decide) a0 k0).2.mono fun e W1 ⟨v, he, hb, hv⟩ => ?_
  rw [ht] at hv
  obtain ⟨rfl, _⟩ := hv
  subst he
  exact ⟨_, rfl, law_post laid (by kernel_rfl) rfl rfl Try.underlying4 (fun ds h => by match ds, h with | [_], _ => rfl) hW' hb.below⟩
theorem over : Rows.fnExactNewRepositoryRow.holds Try.pinned (OpenSpec.ofChange Rows.fnExactNewRepositorySpec) :=
  OpenClaim.holds_of_wide 4 Try.f4 rfl rfl rfl rfl rfl rfl rfl ⟨rfl, rfl, rfl, rfl, rfl⟩ rfl rfl rfl rfl rfl (by kernel_rfl) Try.func4 (by kernel_rfl)
    (of_decide_eq_true (by kernel_rfl)) (by unfold Func.isWrapper; first | (rw [if_pos (by decide +kernel)]; kernel_rfl) | (rw [if_neg (by decide +kernel)]; exact ⟨rfl, rfl⟩))
    (fun os started H enc _ => lifted os started H enc)
theorem proved : Rows.FnExactNewRepositorySaid := over
#print axioms proved
end LawNewRepository
end Go.Proofs.Ytfkllbcfaanmjaa
