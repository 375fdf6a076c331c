/-
  FnExactNewMember: the law returns true at all arguments; conditions: those of the statement, no others. Written by a program (mklaw2.py).
-/
import Derived.Test.YtfkllbcfaanmjaaCL1
import Derived.Test.YtfkllbcfaanmjaaOpen
namespace Go.Stp
set_option linter.unusedVariables false
set_option linter.unusedSimpArgs false
theorem same_NewMember (aName : Name) : impl_NewMember aName = spec_NewMember aName := rfl
theorem bound_NewMember (aName : Name) : sz (spec_NewMember aName) ≤ sz aName := by simp [spec_NewMember, spec_l4Copy, sz_Member, sz_StateVector, sz_Name, sz_list, szL_nil]
theorem true_NewMember (aName : Name) (haName : GoT.ok 10 aName) : laws_FnExactNewMember aName = true := by
  unfold laws_FnExactNewMember
  by_cases s0 : laws_szName aName 1048576 < 0
  · simp only [dT s0, cond_true]
  have d0 := dF (show 0 ≤ laws_szName aName 1048576 by omega)
  obtain ⟨t0, z0⟩ := (sz_Name_R aName 1048576 haName (by omega) (by omega)).pos (by omega)
  obtain ⟨mp0, mq0, me0⟩ := mk_Name aName (1) (by omega) (by omega)
  have dk := dF (show 0 ≤ (laws_markName aName (1)).1 by omega)
  have hb := bound_NewMember aName
  have hb0 := hb
  obtain ⟨gp0, gq0, ge0⟩ := mk_Member (spec_NewMember aName) (1) (by omega) (by omega)
  have dg0 := dF (show 0 ≤ (laws_markMember (spec_NewMember aName) (1)).1 by omega)
  simp only [d0, cond_false, to_Name, same_NewMember, eq_Name, eq_Member, dk, ge0, dg0, Bool.not_true, bne_self_F, nbeq_self_F, beq_self_eq_true]
end Go.Stp
namespace Go.Proofs.Ytfkllbcfaanmjaa
open Go.Stp
open Go.RowKit (Below)
open Go.ChangeShapes Go.WideShapes Go.ChangeAt
namespace LawNewMember
theorem own : ownKnob Try.prog.godebug = none := by kernel_rfl
theorem laid : laidOutB Try.prog = true := by kernel_rfl
set_option maxRecDepth 100000 in
theorem op24 : Opens Try.prog 24 Name := opens_struct (fun e : Name => e.parts) (fun b => ⟨b⟩) (fun _ => rfl) Try.underlying24 (show Try.prog.cellsOf 24 = 1 by kernel_rfl) (opensF_one rfl (opens_slice Try.underlying22 (by kernel_rfl) (opens_str Try.underlying9 (by kernel_rfl))))
set_option maxRecDepth 100000 in
theorem lifted (os : Os) (started : os.Started) (H : Type) (enc : TypeId × Value → H) :
    ReturnsInHanded {} Try.checked os 8 .any (Rows.fnExactNewMemberSpec.pre6 enc Try.prog Try.f8 Rows.fnExactNewMemberRow.domain false) (Rows.fnExactNewMemberSpec.post enc Try.prog Try.f8 false true false false) := by
  refine returnsInHanded_of_change (C := Try.checked) own started (by kernel_rfl) Try.func8
    (ChangeSpec.witness6 (enc := enc) (C := Try.checked) false ⟨#[], #[.agg #[.slice none 0 0]], []⟩ 8 (by kernel_rfl) (by kernel_rfl) (by kernel_rfl) (by kernel_rfl)) ?_
  intro W base args ds gs before hval0 hW _ _
  have hval : ∀ (j : Nat) t v, Try.f8.params[j]? = some t → args[j]? = some v → Value.okWide Try.prog W .any base t v := hval0
  have hW' := hW
  obtain ⟨p, q, hA0, _⟩ := hW
  have hA : DataW.TrodAll enc Try.prog W 0 (fun _ => true) true Try.f8.params.toList args.toList ds p := hA0
  rw [Try.params8] at hA hval
  obtain ⟨v0, vs0, d0, ds0, p0, q0, hargs, rfl, rfl, h0, r0⟩ := ChangeShapes.trodAll_cons hA
  obtain ⟨rfl, rfl, rfl⟩ := trodAll_nil r0
  obtain rfl : args = #[v0] := by cases args; simp_all
  obtain ⟨a0, x0, rfl, k0, g0⟩ := (arg_struct Try.underlying24 op24) (hval 0 24 _ rfl rfl) h0
  have ht := true_NewMember a0 k0
  refine (f8 W 0 (by decide) a0 x0.1 x0.2 (g0 _ (List.mem_cons_self)) k0).2.mono fun e W1 ⟨v, he, hb, hv⟩ => ?_
  rw [ht] at hv
  obtain ⟨rfl, _⟩ := hv
  subst he
  exact ⟨_, rfl, law_post laid (by kernel_rfl) rfl rfl Try.underlying4 (fun ds h => by match ds, h with | [_], _ => rfl) hW' hb.below⟩
theorem over : Rows.fnExactNewMemberRow.holds Try.pinned (OpenSpec.ofChange Rows.fnExactNewMemberSpec) :=
  OpenClaim.holds_of_wide 8 Try.f8 rfl rfl rfl rfl rfl rfl rfl ⟨rfl, rfl, rfl, rfl, rfl⟩ rfl rfl rfl rfl rfl (by kernel_rfl) Try.func8 (by kernel_rfl)
    (of_decide_eq_true (by kernel_rfl)) (by unfold Func.isWrapper; first | (rw [if_pos (by decide +kernel)]; kernel_rfl) | (rw [if_neg (by decide +kernel)]; exact ⟨rfl, rfl⟩))
    (fun os started H enc _ => lifted os started H enc)
theorem proved : Rows.FnExactNewMemberSaid := over
#print axioms proved
end LawNewMember
end Go.Proofs.Ytfkllbcfaanmjaa
