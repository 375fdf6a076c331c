/-
  FnExactNewConsumer: the law returns true at all arguments; conditions: those of the statement, no others. Written by a program (mklaw2.py).
-/
import Derived.Test.YtfkllbcfaanmjaaCL1
import Derived.Test.YtfkllbcfaanmjaaOpen
namespace Go.Stp
set_option linter.unusedVariables false
set_option linter.unusedSimpArgs false
theorem same_NewConsumer (aNode : Int) (aI : Int) (aN : Name) : impl_NewConsumer aNode aI aN = spec_NewConsumer aNode aI aN := rfl
theorem bound_NewConsumer (aNode : Int) (aI : Int) (aN : Name) : sz (spec_NewConsumer aNode aI aN) ≤ sz aN := by simp [spec_NewConsumer, spec_l4Copy, sz_Consumer, sz_DataP, sz_Name, sz_list, szL_nil]
theorem true_NewConsumer (aNode : Int) (aI : Int) (aN : Name) (haN : GoT.ok 10 aN) : laws_FnExactNewConsumer aNode aI aN = true := by
  unfold laws_FnExactNewConsumer
  by_cases s0 : laws_szName aN 1048576 < 0
  · simp only [dT s0, cond_true]
  have d0 := dF (show 0 ≤ laws_szName aN 1048576 by omega)
  obtain ⟨t0, z0⟩ := (sz_Name_R aN 1048576 haN (by omega) (by omega)).pos (by omega)
  obtain ⟨mp0, mq0, me0⟩ := mk_Name aN (1) (by omega) (by omega)
  have dk := dF (show 0 ≤ (laws_markName aN (1)).1 by omega)
  have hb := bound_NewConsumer aNode aI aN
  have hb0 := hb
  obtain ⟨gp0, gq0, ge0⟩ := mk_Consumer (spec_NewConsumer aNode aI aN) (1) (by omega) (by omega)
  have dg0 := dF (show 0 ≤ (laws_markConsumer (spec_NewConsumer aNode aI aN) (1)).1 by omega)
  simp only [d0, cond_false, to_Name, same_NewConsumer, eq_Name, eq_Consumer, dk, ge0, dg0, Bool.not_true, bne_self_F, nbeq_self_F, beq_self_eq_true]
end Go.Stp
namespace Go.Proofs.Ytfkllbcfaanmjaa
open Go.Stp
open Go.RowKit (Below)
open Go.ChangeShapes Go.WideShapes Go.ChangeAt
namespace LawNewConsumer
theorem own : ownKnob Try.prog.godebug = none := by kernel_rfl
theorem laid : laidOutB Try.prog = true := by kernel_rfl
set_option maxRecDepth 100000 in
theorem op24 : Opens Try.prog 24 Name := opens_struct (fun e : Name => e.parts) (fun b => ⟨b⟩) (fun _ => rfl) Try.underlying24 (show Try.prog.cellsOf 24 = 1 by kernel_rfl) (opensF_one rfl (opens_slice Try.underlying22 (by kernel_rfl) (opens_str Try.underlying9 (by kernel_rfl))))
set_option maxRecDepth 100000 in
theorem lifted (os : Os) (started : os.Started) (H : Type) (enc : TypeId × Value → H) :
    ReturnsInHanded {} Try.checked os 3 .any (Rows.fnExactNewConsumerSpec.pre6 enc Try.prog Try.f3 Rows.fnExactNewConsumerRow.domain false) (Rows.fnExactNewConsumerSpec.post enc Try.prog Try.f3 false true false false) := by
  refine returnsInHanded_of_change (C := Try.checked) own started (by kernel_rfl) Try.func3
    (ChangeSpec.witness6 (enc := enc) (C := Try.checked) false ⟨#[], #[.int .i64 (0), .int .i64 (0), .agg #[.slice none 0 0]], []⟩ 8 (by kernel_rfl) (by kernel_rfl) (by kernel_rfl) (by kernel_rfl)) ?_
  intro W base args ds gs before hval0 hW _ _
  have hval : ∀ (j : Nat) t v, Try.f3.params[j]? = some t → args[j]? = some v → Value.okWide Try.prog W .any base t v := hval0
  have hW' := hW
  obtain ⟨p, q, hA0, _⟩ := hW
  have hA : DataW.TrodAll enc Try.prog W 0 (fun _ => true) true Try.f3.params.toList args.toList ds p := hA0
  rw [Try.params3] at hA hval
  obtain ⟨v0, vs0, d0, ds0, p0, q0, hargs, rfl, rfl, h0, r0⟩ := ChangeShapes.trodAll_cons hA
  obtain ⟨v1, vs1, d1, ds1, p1, q1, rfl, rfl, rfl, h1, r1⟩ := ChangeShapes.trodAll_cons r0
  obtain ⟨v2, vs2, d2, ds2, p2, q2, rfl, rfl, rfl, h2, r2⟩ := ChangeShapes.trodAll_cons r1
  obtain ⟨rfl, rfl, rfl⟩ := trodAll_nil r2
  obtain rfl : args = #[v0, v1, v2] := by cases args; simp_all
  obtain ⟨a0, x0, rfl, k0, g0⟩ := (arg_int Try.underlying3) (hval 0 3 _ rfl rfl) h0
  obtain ⟨a1, x1, rfl, k1, g1⟩ := (arg_int Try.underlying3) (hval 1 3 _ rfl rfl) h1
  obtain ⟨a2, x2, rfl, k2, g2⟩ := (arg_struct Try.underlying24 op24) (hval 2 24 _ rfl rfl) h2
  have ht := true_NewConsumer a0 a1 a2 k2
  refine (f3 W 0 (by decide) a0 a1 a2 x2.1 x2.2 (g2 _ (List.mem_cons_self)) k0 k1 k2).2.mono fun e W1 ⟨v, he, hb, hv⟩ => ?_
  rw [ht] at hv
  obtain ⟨rfl, _⟩ := hv
  subst he
  exact ⟨_, rfl, law_post laid (by kernel_rfl) rfl rfl Try.underlying4 (fun ds h => by match ds, h with | [_, _, _], _ => rfl) hW' hb.below⟩
theorem over : Rows.fnExactNewConsumerRow.holds Try.pinned (OpenSpec.ofChange Rows.fnExactNewConsumerSpec) :=
  OpenClaim.holds_of_wide 3 Try.f3 rfl rfl rfl rfl rfl rfl rfl ⟨rfl, rfl, rfl, rfl, rfl⟩ rfl rfl rfl rfl rfl (by kernel_rfl) Try.func3 (by kernel_rfl)
    (of_decide_eq_true (by kernel_rfl)) (by unfold Func.isWrapper; first | (rw [if_pos (by decide +kernel)]; kernel_rfl) | (rw [if_neg (by decide +kernel)]; exact ⟨rfl, rfl⟩))
    (fun os started H enc _ => lifted os started H enc)
theorem proved : Rows.FnExactNewConsumerSaid := over
#print axioms proved
end LawNewConsumer
end Go.Proofs.Ytfkllbcfaanmjaa
