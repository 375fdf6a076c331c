/-
  FnExactEqualConsumers: the law returns true at all arguments; conditions: those of the statement, no others. Written by a program (mklaw2.py).
-/
import Derived.Test.YtfkllbcfaanmjaaCL2
import Derived.Test.YtfkllbcfaanmjaaSame
import Derived.Test.YtfkllbcfaanmjaaOpen
namespace Go.Stp
set_option linter.unusedVariables false
set_option linter.unusedSimpArgs false
theorem same_EqualConsumers (aA : Consumer) (aB : Consumer) : impl_EqualConsumers aA aB = spec_EqualConsumers aA aB := same_EqualConsumers' aA aB
theorem true_EqualConsumers (aA : Consumer) (aB : Consumer) (haA : GoT.ok 10 aA) (haB : GoT.ok 10 aB) : laws_FnExactEqualConsumers aA aB = true := by
  unfold laws_FnExactEqualConsumers
  by_cases s0 : laws_szConsumer aA 1048576 < 0
  · simp only [dT s0, cond_true]
  have d0 := dF (show 0 ≤ laws_szConsumer aA 1048576 by omega)
  obtain ⟨t0, z0⟩ := (sz_Consumer_R aA 1048576 haA (by omega) (by omega)).pos (by omega)
  by_cases s1 : laws_szConsumer aB (laws_szConsumer aA 1048576) < 0
  · simp only [dT s1, cond_true, d0, cond_false]
  have d1 := dF (show 0 ≤ laws_szConsumer aB (laws_szConsumer aA 1048576) by omega)
  obtain ⟨t1, z1⟩ := (sz_Consumer_R aB (laws_szConsumer aA 1048576) haB (by omega) (by omega)).pos (by omega)
  simp only [d0, cond_false, d1, to_Consumer, same_EqualConsumers, eq_Consumer, Bool.not_true, bne_self_F, nbeq_self_F, beq_self_eq_true]
end Go.Stp
namespace Go.Proofs.Ytfkllbcfaanmjaa
open Go.Stp
open Go.RowKit (Below)
open Go.ChangeShapes Go.WideShapes Go.ChangeAt
namespace LawEqualConsumers
theorem own : ownKnob Try.prog.godebug = none := by kernel_rfl
theorem laid : laidOutB Try.prog = true := by kernel_rfl
set_option maxRecDepth 100000 in
theorem op24 : Opens Try.prog 24 Name := opens_struct (fun e : Name => e.parts) (fun b => ⟨b⟩) (fun _ => rfl) Try.underlying24 (show Try.prog.cellsOf 24 = 1 by kernel_rfl) (opensF_one rfl (opens_slice Try.underlying22 (by kernel_rfl) (opens_str Try.underlying9 (by kernel_rfl))))
set_option maxRecDepth 100000 in
theorem op49 : Opens Try.prog 49 DataP := opens_struct (fun e : DataP => (e.name, e.content, e.keyName, e.freshUntil, e.signature)) (fun b => ⟨b.1, b.2.1, b.2.2.1, b.2.2.2.1, b.2.2.2.2⟩) (fun _ => rfl) Try.underlying49 (show Try.prog.cellsOf 49 = 5 by kernel_rfl) (opensF_cons rfl op24 (opensF_cons rfl (opens_slice Try.underlying27 (by kernel_rfl) (opens_byte Try.underlying5 (by kernel_rfl))) (opensF_cons rfl op24 (opensF_cons rfl (opens_int Try.underlying3 (by kernel_rfl)) (opensF_one rfl (opens_int Try.underlying3 (by kernel_rfl)))))))
set_option maxRecDepth 100000 in
theorem op51 : Opens Try.prog 51 Consumer := opens_struct (fun e : Consumer => (e.node, e.index, e.name, e.attempts, e.wait, e.satisfied, e.data)) (fun b => ⟨b.1, b.2.1, b.2.2.1, b.2.2.2.1, b.2.2.2.2.1, b.2.2.2.2.2.1, b.2.2.2.2.2.2⟩) (fun _ => rfl) Try.underlying51 (show Try.prog.cellsOf 51 = 11 by kernel_rfl) (opensF_cons rfl (opens_int Try.underlying3 (by kernel_rfl)) (opensF_cons rfl (opens_int Try.underlying3 (by kernel_rfl)) (opensF_cons rfl op24 (opensF_cons rfl (opens_int Try.underlying3 (by kernel_rfl)) (opensF_cons rfl (opens_int Try.underlying3 (by kernel_rfl)) (opensF_cons rfl (opens_bool Try.underlying4 (by kernel_rfl)) (opensF_one rfl op49)))))))
set_option maxRecDepth 100000 in
theorem lifted (os : Os) (started : os.Started) (H : Type) (enc : TypeId × Value → H) :
    ReturnsInHanded {} Try.checked os 5 .any (Rows.fnExactEqualConsumersSpec.pre6 enc Try.prog Try.f5 Rows.fnExactEqualConsumersRow.domain false) (Rows.fnExactEqualConsumersSpec.post enc Try.prog Try.f5 false true false false) := by
  refine returnsInHanded_of_change (C := Try.checked) own started (by kernel_rfl) Try.func5
    (ChangeSpec.witness6 (enc := enc) (C := Try.checked) false ⟨#[], #[.agg #[.int .i64 (0), .int .i64 (0), .slice none 0 0, .int .i64 (0), .int .i64 (0), .bool false, .slice none 0 0, .slice none 0 0, .slice none 0 0, .int .i64 (0), .int .i64 (0)], .agg #[.int .i64 (0), .int .i64 (0), .slice none 0 0, .int .i64 (0), .int .i64 (0), .bool false, .slice none 0 0, .slice none 0 0, .slice none 0 0, .int .i64 (0), .int .i64 (0)]], []⟩ 8 (by kernel_rfl) (by kernel_rfl) (by kernel_rfl) (by kernel_rfl)) ?_
  intro W base args ds gs before hval0 hW _ _
  have hval : ∀ (j : Nat) t v, Try.f5.params[j]? = some t → args[j]? = some v → Value.okWide Try.prog W .any base t v := hval0
  have hW' := hW
  obtain ⟨p, q, hA0, _⟩ := hW
  have hA : DataW.TrodAll enc Try.prog W 0 (fun _ => true) true Try.f5.params.toList args.toList ds p := hA0
  rw [Try.params5] at hA hval
  obtain ⟨v0, vs0, d0, ds0, p0, q0, hargs, rfl, rfl, h0, r0⟩ := ChangeShapes.trodAll_cons hA
  obtain ⟨v1, vs1, d1, ds1, p1, q1, rfl, rfl, rfl, h1, r1⟩ := ChangeShapes.trodAll_cons r0
  obtain ⟨rfl, rfl, rfl⟩ := trodAll_nil r1
  obtain rfl : args = #[v0, v1] := by cases args; simp_all
  obtain ⟨a0, x0, rfl, k0, g0⟩ := (arg_struct Try.underlying51 op51) (hval 0 51 _ rfl rfl) h0
  obtain ⟨a1, x1, rfl, k1, g1⟩ := (arg_struct Try.underlying51 op51) (hval 1 51 _ rfl rfl) h1
  have ht := true_EqualConsumers a0 a1 k0 k1
  refine (f5 W 0 (by decide) a0 x0.2.2.1.1 x0.2.2.1.2 (g0 (MF.rs .der x0.2.2.1.1 x0.2.2.1.2 a0.name.parts) (List.mem_cons_self)) x0.2.2.2.2.2.2.1.1 x0.2.2.2.2.2.2.1.2 (g0 (MF.rs .der x0.2.2.2.2.2.2.1.1 x0.2.2.2.2.2.2.1.2 a0.data.name.parts) (by simp [GoT.fa])) x0.2.2.2.2.2.2.2.1.1 x0.2.2.2.2.2.2.2.1.2 (g0 (MF.rs .der x0.2.2.2.2.2.2.2.1.1 x0.2.2.2.2.2.2.2.1.2 a0.data.content) (by simp [GoT.fa])) x0.2.2.2.2.2.2.2.2.1.1 x0.2.2.2.2.2.2.2.2.1.2 (g0 (MF.rs .der x0.2.2.2.2.2.2.2.2.1.1 x0.2.2.2.2.2.2.2.2.1.2 a0.data.keyName.parts) (by simp [GoT.fa])) a1 x1.2.2.1.1 x1.2.2.1.2 (g1 (MF.rs .der x1.2.2.1.1 x1.2.2.1.2 a1.name.parts) (List.mem_cons_self)) x1.2.2.2.2.2.2.1.1 x1.2.2.2.2.2.2.1.2 (g1 (MF.rs .der x1.2.2.2.2.2.2.1.1 x1.2.2.2.2.2.2.1.2 a1.data.name.parts) (by simp [GoT.fa])) x1.2.2.2.2.2.2.2.1.1 x1.2.2.2.2.2.2.2.1.2 (g1 (MF.rs .der x1.2.2.2.2.2.2.2.1.1 x1.2.2.2.2.2.2.2.1.2 a1.data.content) (by simp [GoT.fa])) x1.2.2.2.2.2.2.2.2.1.1 x1.2.2.2.2.2.2.2.2.1.2 (g1 (MF.rs .der x1.2.2.2.2.2.2.2.2.1.1 x1.2.2.2.2.2.2.2.2.1.2 a1.data.keyName.parts) (by simp [GoT.fa])) k0 k1).2.mono fun e W1 ⟨v, he, hb, hv⟩ => ?_
  rw [ht] at hv
  obtain ⟨rfl, _⟩ := hv
  subst he
  exact ⟨_, rfl, law_post laid (by kernel_rfl) rfl rfl Try.underlying4 (fun ds h => by match ds, h with | [_, _], _ => rfl) hW' hb.below⟩
theorem over : Rows.fnExactEqualConsumersRow.holds Try.pinned (OpenSpec.ofChange Rows.fnExactEqualConsumersSpec) :=
  OpenClaim.holds_of_wide 5 Try.f5 rfl rfl rfl rfl rfl rfl rfl ⟨rfl, rfl, rfl, rfl, rfl⟩ rfl rfl rfl rfl rfl (by kernel_rfl) Try.func5 (by kernel_rfl)
    (of_decide_eq_true (by kernel_rfl)) (by unfold Func.isWrapper; first | (rw [if_pos (by decide +kernel)]; kernel_rfl) | (rw [if_neg (by decide +kernel)]; exact ⟨rfl, rfl⟩))
    (fun os started H enc _ => lifted os started H enc)
theorem proved : Rows.FnExactEqualConsumersSaid := over
#print axioms proved
end LawEqualConsumers
end Go.Proofs.Ytfkllbcfaanmjaa
