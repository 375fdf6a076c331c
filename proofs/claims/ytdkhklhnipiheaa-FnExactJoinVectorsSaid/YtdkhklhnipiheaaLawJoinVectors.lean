/-
  FnExactJoinVectors: the law returns true at all arguments; conditions: those of the statement, no others. Written by a program (mklaw2.py).
-/
import Derived.Test.YtdkhklhnipiheaaCL9
import Derived.Test.YtdkhklhnipiheaaSame
import Derived.Test.YtdkhklhnipiheaaOpen
namespace Go.Stp
set_option linter.unusedVariables false
set_option linter.unusedSimpArgs false
theorem same_JoinVectors (aA : StateVector) (aB : StateVector) : impl_JoinVectors aA aB = spec_JoinVectors aA aB := same_JoinVectors' aA aB
theorem bound_JoinVectors (aA : StateVector) (aB : StateVector) : sz (spec_JoinVectors aA aB) ≤ sz aA + sz aB := bnd_JoinVectors aA aB
theorem true_JoinVectors (aA : StateVector) (aB : StateVector) (haA : GoT.ok 10 aA) (haB : GoT.ok 10 aB) : laws_FnExactJoinVectors aA aB = true := by
  unfold laws_FnExactJoinVectors
  by_cases s0 : laws_szStateVector aA 1048576 < 0
  · simp only [dT s0, cond_true]
  have d0 := dF (show 0 ≤ laws_szStateVector aA 1048576 by omega)
  obtain ⟨t0, z0⟩ := (sz_StateVector_R aA 1048576 haA (by omega) (by omega)).pos (by omega)
  by_cases s1 : laws_szStateVector aB (laws_szStateVector aA 1048576) < 0
  · simp only [dT s1, cond_true, d0, cond_false]
  have d1 := dF (show 0 ≤ laws_szStateVector aB (laws_szStateVector aA 1048576) by omega)
  obtain ⟨t1, z1⟩ := (sz_StateVector_R aB (laws_szStateVector aA 1048576) haB (by omega) (by omega)).pos (by omega)
  obtain ⟨mp0, mq0, me0⟩ := mk_StateVector aA (1) (by omega) (by omega)
  obtain ⟨mp1, mq1, me1⟩ := mk_StateVector aB ((laws_markStateVector aA (1)).1) (by omega) (by omega)
  have dk := dF (show 0 ≤ (laws_markStateVector aB ((laws_markStateVector aA (1)).1)).1 by omega)
  have hb := bound_JoinVectors aA aB
  have hb0 := hb
  obtain ⟨gp0, gq0, ge0⟩ := mk_StateVector (spec_JoinVectors aA aB) (1) (by omega) (by omega)
  have dg0 := dF (show 0 ≤ (laws_markStateVector (spec_JoinVectors aA aB) (1)).1 by omega)
  simp only [d0, cond_false, d1, to_StateVector, same_JoinVectors, eq_StateVector, dk, ge0, dg0, Bool.not_true, bne_self_F, nbeq_self_F, beq_self_eq_true]
end Go.Stp
namespace Go.Proofs.Ytdkhklhnipiheaa
open Go.Stp
open Go.RowKit (Below)
open Go.ChangeShapes Go.WideShapes Go.ChangeAt
namespace LawJoinVectors
theorem own : ownKnob Try.prog.godebug = none := by kernel_rfl
theorem laid : laidOutB Try.prog = true := by kernel_rfl
set_option maxRecDepth 100000 in
theorem op53 : Opens Try.prog 53 Name := opens_struct (fun e : Name => e.parts) (fun b => ⟨b⟩) (fun _ => rfl) Try.underlying53 (show Try.prog.cellsOf 53 = 1 by kernel_rfl) (opensF_one rfl (opens_slice Try.underlying51 (by kernel_rfl) (opens_str Try.underlying9 (by kernel_rfl))))
set_option maxRecDepth 100000 in
theorem op112 : Opens Try.prog 112 TableEntry := opens_struct (fun e : TableEntry => (e.name, e.value)) (fun b => ⟨b.1, b.2⟩) (fun _ => rfl) Try.underlying112 (show Try.prog.cellsOf 112 = 2 by kernel_rfl) (opensF_cons rfl op53 (opensF_one rfl (opens_int Try.underlying3 (by kernel_rfl))))
set_option maxRecDepth 100000 in
theorem op30 : Opens Try.prog 30 StateVector := opens_struct (fun e : StateVector => e.entries) (fun b => ⟨b⟩) (fun _ => rfl) Try.underlying30 (show Try.prog.cellsOf 30 = 1 by kernel_rfl) (opensF_one rfl (opens_slice Try.underlying28 (by kernel_rfl) op112))
set_option maxRecDepth 100000 in
theorem lifted (os : Os) (started : os.Started) (H : Type) (enc : TypeId × Value → H) :
    ReturnsInHanded {} Try.checked os 6 .any (Rows.fnExactJoinVectorsSpec.pre6 enc Try.prog Try.f6 Rows.fnExactJoinVectorsRow.domain false) (Rows.fnExactJoinVectorsSpec.post enc Try.prog Try.f6 false true false false) := by
  refine returnsInHanded_of_change (C := Try.checked) own started (by kernel_rfl) Try.func6
    (ChangeSpec.witness6 (enc := enc) (C := Try.checked) false ⟨#[], #[.agg #[.slice none 0 0], .agg #[.slice none 0 0]], []⟩ 8 (by kernel_rfl) (by kernel_rfl) (by kernel_rfl) (by kernel_rfl)) ?_
  intro W base args ds gs before hval0 hW _ _
  have hval : ∀ (j : Nat) t v, Try.f6.params[j]? = some t → args[j]? = some v → Value.okWide Try.prog W .any base t v := hval0
  have hW' := hW
  obtain ⟨p, q, hA0, _⟩ := hW
  have hA : DataW.TrodAll enc Try.prog W 0 (fun _ => true) true Try.f6.params.toList args.toList ds p := hA0
  rw [Try.params6] at hA hval
  obtain ⟨v0, vs0, d0, ds0, p0, q0, hargs, rfl, rfl, h0, r0⟩ := ChangeShapes.trodAll_cons hA
  obtain ⟨v1, vs1, d1, ds1, p1, q1, rfl, rfl, rfl, h1, r1⟩ := ChangeShapes.trodAll_cons r0
  obtain ⟨rfl, rfl, rfl⟩ := trodAll_nil r1
  obtain rfl : args = #[v0, v1] := by cases args; simp_all
  obtain ⟨a0, x0, rfl, k0, g0⟩ := (arg_struct Try.underlying30 op30) (hval 0 30 _ rfl rfl) h0
  obtain ⟨a1, x1, rfl, k1, g1⟩ := (arg_struct Try.underlying30 op30) (hval 1 30 _ rfl rfl) h1
  have ht := true_JoinVectors a0 a1 k0 k1
  refine (f6 W 0 (by decide) a0 x0.1 x0.2 (g0 (MF.rs .der x0.1 x0.2 a0.entries) (List.mem_cons_self)) a1 x1.1 x1.2 (g1 (MF.rs .der x1.1 x1.2 a1.entries) (List.mem_cons_self)) k0 k1).2.mono fun e W1 ⟨v, he, hb, hv⟩ => ?_
  rw [ht] at hv
  obtain ⟨rfl, _⟩ := hv
  subst he
  exact ⟨_, rfl, law_post laid (by kernel_rfl) rfl rfl Try.underlying4 (fun ds h => by match ds, h with | [_, _], _ => rfl) hW' hb.below⟩
theorem over : Rows.fnExactJoinVectorsRow.holds Try.pinned (OpenSpec.ofChange Rows.fnExactJoinVectorsSpec) :=
  OpenClaim.holds_of_wide 6 Try.f6 rfl rfl rfl rfl rfl rfl rfl ⟨rfl, rfl, rfl, rfl, rfl⟩ rfl rfl rfl rfl rfl (by kernel_rfl) Try.func6 (by kernel_rfl)
    (of_decide_eq_true (by kernel_rfl)) (by unfold Func.isWrapper; first | (rw [if_pos (by decide +kernel)]; kernel_rfl) | (rw [if_neg (by decide +kernel)]; exact ⟨rfl, rfl⟩))
    (fun os started H enc _ => lifted os started H enc)
theorem proved : Rows.FnExactJoinVectorsSaid := over
#print axioms proved
end LawJoinVectors
end Go.Proofs.Ytdkhklhnipiheaa
