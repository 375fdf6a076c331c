/-
  FnExactMissingFrom: the law returns true at all arguments; conditions: those of the statement, no others. Written by a program (mklaw2.py).
-/
import Derived.Test.YtikbfiljomdmiaaCL4
import Derived.Test.YtikbfiljomdmiaaSame
import Derived.Test.YtikbfiljomdmiaaOpen
namespace Go.Stp
set_option linter.unusedVariables false
set_option linter.unusedSimpArgs false
theorem same_MissingFrom (aM : Member) (aV : StateVector) : impl_MissingFrom aM aV = spec_MissingFrom aM aV := same_NewerThan' aV aM.vector
theorem bound_MissingFrom (aM : Member) (aV : StateVector) : sz (spec_MissingFrom aM aV) ≤ 20 + 20 * sz aV := bnd_NewerThan aV aM.vector
theorem true_MissingFrom (aM : Member) (aV : StateVector) (haM : GoT.ok 10 aM) (haV : GoT.ok 10 aV) : laws_FnExactMissingFrom aM aV = true := by
  unfold laws_FnExactMissingFrom
  by_cases s0 : laws_szMember aM 1048576 < 0
  · simp only [dT s0, cond_true]
  have d0 := dF (show 0 ≤ laws_szMember aM 1048576 by omega)
  obtain ⟨t0, z0⟩ := (sz_Member_R aM 1048576 haM (by omega) (by omega)).pos (by omega)
  by_cases s1 : laws_szStateVector aV (laws_szMember aM 1048576) < 0
  · simp only [dT s1, cond_true, d0, cond_false]
  have d1 := dF (show 0 ≤ laws_szStateVector aV (laws_szMember aM 1048576) by omega)
  obtain ⟨t1, z1⟩ := (sz_StateVector_R aV (laws_szMember aM 1048576) haV (by omega) (by omega)).pos (by omega)
  obtain ⟨mp0, mq0, me0⟩ := mk_Member aM (1) (by omega) (by omega)
  obtain ⟨mp1, mq1, me1⟩ := mk_StateVector aV ((laws_markMember aM (1)).1) (by omega) (by omega)
  have dk := dF (show 0 ≤ (laws_markStateVector aV ((laws_markMember aM (1)).1)).1 by omega)
  have hb := bound_MissingFrom aM aV
  have hb0 := hb
  obtain ⟨gp0, gq0, ge0⟩ := mk_TableEntryS (spec_MissingFrom aM aV) (1) (by omega) (by omega)
  have dg0 := dF (show 0 ≤ (laws_markTableEntryS (spec_MissingFrom aM aV) (1)).1 by omega)
  simp only [d0, cond_false, d1, to_Member, to_StateVector, same_MissingFrom, eq_Member, eq_StateVector, eq_TableEntryS, dk, ge0, dg0, Bool.not_true, bne_self_F, nbeq_self_F, beq_self_eq_true]
end Go.Stp
namespace Go.Proofs.Ytikbfiljomdmiaa
open Go.Stp
open Go.RowKit (Below)
open Go.ChangeShapes Go.WideShapes Go.ChangeAt
namespace LawMissingFrom
theorem own : ownKnob Try.prog.godebug = none := by kernel_rfl
theorem laid : laidOutB Try.prog = true := by kernel_rfl
set_option maxRecDepth 100000 in
theorem op24 : Opens Try.prog 24 Name := opens_struct (fun e : Name => e.parts) (fun b => ⟨b⟩) (fun _ => rfl) Try.underlying24 (show Try.prog.cellsOf 24 = 1 by kernel_rfl) (opensF_one rfl (opens_slice Try.underlying22 (by kernel_rfl) (opens_str Try.underlying9 (by kernel_rfl))))
set_option maxRecDepth 100000 in
theorem op146 : Opens Try.prog 146 TableEntry := opens_struct (fun e : TableEntry => (e.name, e.value)) (fun b => ⟨b.1, b.2⟩) (fun _ => rfl) Try.underlying146 (show Try.prog.cellsOf 146 = 2 by kernel_rfl) (opensF_cons rfl op24 (opensF_one rfl (opens_int Try.underlying3 (by kernel_rfl))))
set_option maxRecDepth 100000 in
theorem op27 : Opens Try.prog 27 StateVector := opens_struct (fun e : StateVector => e.entries) (fun b => ⟨b⟩) (fun _ => rfl) Try.underlying27 (show Try.prog.cellsOf 27 = 1 by kernel_rfl) (opensF_one rfl (opens_slice Try.underlying25 (by kernel_rfl) op146))
set_option maxRecDepth 100000 in
theorem op129 : Opens Try.prog 129 Publication := opens_struct (fun e : Publication => (e.publisher, e.seq, e.content)) (fun b => ⟨b.1, b.2.1, b.2.2⟩) (fun _ => rfl) Try.underlying129 (show Try.prog.cellsOf 129 = 3 by kernel_rfl) (opensF_cons rfl op24 (opensF_cons rfl (opens_int Try.underlying3 (by kernel_rfl)) (opensF_one rfl (opens_slice Try.underlying59 (by kernel_rfl) (opens_byte Try.underlying5 (by kernel_rfl))))))
set_option maxRecDepth 100000 in
theorem op30 : Opens Try.prog 30 Member := opens_struct (fun e : Member => (e.name, e.vector, e.publications)) (fun b => ⟨b.1, b.2.1, b.2.2⟩) (fun _ => rfl) Try.underlying30 (show Try.prog.cellsOf 30 = 3 by kernel_rfl) (opensF_cons rfl op24 (opensF_cons rfl op27 (opensF_one rfl (opens_slice Try.underlying28 (by kernel_rfl) op129))))
set_option maxRecDepth 100000 in
theorem lifted (os : Os) (started : os.Started) (H : Type) (enc : TypeId × Value → H) :
    ReturnsInHanded {} Try.checked os 8 .any (Rows.fnExactMissingFromSpec.pre6 enc Try.prog Try.f8 Rows.fnExactMissingFromRow.domain false) (Rows.fnExactMissingFromSpec.post enc Try.prog Try.f8 false true false false) := by
  refine returnsInHanded_of_change (C := Try.checked) own started (by kernel_rfl) Try.func8
    (ChangeSpec.witness6 (enc := enc) (C := Try.checked) false ⟨#[], #[.agg #[.slice none 0 0, .slice none 0 0, .slice none 0 0], .agg #[.slice none 0 0]], []⟩ 8 (by kernel_rfl) (by kernel_rfl) (by kernel_rfl) (by kernel_rfl)) ?_
  intro W base args ds gs before hval0 hW _ _
  have hval : ∀ (j : Nat) t v, Try.f8.params[j]? = some t → args[j]? = some v → Value.okWide Try.prog W .any base t v := hval0
  have hW' := hW
  obtain ⟨p, q, hA0, _⟩ := hW
  have hA : DataW.TrodAll enc Try.prog W 0 (fun _ => true) true Try.f8.params.toList args.toList ds p := hA0
  rw [Try.params8] at hA hval
  obtain ⟨v0, vs0, d0, ds0, p0, q0, hargs, rfl, rfl, h0, r0⟩ := ChangeShapes.trodAll_cons hA
  obtain ⟨v1, vs1, d1, ds1, p1, q1, rfl, rfl, rfl, h1, r1⟩ := ChangeShapes.trodAll_cons r0
  obtain ⟨rfl, rfl, rfl⟩ := trodAll_nil r1
  obtain rfl : args = #[v0, v1] := by cases args; simp_all
  obtain ⟨a0, x0, rfl, k0, g0⟩ := (arg_struct Try.underlying30 op30) (hval 0 30 _ rfl rfl) h0
  obtain ⟨a1, x1, rfl, k1, g1⟩ := (arg_struct Try.underlying27 op27) (hval 1 27 _ rfl rfl) h1
  have ht := true_MissingFrom a0 a1 k0 k1
  refine (f8 W 0 (by decide) a0 x0.1.1 x0.1.2 (g0 (MF.rs .der x0.1.1 x0.1.2 a0.name.parts) (List.mem_cons_self)) x0.2.1.1 x0.2.1.2 (g0 (MF.rs .der x0.2.1.1 x0.2.1.2 a0.vector.entries) (by simp [GoT.fa])) x0.2.2.1 x0.2.2.2 (g0 (MF.rs .der x0.2.2.1 x0.2.2.2 a0.publications) (by simp [GoT.fa])) a1 x1.1 x1.2 (g1 (MF.rs .der x1.1 x1.2 a1.entries) (List.mem_cons_self)) k0 k1).2.mono fun e W1 ⟨v, he, hb, hv⟩ => ?_
  rw [ht] at hv
  obtain ⟨rfl, _⟩ := hv
  subst he
  exact ⟨_, rfl, law_post laid (by kernel_rfl) rfl rfl Try.underlying4 (fun ds h => by match ds, h with | [_, _], _ => rfl) hW' hb.below⟩
theorem over : Rows.fnExactMissingFromRow.holds Try.pinned (OpenSpec.ofChange Rows.fnExactMissingFromSpec) :=
  OpenClaim.holds_of_wide 8 Try.f8 rfl rfl rfl rfl rfl rfl rfl ⟨rfl, rfl, rfl, rfl, rfl⟩ rfl rfl rfl rfl rfl (by kernel_rfl) Try.func8 (by kernel_rfl)
    (of_decide_eq_true (by kernel_rfl)) (by unfold Func.isWrapper; first | (rw [if_pos (by decide +kernel)]; kernel_rfl) | (rw [if_neg (by decide +kernel)]; exact ⟨rfl, rfl⟩))
    (fun os started H enc _ => lifted os started H enc)
theorem proved : Rows.FnExactMissingFromSaid := over
#print axioms proved
end LawMissingFrom
end Go.Proofs.Ytikbfiljomdmiaa
