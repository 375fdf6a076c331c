/-
  FnExactValidMember: the law returns true at all arguments; conditions: those of the statement, no others. Written by a program (mklaw2.py).
-/
import Derived.Test.YtikbfiljomdmiabCL5
import Derived.Test.YtikbfiljomdmiabSame
import Derived.Test.YtikbfiljomdmiabOpen
namespace Go.Stp
set_option linter.unusedVariables false
set_option linter.unusedSimpArgs false
theorem same_ValidMember (aM : Member) : impl_ValidMember aM = spec_ValidMember aM := same_ValidMember' aM
theorem true_ValidMember (aM : Member) (haM : GoT.ok 10 aM) : laws_FnExactValidMember aM = true := by
  unfold laws_FnExactValidMember
  by_cases s0 : laws_szMember aM 1048576 < 0
  · simp only [dT s0, cond_true]
  have d0 := dF (show 0 ≤ laws_szMember aM 1048576 by omega)
  obtain ⟨t0, z0⟩ := (sz_Member_R aM 1048576 haM (by omega) (by omega)).pos (by omega)
  simp only [d0, cond_false, to_Member, same_ValidMember, eq_Member, Bool.not_true, bne_self_F, nbeq_self_F, beq_self_eq_true]
end Go.Stp
namespace Go.Proofs.Ytikbfiljomdmiab
open Go.Stp
open Go.RowKit (Below)
open Go.ChangeShapes Go.WideShapes Go.ChangeAt
namespace LawValidMember
theorem own : ownKnob Try.prog.godebug = none := by kernel_rfl
theorem laid : laidOutB Try.prog = true := by kernel_rfl
set_option maxRecDepth 100000 in
theorem op49 : Opens Try.prog 49 Name := opens_struct (fun e : Name => e.parts) (fun b => ⟨b⟩) (fun _ => rfl) Try.underlying49 (show Try.prog.cellsOf 49 = 1 by kernel_rfl) (opensF_one rfl (opens_slice Try.underlying47 (by kernel_rfl) (opens_str Try.underlying9 (by kernel_rfl))))
set_option maxRecDepth 100000 in
theorem op156 : Opens Try.prog 156 TableEntry := opens_struct (fun e : TableEntry => (e.name, e.value)) (fun b => ⟨b.1, b.2⟩) (fun _ => rfl) Try.underlying156 (show Try.prog.cellsOf 156 = 2 by kernel_rfl) (opensF_cons rfl op49 (opensF_one rfl (opens_int Try.underlying3 (by kernel_rfl))))
set_option maxRecDepth 100000 in
theorem op66 : Opens Try.prog 66 StateVector := opens_struct (fun e : StateVector => e.entries) (fun b => ⟨b⟩) (fun _ => rfl) Try.underlying66 (show Try.prog.cellsOf 66 = 1 by kernel_rfl) (opensF_one rfl (opens_slice Try.underlying64 (by kernel_rfl) op156))
set_option maxRecDepth 100000 in
theorem op133 : Opens Try.prog 133 Publication := opens_struct (fun e : Publication => (e.publisher, e.seq, e.content)) (fun b => ⟨b.1, b.2.1, b.2.2⟩) (fun _ => rfl) Try.underlying133 (show Try.prog.cellsOf 133 = 3 by kernel_rfl) (opensF_cons rfl op49 (opensF_cons rfl (opens_int Try.underlying3 (by kernel_rfl)) (opensF_one rfl (opens_slice Try.underlying52 (by kernel_rfl) (opens_byte Try.underlying5 (by kernel_rfl))))))
set_option maxRecDepth 100000 in
theorem op69 : Opens Try.prog 69 Member := opens_struct (fun e : Member => (e.name, e.vector, e.publications)) (fun b => ⟨b.1, b.2.1, b.2.2⟩) (fun _ => rfl) Try.underlying69 (show Try.prog.cellsOf 69 = 3 by kernel_rfl) (opensF_cons rfl op49 (opensF_cons rfl op66 (opensF_one rfl (opens_slice Try.underlying67 (by kernel_rfl) op133))))
set_option maxRecDepth 100000 in
theorem lifted (os : Os) (started : os.Started) (H : Type) (enc : TypeId × Value → H) :
    ReturnsInHanded {} Try.checked os 7 .any (Rows.fnExactValidMemberSpec.pre6 enc Try.prog Try.f7 Rows.fnExactValidMemberRow.domain false) (Rows.fnExactValidMemberSpec.post enc Try.prog Try.f7 false true false false) := by
  refine returnsInHanded_of_change (C := Try.checked) own started (by kernel_rfl) Try.func7
    (ChangeSpec.witness6 (enc := enc) (C := Try.checked) false ⟨#[], #[.agg #[.slice none 0 0, .slice none 0 0, .slice none 0 0]], []⟩ 8 (by kernel_rfl) (by kernel_rfl) (by kernel_rfl) (by kernel_rfl)) ?_
  intro W base args ds gs before hval0 hW _ _
  have hval : ∀ (j : Nat) t v, Try.f7.params[j]? = some t → args[j]? = some v → Value.okWide Try.prog W .any base t v := hval0
  have hW' := hW
  obtain ⟨p, q, hA0, _⟩ := hW
  have hA : DataW.TrodAll enc Try.prog W 0 (fun _ => true) true Try.f7.params.toList args.toList ds p := hA0
  rw [Try.params7] at hA hval
  obtain ⟨v0, vs0, d0, ds0, p0, q0, hargs, rfl, rfl, h0, r0⟩ := ChangeShapes.trodAll_cons hA
  obtain ⟨rfl, rfl, rfl⟩ := trodAll_nil r0
  obtain rfl : args = #[v0] := by cases args; simp_all
  obtain ⟨a0, x0, rfl, k0, g0⟩ := (arg_struct Try.underlying69 op69) (hval 0 69 _ rfl rfl) h0
  have ht := true_ValidMember a0 k0
  refine (f7 W 0 (by decide) a0 x0.1.1 x0.1.2 (g0 (MF.rs .der x0.1.1 x0.1.2 a0.name.parts) (List.mem_cons_self)) x0.2.1.1 x0.2.1.2 (g0 (MF.rs .der x0.2.1.1 x0.2.1.2 a0.vector.entries) (by simp [GoT.fa])) x0.2.2.1 x0.2.2.2 (g0 (MF.rs .der x0.2.2.1 x0.2.2.2 a0.publications) (by simp [GoT.fa])) k0).2.mono fun e W1 ⟨v, he, hb, hv⟩ => ?_
  rw [ht] at hv
  obtain ⟨rfl, _⟩ := hv
  subst he
  exact ⟨_, rfl, law_post laid (by kernel_rfl) rfl rfl Try.underlying4 (fun ds h => by match ds, h with | [_], _ => rfl) hW' hb.below⟩
theorem over : Rows.fnExactValidMemberRow.holds Try.pinned (OpenSpec.ofChange Rows.fnExactValidMemberSpec) :=
  OpenClaim.holds_of_wide 7 Try.f7 rfl rfl rfl rfl rfl rfl rfl ⟨rfl, rfl, rfl, rfl, rfl⟩ rfl rfl rfl rfl rfl (by kernel_rfl) Try.func7 (by kernel_rfl)
    (of_decide_eq_true (by kernel_rfl)) (by unfold Func.isWrapper; first | (rw [if_pos (by decide +kernel)]; kernel_rfl) | (rw [if_neg (by decide +kernel)]; exact ⟨rfl, rfl⟩))
    (fun os started H enc _ => lifted os started H enc)
theorem proved : Rows.FnExactValidMemberSaid := over
#print axioms proved
end LawValidMember
end Go.Proofs.Ytikbfiljomdmiab
