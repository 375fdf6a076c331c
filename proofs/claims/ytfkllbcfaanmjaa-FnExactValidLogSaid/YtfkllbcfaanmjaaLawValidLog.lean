/-
  FnExactValidLog: the law returns true at all arguments; conditions: those of the statement, no others. Written by a program (mklaw2.py).
-/
import Derived.Test.YtfkllbcfaanmjaaCL2
import Derived.Test.YtfkllbcfaanmjaaSame
import Derived.Test.YtfkllbcfaanmjaaOpen
namespace Go.Stp
set_option linter.unusedVariables false
set_option linter.unusedSimpArgs false
theorem same_ValidLog (aL : Log) : impl_ValidLog aL = spec_ValidLog aL := same_ValidLog' aL
theorem true_ValidLog (aL : Log) (haL : GoT.ok 10 aL) : laws_FnExactValidLog aL = true := by
  unfold laws_FnExactValidLog
  by_cases s0 : laws_szLog aL 1048576 < 0
  · simp only [dT s0, cond_true]
  have d0 := dF (show 0 ≤ laws_szLog aL 1048576 by omega)
  obtain ⟨t0, z0⟩ := (sz_Log_R aL 1048576 haL (by omega) (by omega)).pos (by omega)
  simp only [d0, cond_false, to_Log, same_ValidLog, eq_Log, Bool.not_true, bne_self_F, nbeq_self_F, beq_self_eq_true]
end Go.Stp
namespace Go.Proofs.Ytfkllbcfaanmjaa
open Go.Stp
open Go.RowKit (Below)
open Go.ChangeShapes Go.WideShapes Go.ChangeAt
namespace LawValidLog
theorem own : ownKnob Try.prog.godebug = none := by kernel_rfl
theorem laid : laidOutB Try.prog = true := by kernel_rfl
set_option maxRecDepth 100000 in
theorem op24 : Opens Try.prog 24 Name := opens_struct (fun e : Name => e.parts) (fun b => ⟨b⟩) (fun _ => rfl) Try.underlying24 (show Try.prog.cellsOf 24 = 1 by kernel_rfl) (opensF_one rfl (opens_slice Try.underlying22 (by kernel_rfl) (opens_str Try.underlying9 (by kernel_rfl))))
set_option maxRecDepth 100000 in
theorem op49 : Opens Try.prog 49 DataP := opens_struct (fun e : DataP => (e.name, e.content, e.keyName, e.freshUntil, e.signature)) (fun b => ⟨b.1, b.2.1, b.2.2.1, b.2.2.2.1, b.2.2.2.2⟩) (fun _ => rfl) Try.underlying49 (show Try.prog.cellsOf 49 = 5 by kernel_rfl) (opensF_cons rfl op24 (opensF_cons rfl (opens_slice Try.underlying27 (by kernel_rfl) (opens_byte Try.underlying5 (by kernel_rfl))) (opensF_cons rfl op24 (opensF_cons rfl (opens_int Try.underlying3 (by kernel_rfl)) (opensF_one rfl (opens_int Try.underlying3 (by kernel_rfl)))))))
set_option maxRecDepth 100000 in
theorem op56 : Opens Try.prog 56 Record := opens_struct (fun e : Record => (e.kind, e.data)) (fun b => ⟨b.1, b.2⟩) (fun _ => rfl) Try.underlying56 (show Try.prog.cellsOf 56 = 6 by kernel_rfl) (opensF_cons rfl (opens_int Try.underlying3 (by kernel_rfl)) (opensF_one rfl op49))
set_option maxRecDepth 100000 in
theorem op91 : Opens Try.prog 91 Log := opens_struct (fun e : Log => (e.durable, e.volatile)) (fun b => ⟨b.1, b.2⟩) (fun _ => rfl) Try.underlying91 (show Try.prog.cellsOf 91 = 2 by kernel_rfl) (opensF_cons rfl (opens_slice Try.underlying89 (by kernel_rfl) op56) (opensF_one rfl (opens_slice Try.underlying89 (by kernel_rfl) op56)))
set_option maxRecDepth 100000 in
theorem lifted (os : Os) (started : os.Started) (H : Type) (enc : TypeId × Value → H) :
    ReturnsInHanded {} Try.checked os 11 .any (Rows.fnExactValidLogSpec.pre6 enc Try.prog Try.f11 Rows.fnExactValidLogRow.domain false) (Rows.fnExactValidLogSpec.post enc Try.prog Try.f11 false true false false) := by
  refine returnsInHanded_of_change (C := Try.checked) own started (by kernel_rfl) Try.func11
    (ChangeSpec.witness6 (enc := enc) (C := Try.checked) false ⟨#[], #[.agg #[.slice none 0 0, .slice none 0 0]], []⟩ 8 (by kernel_rfl) (by kernel_rfl) (by kernel_rfl) (by kernel_rfl)) ?_
  intro W base args ds gs before hval0 hW _ _
  have hval : ∀ (j : Nat) t v, Try.f11.params[j]? = some t → args[j]? = some v → Value.okWide Try.prog W .any base t v := hval0
  have hW' := hW
  obtain ⟨p, q, hA0, _⟩ := hW
  have hA : DataW.TrodAll enc Try.prog W 0 (fun _ => true) true Try.f11.params.toList args.toList ds p := hA0
  rw [Try.params11] at hA hval
  obtain ⟨v0, vs0, d0, ds0, p0, q0, hargs, rfl, rfl, h0, r0⟩ := ChangeShapes.trodAll_cons hA
  obtain ⟨rfl, rfl, rfl⟩ := trodAll_nil r0
  obtain rfl : args = #[v0] := by cases args; simp_all
  obtain ⟨a0, x0, rfl, k0, g0⟩ := (arg_struct Try.underlying91 op91) (hval 0 91 _ rfl rfl) h0
  have ht := true_ValidLog a0 k0
  refine (f11 W 0 (by decide) a0 x0.1.1 x0.1.2 (g0 (MF.rs .der x0.1.1 x0.1.2 a0.durable) (List.mem_cons_self)) x0.2.1 x0.2.2 (g0 (MF.rs .der x0.2.1 x0.2.2 a0.volatile) (by simp [GoT.fa])) k0).2.mono fun e W1 ⟨v, he, hb, hv⟩ => ?_
  rw [ht] at hv
  obtain ⟨rfl, _⟩ := hv
  subst he
  exact ⟨_, rfl, law_post laid (by kernel_rfl) rfl rfl Try.underlying4 (fun ds h => by match ds, h with | [_], _ => rfl) hW' hb.below⟩
theorem over : Rows.fnExactValidLogRow.holds Try.pinned (OpenSpec.ofChange Rows.fnExactValidLogSpec) :=
  OpenClaim.holds_of_wide 11 Try.f11 rfl rfl rfl rfl rfl rfl rfl ⟨rfl, rfl, rfl, rfl, rfl⟩ rfl rfl rfl rfl rfl (by kernel_rfl) Try.func11 (by kernel_rfl)
    (of_decide_eq_true (by kernel_rfl)) (by unfold Func.isWrapper; first | (rw [if_pos (by decide +kernel)]; kernel_rfl) | (rw [if_neg (by decide +kernel)]; exact ⟨rfl, rfl⟩))
    (fun os started H enc _ => lifted os started H enc)
theorem proved : Rows.FnExactValidLogSaid := over
#print axioms proved
end LawValidLog
end Go.Proofs.Ytfkllbcfaanmjaa
