/-
  FnExactAppendRecord: the law returns true at all arguments; conditions: those of the statement, no others. Written by a program (mklaw2.py).
-/
import Derived.Test.YtcipekdocckfgaaCL8
import Derived.Test.YtcipekdocckfgaaSame
import Derived.Test.YtcipekdocckfgaaOpen
namespace Go.Stp
set_option linter.unusedVariables false
set_option linter.unusedSimpArgs false
theorem same_AppendRecord (aL : Log) (aR : Record) : impl_AppendRecord aL aR = spec_AppendRecord aL aR := same_AppendRecord' aL aR
theorem bound_AppendRecord (aL : Log) (aR : Record) : sz (spec_AppendRecord aL aR).1 ≤ sz aL + sz aR + 1 := bnd_AppendRecord aL aR
theorem true_AppendRecord (aL : Log) (aR : Record) (haL : GoT.ok 10 aL) (haR : GoT.ok 10 aR) : laws_FnExactAppendRecord aL aR = true := by
  unfold laws_FnExactAppendRecord
  by_cases s0 : laws_szLog aL 1048576 < 0
  · simp only [dT s0, cond_true]
  have d0 := dF (show 0 ≤ laws_szLog aL 1048576 by omega)
  obtain ⟨t0, z0⟩ := (sz_Log_R aL 1048576 haL (by omega) (by omega)).pos (by omega)
  by_cases s1 : laws_szRecord aR (laws_szLog aL 1048576) < 0
  · simp only [dT s1, cond_true, d0, cond_false]
  have d1 := dF (show 0 ≤ laws_szRecord aR (laws_szLog aL 1048576) by omega)
  obtain ⟨t1, z1⟩ := (sz_Record_R aR (laws_szLog aL 1048576) haR (by omega) (by omega)).pos (by omega)
  obtain ⟨mp0, mq0, me0⟩ := mk_Log aL (1) (by omega) (by omega)
  obtain ⟨mp1, mq1, me1⟩ := mk_Record aR ((laws_markLog aL (1)).1) (by omega) (by omega)
  have dk := dF (show 0 ≤ (laws_markRecord aR ((laws_markLog aL (1)).1)).1 by omega)
  have hb := bound_AppendRecord aL aR
  have hb0 := hb
  obtain ⟨gp0, gq0, ge0⟩ := mk_Log (spec_AppendRecord aL aR).1 (1) (by omega) (by omega)
  have dg0 := dF (show 0 ≤ (laws_markLog (spec_AppendRecord aL aR).1 (1)).1 by omega)
  simp only [d0, cond_false, d1, to_Log, to_Record, same_AppendRecord, eq_Log, eq_Record, dk, ge0, dg0, Bool.not_true, bne_self_F, nbeq_self_F, beq_self_eq_true]
end Go.Stp
namespace Go.Proofs.Ytcipekdocckfgaa
open Go.Stp
open Go.RowKit (Below)
open Go.ChangeShapes Go.WideShapes Go.ChangeAt
namespace LawAppendRecord
theorem own : ownKnob Try.prog.godebug = none := by kernel_rfl
theorem laid : laidOutB Try.prog = true := by kernel_rfl
set_option maxRecDepth 100000 in
theorem op60 : Opens Try.prog 60 Name := opens_struct (fun e : Name => e.parts) (fun b => ⟨b⟩) (fun _ => rfl) Try.underlying60 (show Try.prog.cellsOf 60 = 1 by kernel_rfl) (opensF_one rfl (opens_slice Try.underlying58 (by kernel_rfl) (opens_str Try.underlying9 (by kernel_rfl))))
set_option maxRecDepth 100000 in
theorem op77 : Opens Try.prog 77 DataP := opens_struct (fun e : DataP => (e.name, e.content, e.keyName, e.freshUntil, e.signature)) (fun b => ⟨b.1, b.2.1, b.2.2.1, b.2.2.2.1, b.2.2.2.2⟩) (fun _ => rfl) Try.underlying77 (show Try.prog.cellsOf 77 = 5 by kernel_rfl) (opensF_cons rfl op60 (opensF_cons rfl (opens_slice Try.underlying63 (by kernel_rfl) (opens_byte Try.underlying5 (by kernel_rfl))) (opensF_cons rfl op60 (opensF_cons rfl (opens_int Try.underlying3 (by kernel_rfl)) (opensF_one rfl (opens_int Try.underlying3 (by kernel_rfl)))))))
set_option maxRecDepth 100000 in
theorem op79 : Opens Try.prog 79 Record := opens_struct (fun e : Record => (e.kind, e.data)) (fun b => ⟨b.1, b.2⟩) (fun _ => rfl) Try.underlying79 (show Try.prog.cellsOf 79 = 6 by kernel_rfl) (opensF_cons rfl (opens_int Try.underlying3 (by kernel_rfl)) (opensF_one rfl op77))
set_option maxRecDepth 100000 in
theorem op34 : Opens Try.prog 34 Log := opens_struct (fun e : Log => (e.durable, e.volatile)) (fun b => ⟨b.1, b.2⟩) (fun _ => rfl) Try.underlying34 (show Try.prog.cellsOf 34 = 2 by kernel_rfl) (opensF_cons rfl (opens_slice Try.underlying22 (by kernel_rfl) op79) (opensF_one rfl (opens_slice Try.underlying22 (by kernel_rfl) op79)))
set_option maxRecDepth 100000 in
theorem lifted (os : Os) (started : os.Started) (H : Type) (enc : TypeId × Value → H) :
    ReturnsInHanded {} Try.checked os 10 .any (Rows.fnExactAppendRecordSpec.pre6 enc Try.prog Try.f10 Rows.fnExactAppendRecordRow.domain false) (Rows.fnExactAppendRecordSpec.post enc Try.prog Try.f10 false true false false) := by
  refine returnsInHanded_of_change (C := Try.checked) own started (by kernel_rfl) Try.func10
    (ChangeSpec.witness6 (enc := enc) (C := Try.checked) false ⟨#[], #[.agg #[.slice none 0 0, .slice none 0 0], .agg #[.int .i64 (0), .slice none 0 0, .slice none 0 0, .slice none 0 0, .int .i64 (0), .int .i64 (0)]], []⟩ 8 (by kernel_rfl) (by kernel_rfl) (by kernel_rfl) (by kernel_rfl)) ?_
  intro W base args ds gs before hval0 hW _ _
  have hval : ∀ (j : Nat) t v, Try.f10.params[j]? = some t → args[j]? = some v → Value.okWide Try.prog W .any base t v := hval0
  have hW' := hW
  obtain ⟨p, q, hA0, _⟩ := hW
  have hA : DataW.TrodAll enc Try.prog W 0 (fun _ => true) true Try.f10.params.toList args.toList ds p := hA0
  rw [Try.params10] at hA hval
  obtain ⟨v0, vs0, d0, ds0, p0, q0, hargs, rfl, rfl, h0, r0⟩ := ChangeShapes.trodAll_cons hA
  obtain ⟨v1, vs1, d1, ds1, p1, q1, rfl, rfl, rfl, h1, r1⟩ := ChangeShapes.trodAll_cons r0
  obtain ⟨rfl, rfl, rfl⟩ := trodAll_nil r1
  obtain rfl : args = #[v0, v1] := by cases args; simp_all
  obtain ⟨a0, x0, rfl, k0, g0⟩ := (arg_struct Try.underlying34 op34) (hval 0 34 _ rfl rfl) h0
  obtain ⟨a1, x1, rfl, k1, g1⟩ := (arg_struct Try.underlying79 op79) (hval 1 79 _ rfl rfl) h1
  have ht := true_AppendRecord a0 a1 k0 k1
  refine (f10 W 0 (by decide) a0 x0.1.1 x0.1.2 (g0 (MF.rs .der x0.1.1 x0.1.2 a0.durable) (List.mem_cons_self)) x0.2.1 x0.2.2 (g0 (MF.rs .der x0.2.1 x0.2.2 a0.volatile) (by simp [GoT.fa])) a1 x1.2.1.1 x1.2.1.2 (g1 (MF.rs .der x1.2.1.1 x1.2.1.2 a1.data.name.parts) (List.mem_cons_self)) x1.2.2.1.1 x1.2.2.1.2 (g1 (MF.rs .der x1.2.2.1.1 x1.2.2.1.2 a1.data.content) (by simp [GoT.fa])) x1.2.2.2.1.1 x1.2.2.2.1.2 (g1 (MF.rs .der x1.2.2.2.1.1 x1.2.2.2.1.2 a1.data.keyName.parts) (by simp [GoT.fa])) k0 k1).2.mono fun e W1 ⟨v, he, hb, hv⟩ => ?_
  rw [ht] at hv
  obtain ⟨rfl, _⟩ := hv
  subst he
  exact ⟨_, rfl, law_post laid (by kernel_rfl) rfl rfl Try.underlying4 (fun ds h => by match ds, h with | [_, _], _ => rfl) hW' hb.below⟩
theorem over : Rows.fnExactAppendRecordRow.holds Try.pinned (OpenSpec.ofChange Rows.fnExactAppendRecordSpec) :=
  OpenClaim.holds_of_wide 10 Try.f10 rfl rfl rfl rfl rfl rfl rfl ⟨rfl, rfl, rfl, rfl, rfl⟩ rfl rfl rfl rfl rfl (by kernel_rfl) Try.func10 (by kernel_rfl)
    (of_decide_eq_true (by kernel_rfl)) (by unfold Func.isWrapper; first | (rw [if_pos (by decide +kernel)]; kernel_rfl) | (rw [if_neg (by decide +kernel)]; exact ⟨rfl, rfl⟩))
    (fun os started H enc _ => lifted os started H enc)
theorem proved : Rows.FnExactAppendRecordSaid := over
#print axioms proved
end LawAppendRecord
end Go.Proofs.Ytcipekdocckfgaa
