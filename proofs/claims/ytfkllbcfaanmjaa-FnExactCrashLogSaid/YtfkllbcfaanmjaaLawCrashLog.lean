/-
  FnExactCrashLog: the law returns true at all arguments; conditions: those of the statement, no others. Written by a program (mklaw2.py).
-/
import Derived.Test.YtfkllbcfaanmjaaCL3
import Derived.Test.YtfkllbcfaanmjaaSame
import Derived.Test.YtfkllbcfaanmjaaOpen
namespace Go.Stp
set_option linter.unusedVariables false
set_option linter.unusedSimpArgs false
theorem recsL_impl : ∀ (l o : List Record), impl_copyRecords_L1 l o = o ++ l
  | [], o => by simp [impl_copyRecords_L1]
  | e :: l, o => by
    simp only [impl_copyRecords_L1]
    rw [recsL_impl l]
    simp [impl_copyData, impl_copyName]
theorem recs_impl (l : List Record) : impl_copyRecords l = l := by simp [impl_copyRecords, recsL_impl]
theorem recsL_spec : ∀ (l o : List Record), spec_l29Recs_L1 l o = o ++ l
  | [], o => by simp [spec_l29Recs_L1]
  | e :: l, o => by
    simp only [spec_l29Recs_L1]
    rw [recsL_spec l]
    simp [spec_l8Copy, spec_l4Copy]
theorem recs_spec (l : List Record) : spec_l29Recs l = l := by simp [spec_l29Recs, recsL_spec]
theorem szL_app {α : Type} [GoT α] [Sz α] (a b : List α) : szL (a ++ b) = szL a + szL b := by simp [szL]
theorem szL_take {α : Type} [GoT α] [Sz α] (a : List α) (i : Nat) : szL (a.take i) ≤ szL a := by
  have h := szL_app (a.take i) (a.drop i)
  rw [List.take_append_drop] at h
  omega
theorem mx_mn (a b : Int) : spec_Max 0 (spec_Min a b) = max 0 (min a b) := by
  unfold spec_Max spec_Min
  cases hc : decide (b < a)
  · have h := of_decide_eq_false hc
    show (bif decide (a > 0) then a else 0) = _
    cases hd : decide (a > 0)
    · have k := of_decide_eq_false hd
      show (0 : Int) = _
      omega
    · have k := of_decide_eq_true hd
      show a = _
      omega
  · have h := of_decide_eq_true hc
    show (bif decide (b > 0) then b else 0) = _
    cases hd : decide (b > 0)
    · have k := of_decide_eq_false hd
      show (0 : Int) = _
      omega
    · have k := of_decide_eq_true hd
      show b = _
      omega
theorem same_CrashLog (aL : Log) (aN : Int) : impl_CrashLog aL aN = spec_CrashLog aL aN := by simp only [impl_CrashLog, spec_CrashLog, mx_mn, recs_impl, recs_spec]
theorem bound_CrashLog (aL : Log) (aN : Int) : sz (spec_CrashLog aL aN) ≤ sz aL := by
  simp only [spec_CrashLog, recs_spec, sz_Log, sz_list, szL_nil, List.length_append, szL_app, List.length_nil, List.length_take]
  have := szL_take aL.volatile (Int.toNat (spec_Max 0 (spec_Min aN (((aL.volatile).length : Nat) : Int))))
  omega
theorem true_CrashLog (aL : Log) (aN : Int) (haL : GoT.ok 10 aL) : laws_FnExactCrashLog aL aN = true := by
  unfold laws_FnExactCrashLog
  by_cases s0 : laws_szLog aL 1048576 < 0
  · simp only [dT s0, cond_true]
  have d0 := dF (show 0 ≤ laws_szLog aL 1048576 by omega)
  obtain ⟨t0, z0⟩ := (sz_Log_R aL 1048576 haL (by omega) (by omega)).pos (by omega)
  obtain ⟨mp0, mq0, me0⟩ := mk_Log aL (1) (by omega) (by omega)
  have dk := dF (show 0 ≤ (laws_markLog aL (1)).1 by omega)
  have hb := bound_CrashLog aL aN
  have hb0 := hb
  obtain ⟨gp0, gq0, ge0⟩ := mk_Log (spec_CrashLog aL aN) (1) (by omega) (by omega)
  have dg0 := dF (show 0 ≤ (laws_markLog (spec_CrashLog aL aN) (1)).1 by omega)
  simp only [d0, cond_false, to_Log, same_CrashLog, eq_Log, dk, ge0, dg0, Bool.not_true, bne_self_F, nbeq_self_F, beq_self_eq_true]
end Go.Stp
namespace Go.Proofs.Ytfkllbcfaanmjaa
open Go.Stp
open Go.RowKit (Below)
open Go.ChangeShapes Go.WideShapes Go.ChangeAt
namespace LawCrashLog
theorem own : ownKnob Try.prog.godebug = none := by kernel_rfl
theorem laid : laidOutB Try.prog = true := by kernel_rfl
set_option maxRecDepth 100000 in
theorem op24 : Opens Try.prog 24 Name := opens_struct (fun e : Name => e.parts) (fun b => ⟨b⟩) (fun _ => rfl) Try.underlying24 (show Try.prog.cellsOf 24 = 1 by kernel_rfl) (opensF_one rfl (opens_slice Try.underlying22 (by kernel_rfl) (opens_str Try.underlying9 (by kernel_rfl))))
set_option maxRecDepth 100000 in
theorem op49 : Opens Try.prog 49 DataP := opens_struct (fun e : DataP => (e.name, e.content, e.keyName, e.freshUntil, e.signature)) (fun b => ⟨b.1, b.2.1, b.2.2.1, b.2.2.2.1, b.2.2.2.2⟩) (fun _ => rfl) Try.underlying49 (show Try.prog.cellsOf 49 = 5 by kernel_rfl) (opensF_cons rfl op24 (opensF_cons rfl (opens_slice Try.underlying27 (by kernel_rfl) (opens_byte Try.underlying5 (by kernel_rfl))) (opensF_cons rfl op24 (opensF_cons rfl (opens_int Try.underlying3 (by kernel_rfl)) (opensF_one rfl (opens_int Try.underlying3 (by kernel_rfl)))))))
set_option maxRecDepth 100000 in
theorem op56 : Opens Try.prog 56 Record := opens_struct (fun e : Record => (e.kind, e.data)) (fun b => ⟨b.1, b.2⟩) (fun _ => rfl) Try.underlying56 (show Try.prog.cellsOf 56 = 6 by kernel_rfl) (opensF_cons rfl (opens_int Try.underlying3 (by kernel_rfl)) (opensF_one rfl op49))
set_option maxRecDepth 100000 in
theorem op91 : Opens Try.prog 91 Log := opens_struct (fun e : Log => (e.durable, e.volatile)) (fun b => ⟨b.1, b.2⟩) (fun _ => rfl) Try.underlying91 (show Try.prog.cellsOf 91 = 2 by kernel_rfl) (opensF_cons rfl (opens_slice Try.underlying89 (by kernel_rfl) op56) (opensF_one rfl (opens_slice Try.underlying89 (by kernel_rfl) op56)))
set_option maxRecDepth 100000 in
theorem lifted (os : Os) (started : os.Started) (H : Type) (enc : TypeId × Value → H) :
    ReturnsInHanded {} Try.checked os 14 .any (Rows.fnExactCrashLogSpec.pre6 enc Try.prog Try.f14 Rows.fnExactCrashLogRow.domain false) (Rows.fnExactCrashLogSpec.post enc Try.prog Try.f14 false true false false) := by
  refine returnsInHanded_of_change (C := Try.checked) own started (by kernel_rfl) Try.func14
    (ChangeSpec.witness6 (enc := enc) (C := Try.checked) false ⟨#[], #[.agg #[.slice none 0 0, .slice none 0 0], .int .i64 (0)], []⟩ 8 (by kernel_rfl) (by kernel_rfl) (by kernel_rfl) (by kernel_rfl)) ?_
  intro W base args ds gs before hval0 hW _ _
  have hval : ∀ (j : Nat) t v, Try.f14.params[j]? = some t → args[j]? = some v → Value.okWide Try.prog W .any base t v := hval0
  have hW' := hW
  obtain ⟨p, q, hA0, _⟩ := hW
  have hA : DataW.TrodAll enc Try.prog W 0 (fun _ => true) true Try.f14.params.toList args.toList ds p := hA0
  rw [Try.params14] at hA hval
  obtain ⟨v0, vs0, d0, ds0, p0, q0, hargs, rfl, rfl, h0, r0⟩ := ChangeShapes.trodAll_cons hA
  obtain ⟨v1, vs1, d1, ds1, p1, q1, rfl, rfl, rfl, h1, r1⟩ := ChangeShapes.trodAll_cons r0
  obtain ⟨rfl, rfl, rfl⟩ := trodAll_nil r1
  obtain rfl : args = #[v0, v1] := by cases args; simp_all
  obtain ⟨a0, x0, rfl, k0, g0⟩ := (arg_struct Try.underlying91 op91) (hval 0 91 _ rfl rfl) h0
  obtain ⟨a1, x1, rfl, k1, g1⟩ := (arg_int Try.underlying3) (hval 1 3 _ rfl rfl) h1
  have ht := true_CrashLog a0 a1 k0
  refine (f14 W 0 (by decide) a0 x0.1.1 x0.1.2 (g0 (MF.rs .der x0.1.1 x0.1.2 a0.durable) (List.mem_cons_self)) x0.2.1 x0.2.2 (g0 (MF.rs .der x0.2.1 x0.2.2 a0.volatile) (by simp [GoT.fa])) a1 k0 k1).2.mono fun e W1 ⟨v, he, hb, hv⟩ => ?_
  rw [ht] at hv
  obtain ⟨rfl, _⟩ := hv
  subst he
  exact ⟨_, rfl, law_post laid (by kernel_rfl) rfl rfl Try.underlying4 (fun ds h => by match ds, h with | [_, _], _ => rfl) hW' hb.below⟩
theorem over : Rows.fnExactCrashLogRow.holds Try.pinned (OpenSpec.ofChange Rows.fnExactCrashLogSpec) :=
  OpenClaim.holds_of_wide 14 Try.f14 rfl rfl rfl rfl rfl rfl rfl ⟨rfl, rfl, rfl, rfl, rfl⟩ rfl rfl rfl rfl rfl (by kernel_rfl) Try.func14 (by kernel_rfl)
    (of_decide_eq_true (by kernel_rfl)) (by unfold Func.isWrapper; first | (rw [if_pos (by decide +kernel)]; kernel_rfl) | (rw [if_neg (by decide +kernel)]; exact ⟨rfl, rfl⟩))
    (fun os started H enc _ => lifted os started H enc)
theorem proved : Rows.FnExactCrashLogSaid := over
#print axioms proved
end LawCrashLog
end Go.Proofs.Ytfkllbcfaanmjaa
